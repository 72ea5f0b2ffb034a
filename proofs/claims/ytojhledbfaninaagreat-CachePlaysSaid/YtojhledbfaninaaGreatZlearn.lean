/- The document's Learn, walked. -/
import Derived.Test.YtojhledbfaninaaGreatZlearnp
namespace Go.Proofs.YtojhledbfaninaaGreat
open Go Go.RowKit Go.Shelf Go.Sort
attribute [local go_sem] bneI

theorem below_drw {n₀ : Nat} {a w : World} (h : Below n₀ a w) : Below n₀ a w.drew := ⟨h.os, h.tape, h.output, h.size, h.block⟩
theorem own_belowZ {W W' : World} {base : Nat} {e : TypeId} {size : Nat} {v : Value} {k : Nat} {xs : List Value} (h : W.ownsRow base e size v k xs) (hb : Below W.heap.size W W') : W'.ownsRow base e size v k xs :=
  h.kept (grownBy_of_below hb none) (Classical.em _)
theorem heap_setCell_self {W : World} {b off : Nat} {cs : Array Value} {t : TypeId} {f : Nat × Nat} {v : Value} (h : W.heap[b]? = some (.cells cs t f)) : (W.setCell ⟨b, off, none⟩ v).heap[b]? = some (.cells (cs.setIfInBounds off v) t f) := by
  simp [World.setCell, Array.getElem?_modify, h]
theorem row_block {w : World} {b c m : Nat} {cs : Array Value} {t : TypeId} {fr : Nat × Nat} (h : w.heap[b]? = some (.cells cs t fr)) : RowIn w (b + 1) (.slice (some ⟨b, 0, none⟩) m c) m cs.toList :=
  .inr ⟨_, _, rfl, fun _ => Nat.lt_succ_self _, World.news_of_block h⟩
theorem grownBy_setCell (w : World) (a : Addr) (u : Value) : w.grownBy (w.setCell a u) (some a.block) :=
  ⟨rfl, rfl, rfl, by simp [World.setCell], fun k _ hne => Below.heap_setCell w a u k (fun e => hne (by rw [e]))⟩
theorem own_shape {w : World} {base : Nat} {e : TypeId} {size : Nat} {v : Value} {n : Nat} {xs : List Value} (h : w.ownsRow base e size v n xs) : ∃ p c, v = .slice p n c := by
  rcases h.2 with ⟨rfl, rfl⟩ | ⟨g, cap, cur, rfl, _⟩
  · exact ⟨none, 0, rfl⟩
  · exact ⟨_, _, rfl⟩
theorem map_erase {α β : Type} (f : α → β) (l : List α) (k : Nat) : (l.eraseIdx k).map f = (l.map f).eraseIdx k := by
  rw [List.eraseIdx_eq_take_drop_succ, List.eraseIdx_eq_take_drop_succ]
  simp [List.map_take, List.map_drop]
/-- Where the new row lies. -/
theorem fin_Z {w w3 : World} {B : Nat → Prop} {H bd : Nat} {most : Int} {v u : Value} {zs : List EM} {n : Nat} (hb : w3.heap[bd]? = some (.cells #[.int .i64 most, u] 60 (0, 0)))
    (ho : w3.ownsRow H 67 6 v n (ec zs)) (hn : n = zs.length) (hbH : bd < H) (hwH : w.heap.size ≤ H) (ht : TextsE w3 (fun k => (B k ∧ k ≠ bd) ∨ w.heap.size ≤ k) zs) (hbw : bd < w.heap.size) : DocIs (w3.setCell ⟨bd, 1, none⟩ v) (fun k => B k ∨ w.heap.size ≤ k) bd most zs := by
  subst hn
  have hge : ∀ k, v.ownBlock = some k → H ≤ k := own_ge ho
  refine ⟨v, heap_setCell_self hb, rowE_setCell (rowE_own ho) (fun k hk e => by have := hge k hk; dsimp only at e; omega), fun x hx => ?_, own_shOk ho, fun g hg _ => .inr (Nat.le_trans hwH (hge g hg))⟩
  have h1 := (ht x hx).keep (W' := w3.setCell ⟨bd, 1, none⟩ v) fun a u hu hB => cell_grown (grownBy_setCell w3 ⟨bd, 1, none⟩ v) hu (fun e => by
    have e' : bd = a.block := Option.some.inj e
    rcases hB with ⟨_, h⟩ | h
    · exact h e'.symm
    · omega)
  exact h1.mono fun k hk => hk.imp And.left id

set_option maxRecDepth 100000 in
set_option maxHeartbeats 8000000 in
theorem refLearn_any (w : World) (B : Nat → Prop) (bd : Nat) (most : Int) (zs : List EM) (h : DocIs w B bd most zs) (hG : GoodE most (zs.map fun e : EM => e.1)) (h8 : most ≤ 8) (d i : Bytes) (m : Nat) (s : SH) (mx : List Bytes) (age now : Int) (hm : MxAt w B s mx) (hf : FitR ⟨d, i, m, mx, age, now⟩) (hBd : ∀ k, B k → k ≠ bd) :
    Calls Tryz.prog 12 #[.pointer (some ⟨bd, 0, none⟩), .string ⟨d.toArray⟩, .string ⟨i.toArray⟩, pcl m s age, .int .i64 now] w fun e w' => RLearnPost w B bd most zs ⟨d, i, m, mx, age, now⟩ e w' := by
  obtain ⟨p0, n0, c0⟩ := s
  unfold pcl shV
  dsimp only
  obtain ⟨W0, hW0⟩ : ∃ W, W = w.alloc (.cells #[.int .u8 (m : Int), .slice p0 n0 c0, .int .i64 age] 42) := ⟨_, rfl⟩
  have hB0 : Below w.heap.size w W0 := by rw [hW0]; exact (Below.refl _ w).alloc (Nat.le_refl _) _
  have hp0 : W0.heap[w.heap.size]? = some (.cells #[.int .u8 (m : Int), .slice p0 n0 c0, .int .i64 age] 42 (0, 0)) := by rw [hW0]; exact heap_new rfl
  have hs0 : W0.heap.size = w.heap.size + 1 := by rw [hW0]; simp
  have q0 : W0.cell? ⟨w.heap.size, 0, none⟩ = some (.int .u8 (m : Int)) := by simp [World.cell?, hp0]
  have q1 : W0.cell? ⟨w.heap.size, 1, none⟩ = some (.slice p0 n0 c0) := by simp [World.cell?, hp0]
  have q2 : W0.cell? ⟨w.heap.size, 2, none⟩ = some (.int .i64 age) := by simp [World.cell?, hp0]
  have hlen : zs.length ≤ 8 := by have := hG.len; simp at this; omega
  have HH := Lib.hid (And.intro h (And.intro hG (And.intro hm (And.intro hf (And.intro hB0 (And.intro hp0 (And.intro hs0 hBd)))))))
  clear h hm hf hB0 hp0 hG hBd
  by_cases he : now < 0 ∨ 1099511627776 < now
  · have hl := learn_early (x := (⟨d, i, m, mx, age, now⟩ : PE)) (most := most) (L := zs.map fun e : EM => e.1) he
    have HL := Lib.hid hl
    clear hl
    by_cases h1 : now < 0
    · clear he
      go_enter Tryz.func12, Tryz.ntmps12
      go_upto_region 1 with (fail)
      rw [← hW0]
      clear hW0 hs0
      go_wp2
      exact bodyPost_ret (v := .int .i64 1) (by simp [results, Tryz.results12, go_sem]) rfl (rlearn_same HH.out.1 HH.out.2.2.2.2.1 (by rw [HL.out]; rfl) (learnS_bad (by rw [HL.out]; decide)))
    · have h2 : 1099511627776 < now := by omega
      clear he
      go_enter Tryz.func12, Tryz.ntmps12
      go_upto_region 1 with (fail)
      rw [← hW0]
      clear hW0 hs0
      go_wp2
      exact bodyPost_ret (v := .int .i64 1) (by simp [results, Tryz.results12, go_sem]) rfl (rlearn_same HH.out.1 HH.out.2.2.2.2.1 (by rw [HL.out]; rfl) (learnS_bad (by rw [HL.out]; decide)))
  have h1 : ¬ now < 0 := by omega
  have h2 : ¬ 1099511627776 < now := by omega
  have HE := Lib.hid he
  clear he
  go_enter Tryz.func12, Tryz.ntmps12
  go_upto_region 1 with (fail)
  rw [← hW0]
  clear hW0
  go_upto_region 4 with (fail)
  generalize hW1 : World.alloc _ _ = W1
  have hB1 : Below W0.heap.size W0 W1 := by rw [← hW1]; exact (Below.refl _ _).alloc (Nat.le_refl _) _
  have hx1 : W1.heap[W0.heap.size]? = some (.cells #[.string ⟨d.toArray⟩, .string ⟨i.toArray⟩, .int .u8 (m : Int), .slice p0 n0 c0, .int .i64 age, .int .i64 now] 67 (0, 0)) := by rw [← hW1]; exact heap_new rfl
  rw [hs0] at hx1
  have hw1 : Below w.heap.size w W1 := HH.out.2.2.2.2.1.trans (hB1.mono HH.out.2.2.2.2.1.size)
  have hM := refMayE_any ((⟨d, i, m, mx, age, now⟩, (p0, n0, c0)) : EM) B W1 (HH.out.2.2.1.below hw1) HH.out.2.2.2.1
  rw [lit_ev] at hM
  dsimp only at hM
  obtain ⟨y0, y1, y2, y3, y4, y5⟩ := box6 hx1
  have H1 := Lib.hid (And.intro hw1 (And.intro hx1 ((hB1.block _ (Array.getElem?_eq_some_iff.1 HH.out.2.2.2.2.2.1).1).trans HH.out.2.2.2.2.2.1)))
  clear hW1 hB1 hx1 hw1 q0 q1 q2 hs0
  go_wp2_with fail
  refine hM.mono ?_
  rintro e W2 ⟨rfl, hb2⟩
  clear hM y0 y1 y2 y3 y4 y5
  have hx2 := (hb2.block _ (Array.getElem?_eq_some_iff.1 H1.out.2.1).1).trans H1.out.2.1
  have hp2 := (hb2.block _ (Array.getElem?_eq_some_iff.1 H1.out.2.2).1).trans H1.out.2.2
  have hw2 := H1.out.1.trans (hb2.mono H1.out.1.size)
  cases hmay : mayE ⟨d, i, m, mx, age, now⟩ with
  | false =>
    have hl := learn_form (most := most) (L := zs.map fun e : EM => e.1) HE.out hmay
    have HL := Lib.hid (And.intro hl hw2)
    clear hl hw2 hx2 hp2 hb2 hmay
    go_wp2
    exact bodyPost_ret (v := .int .i64 4) (by simp [results, Tryz.results12, go_sem]) rfl (rlearn_same HH.out.1 HL.out.2 (by rw [HL.out.1]; rfl) (learnS_bad (by rw [HL.out.1]; decide)))
  | true =>
    have hage := may_age hmay
    dsimp only at hage
    have hwr : IntKind.i64.wrap (now + age) = now + age := by rw [IntKind.wrap_i64]; omega
    have hwr2 : wrap64 (now + age) = now + age := by unfold wrap64; omega
    have q2 : W2.cell? ⟨w.heap.size, 2, none⟩ = some (.int .i64 age) := by simp [World.cell?, hp2]
    obtain ⟨y0, y1, y2, y3, y4, y5⟩ := box6 hx2
    have fy := froz6 hx2
    have H2 := Lib.hid (And.intro hw2 (And.intro hx2 hmay))
    clear hw2 hx2 hp2 hb2 hmay hage
    go_upto_region 7 with (fail)
    generalize hW3 : World.setCell _ _ _ = W3
    have hx3 : W3.heap[w.heap.size + 1]? = some (.cells #[.string ⟨d.toArray⟩, .string ⟨i.toArray⟩, .int .u8 (m : Int), .slice p0 n0 c0, .int .i64 age, .int .i64 (now + age)] 67 (0, 0)) := by rw [← hW3]; exact heap_setCell_self H2.out.2.1
    have hw3 : Below w.heap.size w W3 := by rw [← hW3]; exact H2.out.1.setCell (by dsimp only; omega) _
    have hD3 := HH.out.1.below hw3
    obtain ⟨v, hbx, hrow, htx, hok, hown⟩ := hD3
    obtain ⟨p, c, rfl⟩ := hrow.sh
    have k0 : W3.cell? ⟨bd, 0, none⟩ = some (.int .i64 most) := by simp [World.cell?, hbx]
    have k1 : W3.cell? ⟨bd, 1, none⟩ = some (.slice p zs.length c) := by simp [World.cell?, hbx]
    have H3 := Lib.hid (And.intro hw3 (And.intro hx3 (And.intro hbx (And.intro hrow (And.intro htx hok)))))
    clear hW3 hx3 hw3 hbx hrow htx hok hown q2 y0 y1 y2 y3 y4 y5 fy hwr hwr2
    go_wp2_with fail
    go_loopw [12, 13] (fun s12 s13 wr => ∃ (j : Nat) (ws : List EM) (q : Option Addr) (cc : Nat), s13 = .int .i64 (j : Int) ∧ s12 = .slice q ws.length cc ∧ j ≤ zs.length ∧ RowE wr (.slice q ws.length cc) ws ∧ ShOk (.slice q ws.length cc) ∧ ((hasE d ((zs.map fun e : EM => e.1).take j) = false ∧ ws = zs) ∨ (hasE d ((zs.map fun e : EM => e.1).take j) = true ∧ ∃ (k : Nat) (hk : k < zs.length), zs[k].1.dom = d ∧ ws = zs.eraseIdx k)) ∧ Below W3.heap.size W3 wr) (fun _ s13 _ => zs.length - natI s13)
    case atStart => exact ⟨0, zs, p, c, rfl, rfl, Nat.zero_le _, H3.out.2.2.2.1, H3.out.2.2.2.2.2, .inl ⟨rfl, rfl⟩, Below.refl _ _⟩
    case round =>
      obtain ⟨j, ws, q, cc, rfl, rfl, hj, hrw, hokw, hst, hBj⟩ := hrel
      generalize hww : wr = wr1 at *
      clear hww
      have l0 := below_keep hBj _ _ k0
      have l1 := below_keep hBj _ _ k1
      by_cases hlast : j < zs.length
      · have hli : (j : Int) < (zs.length : Int) := by omega
        obtain ⟨b, o, hpe, hbl, hc⟩ := RowE.at H3.out.2.2.2.1 j hlast
        have HP := Lib.hid hpe
        subst hpe
        obtain ⟨y0, -, -, -, -, -⟩ := hc j hlast
        replace y0 := six_below hBj hbl y0
        have htk := hasE_take (d := d) (L := zs.map fun e : EM => e.1) (i := j) (by simpa using hlast)
        have hLj : (zs.map fun e : EM => e.1)[j]'(by simpa using hlast) = zs[j].1 := by simp
        rw [hLj] at htk
        clear hc hLj
        by_cases hd : zs[j].1.dom = d
        · have hW := without_any (.slice (some ⟨b, o, none⟩) zs.length c) zs j wr1 (H3.out.2.2.2.1.below hBj) (by omega) hlast
          rw [hd] at y0
          have h5 : ((⟨d.toArray⟩ : ByteArray).toList == (⟨d.toArray⟩ : ByteArray).toList) = true := beq_self_eq_true _
          have h6 : (d == d) = true := beq_self_eq_true _
          have h7 : decide (d = d) = true := by simp
          have HJ := Lib.hid (And.intro hBj (And.intro hd htk))
          clear hBj hd htk hst hrw hokw hbl
          go_wp2_with fail
          refine hW.mono ?_
          rintro e w5 ⟨v', rfl, hr5, hok5, hb5⟩
          obtain ⟨q5, c5, rfl⟩ := hr5.sh
          have HW := Lib.hid (And.intro hr5 (And.intro hok5 (HJ.out.1.trans (hb5.mono HJ.out.1.size))))
          clear hW hr5 hok5 hb5 y0
          go_wp2
          go_roundw
          case rel => exact ⟨j + 1, zs.eraseIdx j, q5, c5, by simp, rfl, by omega, HW.out.1, HW.out.2.1, .inr ⟨by rw [HJ.out.2.2, HJ.out.2.1]; simp, j, hlast, HJ.out.2.1, rfl⟩, HW.out.2.2⟩
          case measure => simp [natI]; omega
        · have h5 : ((⟨zs[j].1.dom.toArray⟩ : ByteArray).toList == (⟨d.toArray⟩ : ByteArray).toList) = false := by
            rw [ByteArray.toList_eq, ByteArray.toList_eq]
            simpa using hd
          have h6 : (zs[j].1.dom == d) = false := by simpa using hd
          have h7 : decide (zs[j].1.dom = d) = false := by simpa using hd
          have hst2 : (hasE d ((zs.map fun e : EM => e.1).take (j + 1)) = false ∧ ws = zs) ∨ (hasE d ((zs.map fun e : EM => e.1).take (j + 1)) = true ∧ ∃ (k : Nat) (hk : k < zs.length), zs[k].1.dom = d ∧ ws = zs.eraseIdx k) := by
            rw [htk, h7, Bool.or_false]
            exact hst
          have HJ := Lib.hid (And.intro hBj (And.intro hst2 (And.intro hrw hokw)))
          clear hBj hd htk hst hst2 hrw hokw hbl
          generalize zs[j].1.dom = dj at y0 h5 h6 h7
          go_wp2
          go_roundw
          case rel => exact ⟨j + 1, ws, q, cc, by simp, rfl, by omega, HJ.out.2.2.1, HJ.out.2.2.2, HJ.out.2.1, HJ.out.1⟩
          case measure => simp [natI]; omega
      · have hli : ¬ (j : Int) < (zs.length : Int) := by omega
        have hlz : (zs.map fun e : EM => e.1).length = zs.length := by simp
        obtain rfl : j = zs.length := by omega
        have htl : (zs.map fun e : EM => e.1).take zs.length = zs.map fun e : EM => e.1 := List.take_of_length_le (by simp)
        rw [htl] at hst
        have hmw : ws.map (fun e : EM => e.1) = dropE d (zs.map fun e : EM => e.1) := by
          rcases hst with ⟨h0, rfl⟩ | ⟨h0, k, hk, hkd, rfl⟩
          · exact (dropE_none h0).symm
          · have hme : (zs.eraseIdx k).map (fun e : EM => e.1) = (zs.map fun e : EM => e.1).eraseIdx k := map_erase _ _ _
            rw [hme, dropE_at HH.out.2.1.asc (by simpa using hk)]
            simp [hkd]
        have hsub : ∀ x ∈ ws, x ∈ zs := by
          rcases hst with ⟨_, rfl⟩ | ⟨_, k, _, _, rfl⟩
          · exact fun x hx => hx
          · exact fun x hx => List.mem_of_mem_eraseIdx hx
        have hwz : hasE d (zs.map fun e : EM => e.1) = false → ws = zs := by
          rcases hst with ⟨_, h0⟩ | ⟨h0, _⟩
          · exact fun _ => h0
          · exact fun h1 => by rw [h0] at h1; cases h1
        have hwl : ws.length = (dropE d (zs.map fun e : EM => e.1)).length := by rw [← hmw]; simp
        obtain ⟨fb, hfb⟩ : ∃ fb, fb = decide ((ws.length : Int) = most) := ⟨_, rfl⟩
        have hfb1 : decide ((ws.length : Int) = most) = fb := hfb.symm
        have hfb2 : ((ws.length : Int) == most) = fb := by rw [hfb]; rfl
        have hwl8 : ws.length ≤ 8 := by have := dropE_le d (zs.map fun e : EM => e.1); omega
        have HW := Lib.hid (And.intro hmw (And.intro hsub (And.intro hwz (And.intro hwl (And.intro hfb (And.intro hrw (And.intro hokw hBj)))))))
        clear hst hmw hsub hwz hwl hfb hrw hokw hBj hlz hj htl
        go_upto_if 71 with (fail)
        go_cut [12, 14, 15] from 72 to 112 (fun s12 _ _ w' => ∃ (us : List EM) (q2 : Option Addr) (c2 : Nat), s12 = .slice q2 us.length c2 ∧ RowE w' (.slice q2 us.length c2) us ∧ ShOk (.slice q2 us.length c2) ∧ Room most (zs.map fun e : EM => e.1) ⟨d, i, m, mx, age, now⟩ (us.map fun e : EM => e.1) ∧ (∀ x ∈ us, x ∈ zs) ∧ Below W3.heap.size W3 w')
        case first =>
          cases fb with
          | false =>
            try simp only [hfb1, hfb2]
            have hR := room_drop HH.out.2.1 h8 HE.out H2.out.2.2 (by
              intro e
              dsimp only at e
              rw [← HW.out.2.2.2.1] at e
              have := HW.out.2.2.2.2.1
              rw [decide_eq_true e] at this
              cases this)
            dsimp only at hR
            rw [← HW.out.1] at hR
            have HF := Lib.hid hR
            clear hR hfb1 hfb2
            go_wp2
            go_meet
            case rel => exact ⟨ws, q, cc, rfl, HW.out.2.2.2.2.2.1, HW.out.2.2.2.2.2.2.1, HF.out, HW.out.2.1, HW.out.2.2.2.2.2.2.2⟩
          | true =>
            try simp only [hfb1, hfb2]
            have hfull : ((dropE d (zs.map fun e : EM => e.1)).length : Int) = most := by
              rw [← HW.out.2.2.2.1]
              exact of_decide_eq_true HW.out.2.2.2.2.1.symm
            obtain rfl := HW.out.2.2.1 (full_not (x := (⟨d, i, m, mx, age, now⟩ : PE)) HH.out.2.1 hfull).1
            have hw1 : Below w.heap.size w wr1 := H3.out.1.trans (HW.out.2.2.2.2.2.2.2.mono H3.out.1.size)
            have hGo := goes_any bd B most now ws wr1 (HH.out.1.below hw1) (by omega)
            have HF := Lib.hid (And.intro hfull hw1)
            clear hfb1 hfb2 hfull hw1
            go_wp2_with fail
            refine hGo.mono ?_
            rintro e w5 ⟨a, rfl, hga, hb5⟩
            have hw5 := HF.out.2.trans (hb5.mono HF.out.2.size)
            clear hGo
            cases a with
            | none =>
              have hl := learn_full (most := most) HE.out H2.out.2.2 (full_not HH.out.2.1 HF.out.1).2 hga.2
              have HL := Lib.hid (And.intro hl hw5)
              clear hl hw5 hb5 hga
              simp only [Option.isSome, Option.getD]
              go_wp2
              exact bodyPost_ret (v := .int .i64 41) (by simp [results, Tryz.results12, go_sem]) rfl (rlearn_same HH.out.1 HL.out.2 (by rw [HL.out.1]; rfl) (learnS_bad (by rw [HL.out.1]; decide)))
            | some k =>
              have hkL := hga.1 k rfl
              have hkz : k < ws.length := by simpa using hkL
              have hgo : goesE now (ws.map fun e : EM => e.1) = some (ws.map fun e : EM => e.1)[k] := by
                rw [hga.2]
                simp [hkz]
              have hR := room_goes HH.out.2.1 h8 HE.out H2.out.2.2 HF.out.1 hgo
              rw [← dropE_at HH.out.2.1.asc hkL, ← map_erase] at hR
              have hWo := without_any (.slice q ws.length cc) ws k w5 (HW.out.2.2.2.2.2.1.below hb5) (by omega) hkz
              have HL := Lib.hid (And.intro hR (HW.out.2.2.2.2.2.2.2.trans (hb5.mono HW.out.2.2.2.2.2.2.2.size)))
              clear hR hgo hga hb5 hw5
              simp only [Option.isSome, Option.getD]
              go_wp2_with fail
              refine hWo.mono ?_
              rintro e w6 ⟨v', rfl, hr6, hok6, hb6⟩
              obtain ⟨q6, c6, rfl⟩ := hr6.sh
              have HM := Lib.hid (And.intro hr6 (And.intro hok6 (HL.out.2.trans (hb6.mono HL.out.2.size))))
              clear hWo hr6 hok6 hb6
              go_wp2
              go_meet
              case rel => exact ⟨ws.eraseIdx k, q6, c6, rfl, HM.out.1, HM.out.2.1, HL.out.1, fun x hx => List.mem_of_mem_eraseIdx hx, HM.out.2.2⟩
        case rest =>
          obtain ⟨us, q2, c2, rfl, hru, hoku, hR, hsub, hb3⟩ := hcut
          generalize hww : wc = wk at *
          clear hww
          have hul : us.length ≤ 8 := by have := hR.len; simpa using this
          have hwk : Below w.heap.size w wk := H3.out.1.trans (hb3.mono H3.out.1.size)
          have HU := Lib.hid (And.intro hru (And.intro hoku (And.intro hR (And.intro hsub (And.intro hb3 hwk)))))
          clear hru hoku hR hsub hb3 hwk hfb1 hfb2 hwl8 hlast hli l0 l1 HW
          go_wp2_with fail
          go_loopw [16] (fun s16 wr => ∃ j : Nat, s16 = .int .i64 (j : Int) ∧ j ≤ us.length ∧ (∀ p ∈ (us.map fun e : EM => e.1).take j, cmpB p.dom d < 0) ∧ wr = wk) (fun s16 _ => us.length - natI s16)
          case atStart => exact ⟨0, rfl, Nat.zero_le _, by simp, rfl⟩
          case round =>
            obtain ⟨j, rfl, hj, hlo, rfl⟩ := hrel
            by_cases hgo : ∃ hj : j < us.length, cmpB us[j].1.dom d < 0
            · obtain ⟨hjl, hlt⟩ := hgo
              have hli : (j : Int) < (us.length : Int) := by omega
              obtain ⟨b, o, hpe, hbl, hc⟩ := RowE.at HU.out.1 j hjl
              have HP := Lib.hid hpe
              subst hpe
              obtain ⟨y0, -, -, -, -, -⟩ := hc j hjl
              have hl2 : Op.bytesLess (⟨us[j].1.dom.toArray⟩ : ByteArray).toList d = true := by rw [ByteArray.toList_eq, less_cmp]; exact decide_eq_true hlt
              have hlo2 : ∀ p ∈ (us.map fun e : EM => e.1).take (j + 1), cmpB p.dom d < 0 := by
                intro p hp
                rw [List.take_succ_eq_append_getElem (by simpa using hjl), List.mem_append] at hp
                rcases hp with hp | hp
                · exact hlo p hp
                · simp at hp
                  rw [hp]
                  exact hlt
              have HJ := Lib.hid hlo2
              clear hlo hlo2 hlt hc hbl
              generalize (⟨us[j].1.dom.toArray⟩ : ByteArray) = sj at y0 hl2
              go_wp2
              go_roundw
              case rel => exact ⟨j + 1, by simp, by omega, HJ.out, trivial⟩
              case measure => simp [natI]; omega
            · have hhi : ∀ hl : j < (us.map fun e : EM => e.1).length, ¬ cmpB (us.map fun e : EM => e.1)[j].dom d < 0 := fun hl hlt => hgo ⟨by simpa using hl, by simpa using hlt⟩
              have hins := insE_at HU.out.2.2.1.asc { (⟨d, i, m, mx, age, now⟩ : PE) with unt := now + age } HU.out.2.2.1.no j (by simpa using hj) hlo hhi
              obtain ⟨p1, p2, c3, hsl1, hsl2, hin1, hin2⟩ := row_two wr HU.out.1 HU.out.2.1 j hj
              have HI := Lib.hid (And.intro hins (And.intro hin1 hin2))
              clear hins hin1 hin2
              go_upto_region 19 with (fail)
              go_cut [95] from 95 to 95 (fun s95 w' => s95 = .bool false ∧ w' = wr)
              case first =>
                clear hsl1 hsl2
                by_cases hjl : j < us.length
                · have hli : (j : Int) < (us.length : Int) := by omega
                  obtain ⟨b, o, hpe, hbl, hc⟩ := RowE.at HU.out.1 j hjl
                  have HP := Lib.hid hpe
                  subst hpe
                  obtain ⟨y0, -, -, -, -, -⟩ := hc j hjl
                  have hl2 : Op.bytesLess (⟨us[j].1.dom.toArray⟩ : ByteArray).toList d = false := by rw [ByteArray.toList_eq, less_cmp]; exact decide_eq_false (fun h => hgo ⟨hjl, h⟩)
                  clear hlo hgo hhi hc hbl
                  generalize (⟨us[j].1.dom.toArray⟩ : ByteArray) = sj at y0 hl2
                  go_wp2
                  go_meet
                  case rel => exact ⟨rfl, rfl⟩
                · have hli : ¬ (j : Int) < (us.length : Int) := by omega
                  clear hlo hgo hhi
                  go_wp2
                  go_meet
                  case rel => exact ⟨rfl, rfl⟩
              case rest =>
                obtain ⟨rfl, rfl⟩ := hcut
                clear hlo hgo hhi
                obtain ⟨i9, hi9, hr0, hr1, hr2⟩ := info_parts infoR
                have hxk := (HU.out.2.2.2.2.1.block _ (Array.getElem?_eq_some_iff.1 H3.out.2.1).1).trans H3.out.2.1
                have hbk := (HU.out.2.2.2.2.1.block _ (Array.getElem?_eq_some_iff.1 H3.out.2.2.1).1).trans H3.out.2.2.1
                have hxl := (Array.getElem?_eq_some_iff.1 hxk).1
                have hbl := (Array.getElem?_eq_some_iff.1 hbk).1
                have keepX : ∀ W', Below wc.heap.size wc W' → W'.cell? ⟨w.heap.size + 1, 0, none⟩ = some (.string ⟨d.toArray⟩) ∧ W'.cell? ⟨w.heap.size + 1, 1, none⟩ = some (.string ⟨i.toArray⟩) ∧ W'.cell? ⟨w.heap.size + 1, 2, none⟩ = some (.int .u8 (m : Int)) ∧ W'.cell? ⟨w.heap.size + 1, 3, none⟩ = some (.slice p0 n0 c0) ∧ W'.cell? ⟨w.heap.size + 1, 4, none⟩ = some (.int .i64 age) ∧ W'.cell? ⟨w.heap.size + 1, 5, none⟩ = some (.int .i64 (now + age)) := fun W' hb => box6 ((hb.block _ hxl).trans hxk)
                have HX := Lib.hid (And.intro hbk (And.intro hxl hbl))
                clear hxk hbk hxl hbl
                go_wp2_with fail
                obtain ⟨bq0, bq1, bq2, bq3, bq4, bq5⟩ := keepX wc (Below.refl _ _)
                have hbx : ∀ o, (wc.alloc o).cell? ⟨w.heap.size + 1, 0, none⟩ = some (.string ⟨d.toArray⟩) ∧ (wc.alloc o).cell? ⟨w.heap.size + 1, 1, none⟩ = some (.string ⟨i.toArray⟩) ∧ (wc.alloc o).cell? ⟨w.heap.size + 1, 2, none⟩ = some (.int .u8 (m : Int)) ∧ (wc.alloc o).cell? ⟨w.heap.size + 1, 3, none⟩ = some (.slice p0 n0 c0) ∧ (wc.alloc o).cell? ⟨w.heap.size + 1, 4, none⟩ = some (.int .i64 age) ∧ (wc.alloc o).cell? ⟨w.heap.size + 1, 5, none⟩ = some (.int .i64 (now + age)) := fun o => keepX _ ((Below.refl _ _).alloc (Nat.le_refl _) _)
                have hbx0 := fun o => (hbx o).1
                have hbx1 := fun o => (hbx o).2.1
                have hbx2 := fun o => (hbx o).2.2.1
                have hbx3 := fun o => (hbx o).2.2.2.1
                have hbx4 := fun o => (hbx o).2.2.2.2.1
                have hbx5 := fun o => (hbx o).2.2.2.2.2
                have hl1 : (ec (us.take j)).length = j * 6 := by rw [ec_length, List.length_take, Nat.min_eq_left hj]
                have hl3 : (ec (us.drop j)).length = (us.length - j) * 6 := by rw [ec_length, List.length_drop]
                have HN := Lib.hid (And.intro hl1 (And.intro hl3 (And.intro hj hul)))
                clear hbx hl1 hl3 hj hul hlen
                go_region_law
                  ((first
                    | (refine step_append_any (P := Tryz.prog) rfl _ _ _ rfl wc.heap.size 67 i9 (.agg #[.string ⟨#[]⟩, .string ⟨#[]⟩, .int .u8 0, .slice none 0 0, .int .i64 0, .int .i64 0]) 6 80 Tryz.underlying58 hi9 hr0 hr1 hr2 rfl (by decide) (.slice (some ⟨_, 0, none⟩) 0 0) 0 [] rfl (own_empty (by first | exact heap_new (by simp) | exact (heap_old (by simp)).trans (heap_new (by simp))) (by simp)) wc.heap.size _ j (ec (us.take j)) rfl (HI.out.2.1.below (by first | exact below_drw ((Below.refl _ _).alloc (Nat.le_refl _) _) | exact below_drw (((Below.refl _ _).alloc (Nat.le_refl _) _).alloc (by simp) _))) HN.out.1 (ec_one _) (by have := HN.out.2.2; unfold maxLen; omega) (by have := HN.out.2.2; omega) (by simp <;> omega) ?_
                       intro v1 w1 ho1 hg1 hk1 _
                       have hB1 : Below wc.heap.size wc w1 := Below.grown (by first | exact below_drw ((Below.refl _ _).alloc (Nat.le_refl _) _) | exact below_drw (((Below.refl _ _).alloc (Nat.le_refl _) _).alloc (by simp) _)) hg1 (by simp <;> omega) hk1
                       obtain ⟨bx0, bx1, bx2, bx3, bx4, bx5⟩ := keepX w1 hB1)
                    | (refine step_append_any (P := Tryz.prog) rfl _ _ _ rfl wc.heap.size 67 i9 (.agg #[.string ⟨#[]⟩, .string ⟨#[]⟩, .int .u8 0, .slice none 0 0, .int .i64 0, .int .i64 0]) 6 80 Tryz.underlying58 hi9 hr0 hr1 hr2 rfl (by decide) v1 (0 + j) ([] ++ ec (us.take j)) rfl (by first | exact ho1 | exact own_belowZ ho1 ((Below.refl _ _).alloc (Nat.le_refl _) _)) _ _ 1 [.string ⟨d.toArray⟩, .string ⟨i.toArray⟩, .int .u8 (m : Int), .slice p0 n0 c0, .int .i64 age, .int .i64 (now + age)] rfl (row_block (cs := #[.string ⟨d.toArray⟩, .string ⟨i.toArray⟩, .int .u8 (m : Int), .slice p0 n0 c0, .int .i64 age, .int .i64 (now + age)]) (by first | exact heap_new rfl | (refine (hg1.block _ (by simp <;> omega) (by simp [Value.ownBlock])).trans ?_; first | exact heap_new (by simp) | exact (heap_old (by simp)).trans (heap_new rfl)))) rfl (fun u hu => by simp at hu; rcases hu with rfl | rfl | rfl | rfl | rfl | rfl <;> rfl) (by have := HN.out.2.2; unfold maxLen; omega) (by have := HN.out.2.2; omega) (show Below wc.heap.size wc _ from (by first | exact hB1 | exact hB1.alloc hB1.size _)).size ?_
                       intro v2 w2 ho2 hg2 hk2 _
                       have hB2 : Below wc.heap.size wc w2 := Below.grown (show Below wc.heap.size wc _ from (by first | exact hB1 | exact hB1.alloc hB1.size _)) hg2 (show Below wc.heap.size wc _ from (by first | exact hB1 | exact hB1.alloc hB1.size _)).size hk2)
                    | (refine step_append_any (P := Tryz.prog) rfl _ _ _ rfl wc.heap.size 67 i9 (.agg #[.string ⟨#[]⟩, .string ⟨#[]⟩, .int .u8 0, .slice none 0 0, .int .i64 0, .int .i64 0]) 6 80 Tryz.underlying58 hi9 hr0 hr1 hr2 rfl (by decide) v2 (0 + j + 1) ([] ++ ec (us.take j) ++ [.string ⟨d.toArray⟩, .string ⟨i.toArray⟩, .int .u8 (m : Int), .slice p0 n0 c0, .int .i64 age, .int .i64 (now + age)]) rfl ho2 wc.heap.size _ (us.length - j) (ec (us.drop j)) rfl (HI.out.2.2.below hB2) HN.out.2.1 (ec_one _) (by have := HN.out.2.2; unfold maxLen; omega) (by have := HN.out.2.2; omega) hB2.size ?_
                       intro v3 w3 ho3 hg3 hk3 _
                       obtain ⟨p3, c4, hv3⟩ := own_shape ho3
                       subst hv3
                       have hB3 : Below wc.heap.size wc w3 := Below.grown hB2 hg3 hB2.size hk3
                       have kb3 : w3.heap[bd]? = some (.cells #[.int .i64 most, .slice p zs.length c] 60 (0, 0)) := (hB3.block bd HX.out.2.2).trans HX.out.1
                       have kc3 : w3.cell? ⟨bd, 1, none⟩ = some (.slice p zs.length c) := by simp [World.cell?, kb3]
                       have kf3 : w3.frozen? ⟨bd, 1, none⟩ = false := by simp [World.frozen?, kb3])))
                all_goals (have hec : ec (us.take j ++ ((⟨d, i, m, mx, age, now + age⟩, (p0, n0, c0)) : EM) :: us.drop j) = [] ++ ec (us.take j) ++ [.string ⟨d.toArray⟩, .string ⟨i.toArray⟩, .int .u8 (m : Int), .slice p0 n0 c0, .int .i64 age, .int .i64 (now + age)] ++ ec (us.drop j) := by rw [ec_append]; simp [ec, ecells, str, shV])
                all_goals (rw [← hec] at ho3)
                all_goals (have hbw : bd < w.heap.size := HH.out.1.lt)
                all_goals (have hwc3 : Below w.heap.size w w3 := HU.out.2.2.2.2.2.trans (hB3.mono HU.out.2.2.2.2.2.size))
                all_goals (have hfin := fin_Z (w := w) (B := B) (most := most) kb3 ho3 (by have := HN.out.2.2.1; simp; omega) HX.out.2.2 HU.out.2.2.2.2.2.size (by
                  intro x hx
                  rw [List.mem_append, List.mem_cons] at hx
                  have hus : ∀ x ∈ us, MxAt w3 (fun k => (B k ∧ k ≠ bd) ∨ w.heap.size ≤ k) x.2 x.1.mx := fun x hx => by
                    have h1 := H3.out.2.2.2.2.1 x (HU.out.2.2.2.1 x hx)
                    have h2 := h1.below (HU.out.2.2.2.2.1.trans (hB3.mono HU.out.2.2.2.2.1.size))
                    exact h2.mono fun k hk => .inl ⟨hk, HH.out.2.2.2.2.2.2.2 k hk⟩
                  rcases hx with hx | rfl | hx
                  · exact hus x (List.mem_of_mem_take hx)
                  · exact (HH.out.2.2.1.below hwc3).mono fun k hk => .inl ⟨hk, HH.out.2.2.2.2.2.2.2 k hk⟩
                  · exact hus x (List.mem_of_mem_drop hx)) hbw)
                all_goals (have hgr : w.grownBy (w3.setCell ⟨bd, 1, none⟩ (.slice p3 (0 + j + 1 + (us.length - j)) c4)) (some bd) := (grownBy_of_below hwc3 (some bd)).trans (grownBy_setCell w3 ⟨bd, 1, none⟩ _))
                all_goals (rw [Nat.zero_add] at hfin hgr)
                all_goals (have HE2 := Lib.hid (And.intro hfin hgr))
                all_goals (clear hfin hgr hwc3 hbw hec ho3 hg3 hk3 hB3 kb3 kc3 kf3 ho2 hg2 hk2 hB2 ho1 hg1 hk1 hB1 keepX)
                all_goals go_wp2
                all_goals (refine bodyPost_ret (v := .int .i64 0) (by simp [results, Tryz.results12, go_sem]) rfl ?_)
                all_goals (exact ⟨by rw [HU.out.2.2.1.ans]; rfl, ⟨_, by rw [HU.out.2.2.1.is, HI.out.1]; simp [List.map_take, List.map_drop], HE2.out.1⟩, HE2.out.2⟩)
end Go.Proofs.YtojhledbfaninaaGreat
