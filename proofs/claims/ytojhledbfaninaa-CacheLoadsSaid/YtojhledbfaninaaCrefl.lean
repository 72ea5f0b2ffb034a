/- The document's New and Load. -/
import Derived.Test.YtojhledbfaninaaCrefp
import Derived.Test.YtojhledbfaninaaCrsame
namespace Go.Proofs.Ytojhledbfaninaa
open Go Go.RowKit Go.Shelf Go.Sort
attribute [local go_sem] bneI

set_option maxRecDepth 100000 in
theorem refNew_bad (most : Int) (w : World) (h : most < 1 ∨ 8 < most) : Calls Try.prog 38 #[.int .i64 most] w fun e w' => e = .returned (.tuple #[.pointer none, .int .i64 1]) ∧ w = w' := by
  go_enter Try.func38, Try.ntmps38
  by_cases h1 : most < 1
  · clear h
    go_wp2
    refine bodyPost_ret (v := .tuple #[.pointer none, .int .i64 1]) (by simp [results, Try.results38, go_sem]) rfl ⟨rfl, rfl⟩
  · have h2 : 8 < most := by omega
    clear h
    go_wp2
    refine bodyPost_ret (v := .tuple #[.pointer none, .int .i64 1]) (by simp [results, Try.results38, go_sem]) rfl ⟨rfl, rfl⟩
set_option maxRecDepth 100000 in
theorem refNew_is (most : Int) (w : World) (h1 : 1 ≤ most) (h2 : most ≤ 8) : Calls Try.prog 38 #[.int .i64 most] w fun e w' => e = .returned (.tuple #[.pointer (some ⟨w.heap.size, 0, none⟩), .int .i64 0]) ∧ Below w.heap.size w w' ∧ w'.heap[w.heap.size]? = some (.cells #[.int .i64 most, .slice none 0 0] 62 (0, 0)) := by
  go_enter Try.func38, Try.ntmps38
  go_wp2
  refine bodyPost_ret (v := .tuple #[.pointer (some ⟨w.heap.size, 0, none⟩), .int .i64 0]) (by simp [results, Try.results38, go_sem]) rfl ⟨rfl, (Below.refl _ w).alloc (Nat.le_refl _) _, ha_eq rfl⟩

theorem ec_one (zs : List EM) : ∀ u ∈ ec zs, u.oneCell' = true := by
  intro u hu
  unfold ec at hu
  obtain ⟨x, _, hx⟩ := List.mem_flatMap.1 hu
  exact ecells_one x u hx
theorem RowE.rowIn {W : World} {v : Value} {zs : List EM} (h : RowE W v zs) (hz : zs ≠ []) : RowIn W W.heap.size v zs.length (ec zs) := by
  rcases h with ⟨h0, _⟩ | ⟨_, b, o, c, rfl, hc⟩
  · exact absurd h0 hz
  · have hcell : ∀ (j : Nat) (u : Value), (ec zs)[j]? = some u → W.cell? ⟨b, o + j, none⟩ = some u := by
      intro j u hj
      have hjl : j < zs.length * 6 := by
        have := (List.getElem?_eq_some_iff.1 hj).1
        rwa [ec_length] at this
      have hq : j / 6 < zs.length := by omega
      rw [ec_get zs j hjl] at hj
      have e1 : zs[j / 6]! = zs[j / 6] := by rw [getElem!_pos zs _ hq]
      rw [e1, getElem!_pos (ecells zs[j / 6]) (j % 6) (by rw [ecells_len]; omega)] at hj
      have := hc (j / 6) hq (j % 6) u (by rw [List.getElem?_eq_getElem (by rw [ecells_len]; omega)]; exact hj)
      rwa [show o + j / 6 * 6 + j % 6 = o + j by omega] at this
    refine .inr ⟨_, c, rfl, fun _ => ?_, fun j u hj => by rw [addrk]; exact hcell j u hj⟩
    have h0 : (ec zs)[0]? = some (ec zs)[0]! := by
      have hl : 0 < (ec zs).length := by rw [ec_length]; have := List.length_pos_iff.2 hz; omega
      rw [List.getElem?_eq_getElem hl, getElem!_pos (ec zs) _ hl]
    exact cell_lt (hcell 0 _ h0)
theorem rowE_setCell {W : World} {v : Value} {zs : List EM} (h : RowE W v zs) {a : Addr} {x : Value} (hne : ∀ k, v.ownBlock = some k → k ≠ a.block) : RowE (W.setCell a x) v zs := by
  rcases h with h | ⟨h1, b, o, c, rfl, hc⟩
  · exact .inl h
  · exact .inr ⟨h1, b, o, c, rfl, fun i hi k u hu => (World.cell?_of_block (Below.heap_setCell W a x b (hne b rfl))).trans (hc i hi k u hu)⟩

theorem wpList_append_zero {P : Program} {w : World} {ops : Array Oper} {rest : List Oper} {o : Oper} {a : Act} {Q : Exit → Act → World → Prop} (hgd : o.guard = none) (s x : Operand) (t : TypeId)
    (ho : o.op = .call { callee := .builtin .append, args := #[s, x], argTypes := #[t, t] }) (e : TypeId) (i : TypeInfo) (ht : P.underlying t = some (.slice e)) (hi : P.info? e = some i)
    (p : Option Addr) (n c : Nat) (hn : n ≤ c) (q : Option Addr) (d : Nat) (hs : a.eval s = .slice p n c) (hx : a.eval x = .slice q 0 d) (h : wpList P ops Q rest (a.put o.dst (.slice p n c)) w) : wpList P ops Q (o :: rest) a w :=
  wpList_plain hgd fun _ hK => by
    have hr := run_append_zero (P := P) w t o.type e i ht hi p n c hn q d
    unfold Oper.wp execOp
    simp only [ho, resolve, invoke, builtin, Sem.run_bind, Sem.run_pure, Result.andThen_ok, List.map_toArray, List.map_cons, List.map_nil, hs, hx, hr]
    exact hK _ _ h

/-- What the document's Load answers, and leaves. -/
def RLoadPost (w : World) (most : Int) (zs : List EM) (e : Ending) (w' : World) : Prop :=
  (loadB most (zs.map (·.1)) = 0 ∧ ∃ b v', e = .returned (.tuple #[.pointer (some ⟨b, 0, none⟩), .int .i64 0]) ∧ w.heap.size ≤ b ∧ w'.cell? ⟨b, 1, none⟩ = some v' ∧ RowE w' v' zs) ∨
  (loadB most (zs.map (·.1)) ≠ 0 ∧ e = .returned (.tuple #[.pointer none, .int .i64 (loadB most (zs.map (·.1)) : Int)]))

set_option maxRecDepth 100000 in
set_option maxHeartbeats 4000000 in
theorem refLoad_any (most : Int) (v : Value) (zs : List EM) (w : World) (hr : RowE w v zs) (ht : TextsE w Any zs) (hs : ∀ x ∈ zs, FitR x.1) (hn : zs.length ≤ 1000000) :
    Calls Try.prog 21 #[.int .i64 most, v] w fun e w' => RLoadPost w most zs e w' ∧ Below w.heap.size w w' := by
  by_cases h1 : most < 1 ∨ 8 < most
  · have hN := refNew_bad most w h1
    have hlb : loadB most (zs.map (·.1)) = 1 := by unfold loadB; rw [if_pos h1]
    have HL := Lib.hid hlb
    clear hr ht hs hlb h1
    go_enter Try.func21, Try.ntmps21
    go_wp2_with fail
    refine hN.mono ?_
    rintro e w' ⟨rfl, rfl⟩
    go_wp2
    refine bodyPost_ret (v := .tuple #[.pointer none, .int .i64 1]) (by simp [results, Try.results21, go_sem]) rfl ⟨.inr ⟨by rw [HL.out]; decide, by rw [HL.out]; rfl⟩, Below.refl _ _⟩
  have h1a : 1 ≤ most := by omega
  have h1b : most ≤ 8 := by omega
  have hN := refNew_is most w h1a h1b
  have H1 := Lib.hid h1
  clear h1
  obtain ⟨p, n, c, rfl, hnz⟩ : ∃ p n c, v = .slice p n c ∧ n = zs.length := by
    rcases hr with ⟨rfl, p, c, rfl⟩ | ⟨_, b, o, c, rfl, _⟩
    · exact ⟨p, 0, c, rfl, rfl⟩
    · exact ⟨_, _, c, rfl, rfl⟩
  by_cases h2 : most < (n : Int)
  · have hlb : loadB most (zs.map (·.1)) = 41 := by unfold loadB; rw [if_neg H1.out, if_pos (by simpa [← hnz] using h2)]
    have HL := Lib.hid hlb
    clear hr ht hs hlb
    go_enter Try.func21, Try.ntmps21
    go_wp2_with fail
    refine hN.mono ?_
    rintro e w' ⟨rfl, hb, -⟩
    clear hN
    go_wp2
    refine bodyPost_ret (v := .tuple #[.pointer none, .int .i64 41]) (by simp [results, Try.results21, go_sem]) rfl ⟨.inr ⟨by rw [HL.out]; decide, by rw [HL.out]; rfl⟩, hb⟩
  have H2 := Lib.hid (show ¬ most < ((zs.map (·.1)).length : Int) by simpa [← hnz] using h2)
  have hn8 : n ≤ 8 := by omega
  go_enter Try.func21, Try.ntmps21
  go_wp2_with fail
  refine hN.mono ?_
  rintro e w1 ⟨rfl, hb1, hobj⟩
  have HH := Lib.hid (And.intro hr (And.intro ht (And.intro hs (And.intro hb1 hobj))))
  clear hr ht hs hb1 hobj hN
  go_wp2_with fail
  go_loopw [8] (fun s8 wr => ∃ i : Nat, s8 = .int .i64 (i : Int) ∧ i ≤ n ∧ AscE ((zs.map (·.1)).take i) ∧ (∀ p ∈ (zs.map (·.1)).take i, mayE p = true) ∧ Below w1.heap.size w1 wr)
    (fun s8 _ => n - natI s8)
  case atStart => exact ⟨0, rfl, Nat.zero_le _, by simp [AscE], by simp, Below.refl _ _⟩
  case round =>
    obtain ⟨i, rfl, hi, hasc, hmay, hB⟩ := hrel
    generalize hww : wr = wr1 at *
    clear hww
    have hBw : Below w.heap.size w wr1 := HH.out.2.2.2.1.trans (hB.mono HH.out.2.2.2.1.size)
    by_cases hlast : i < n
    · have hli : (i : Int) < (n : Int) := by omega
      have hiz : i < zs.length := by omega
      obtain ⟨b0, o0, hp, hcell⟩ : ∃ b0 o0, p = some ⟨b0, o0, none⟩ ∧ ∀ (j : Nat) (hj : j < zs.length) (k : Nat) (u : Value), (ecells zs[j])[k]? = some u → w.cell? ⟨b0, o0 + j * 6 + k, none⟩ = some u := by
        rcases HH.out.1 with ⟨rfl, _⟩ | ⟨_, b, o, c', e, hcc⟩
        · simp at hiz
        · injection e with e1 _ _
          exact ⟨b, o, e1, hcc⟩
      subst hp
      have hcw : ∀ (q : BW wr1) (j : Nat) (hj : j < zs.length) (k : Nat) (u : Value), (ecells zs[j])[k]? = some u → q.v.cell? ⟨b0, o0 + j * 6 + k, none⟩ = some u := fun q j hj k u hu => below_keep q.h _ _ ((hBw.cell (cell_lt (hcell j hj k u hu))).trans (hcell j hj k u hu))
      have y0 : ∀ q : BW wr1, q.v.cell? ⟨b0, o0 + i * 6, none⟩ = some (.string ⟨zs[i].1.dom.toArray⟩) := fun q => hcw q i hiz 0 _ rfl
      have y1 := fun q : BW wr1 => hcw q i hiz 1 (.string ⟨zs[i].1.id.toArray⟩) rfl
      have y2 := fun q : BW wr1 => hcw q i hiz 2 (.int .u8 (zs[i].1.mode : Int)) rfl
      have y3 := fun q : BW wr1 => hcw q i hiz 3 (.slice zs[i].2.1 zs[i].2.2.1 zs[i].2.2.2) rfl
      have y4 := fun q : BW wr1 => hcw q i hiz 4 (.int .i64 zs[i].1.age) rfl
      have y5 := fun q : BW wr1 => hcw q i hiz 5 (.int .i64 zs[i].1.unt) rfl
      have hMay : ∀ q : BW wr1, Calls Try.prog 22 #[evp zs[i]] q.v fun e w'' => e = .returned (.bool (mayE zs[i].1)) ∧ ∃ q' : BW wr1, w'' = q'.v := fun q =>
        (refMayE_any zs[i] Any q.v ((HH.out.2.1 zs[i] (List.getElem_mem hiz)).below (hBw.trans (q.h.mono hBw.size))) (HH.out.2.2.1 zs[i] (List.getElem_mem hiz))).mono fun e w'' hh => ⟨hh.1, ⟨w'', q.h.trans (hh.2.mono q.h.size)⟩, rfl⟩
      have hpd := fun (q : BW wr1) (k : Nat) (hk : k < zs.length) => hcw q k hk 0 (.string ⟨zs[k].1.dom.toArray⟩) rfl
      have HD := Lib.hid (And.intro hB (And.intro hpd (And.intro hmay hasc)))
      clear hB hpd hmay hcw hcell hBw
      obtain ⟨x, hx⟩ : ∃ x, x = zs[i] := ⟨_, rfl⟩
      rw [← hx] at y0 y1 y2 y3 y4 y5 hMay
      have hbad : mayE x.1 = false → loadB most (zs.map (·.1)) = 4 := fun hm1 => loadB_form H1.out (Int.not_lt.2 H2.out) (good_not (i := i) (by simpa using hiz) (by simp only [List.getElem_map, ← hx]; exact hm1))
      have hmn : mayE x.1 = true → ∀ q ∈ (zs.map (·.1)).take (i + 1), mayE q = true := by
        intro hm1 q hq
        rw [List.take_succ_eq_append_getElem (by simpa using hiz), List.mem_append] at hq
        rcases hq with hq | hq
        · exact HD.out.2.2.1 q hq
        · simp only [List.getElem_map, ← hx, List.mem_singleton] at hq
          rw [hq]; exact hm1
      have HE := Lib.hid (And.intro hbad hmn)
      have HX := Lib.hid hx
      clear hx hbad hmn hasc
      obtain ⟨⟨d1, i1, m1, mx1, age1, unt1⟩, p1, n1, cc1⟩ := x
      dsimp only at y0 y1 y2 y3 y4 y5 hMay HE
      rw [lit_ev] at hMay
      go_upto_region 9 with (fail)
      cases hm1 : mayE ⟨d1, i1, m1, mx1, age1, unt1⟩
      · rw [hm1] at hMay
        have hlb := HE.out.1 hm1
        have HLB := Lib.hid hlb
        clear hlb hm1
        refine wp_region_quiet_below (by kernel_rfl) (by kernel_rfl) ?_
        repeat (go_big_quiet_step (exact hMay _))
        refine wpQuiet_nil ?_
        intro w5 hw'
        have hb5 : Below wr1.heap.size wr1 w5 := by
          obtain ⟨q, rfl⟩ := hw'
          exact q.h
        have hBw5 : Below w.heap.size w w5 := HH.out.2.2.2.1.trans ((HD.out.1.trans (hb5.mono HD.out.1.size)).mono HH.out.2.2.2.1.size)
        have HL := Lib.hid (And.intro HLB.out hBw5)
        clear hw' hb5 hBw5 y0 y1 y2 y3 y4 y5 hMay
        go_wp2
        refine bodyPost_ret (v := .tuple #[.pointer none, .int .i64 4]) (by simp [results, Try.results21, go_sem]) rfl ⟨.inr ⟨by rw [HL.out.1]; decide, by rw [HL.out.1]; rfl⟩, HL.out.2⟩
      · rw [hm1] at hMay
        have hmn := HE.out.2 hm1
        have hstep : (∀ j (hj : j < (List.map (fun x : EM => x.1) zs).length), j + 1 = i → cmpB (List.map (fun x : EM => x.1) zs)[j].dom ((List.map (fun x : EM => x.1) zs)[i]'(by simpa using hiz)).dom < 0) → AscE ((List.map (fun x : EM => x.1) zs).take (i + 1)) := fun h => asc_take_succ (by simpa using hiz) HD.out.2.2.2 h
        have HM := Lib.hid (And.intro hmn hstep)
        clear hmn hstep hm1
        cases i with
        | zero =>
          have hasc := HM.out.2 (fun j hj e => by omega)
          have HA := Lib.hid hasc
          clear hasc
          simp only [Nat.zero_mul, Nat.add_zero] at y0 y1 y2 y3 y4 y5
          refine wp_region_quiet_below (by kernel_rfl) (by kernel_rfl) ?_
          repeat (go_big_quiet_step (exact hMay _))
          refine wpQuiet_nil ?_
          intro w5 hw'
          have hb5 : Below wr1.heap.size wr1 w5 := by
            obtain ⟨q, rfl⟩ := hw'
            exact q.h
          have HW := Lib.hid (HD.out.1.trans (hb5.mono HD.out.1.size))
          clear hw' hb5 y0 y1 y2 y3 y4 y5 hMay
          go_wp2
          go_roundw
          case rel => exact ⟨0 + 1, by simp, by omega, HA.out, HM.out.1, HW.out⟩
          case measure => simp [natI]; omega
        | succ k =>
          have hkz : k < zs.length := by omega
          have hj1 : ((k + 1 : Nat) : Int) > 0 := by omega
          have hw1 : wrap64 (((k + 1 : Nat) : Int) - 1) = (k : Int) := by unfold wrap64; omega
          have hkn : (k : Int) < (n : Int) := by omega
          have hpk := fun q : BW wr1 => HD.out.2.1 q k hkz
          simp only [Nat.add_zero] at hpk
          have hl2 : Op.bytesLess (⟨zs[k].1.dom.toArray⟩ : ByteArray).toList d1 = decide (cmpB zs[k].1.dom d1 < 0) := by
            rw [ByteArray.toList_eq, less_cmp]
          have hdn : (List.map (fun x : EM => x.1) zs)[k + 1]'(by simpa using hiz) = ⟨d1, i1, m1, mx1, age1, unt1⟩ := by
            simp only [List.getElem_map, ← HX.out]
          by_cases hlt : cmpB zs[k].1.dom d1 < 0
          · rw [decide_eq_true hlt] at hl2
            have hasc := HM.out.2 (fun j hj e => by
              obtain rfl : j = k := by omega
              rw [hdn]
              simpa using hlt)
            have HA := Lib.hid hasc
            clear hasc hlt hdn
            generalize (⟨zs[k].1.dom.toArray⟩ : ByteArray) = pd at hpk hl2
            refine wp_region_quiet_below (by kernel_rfl) (by kernel_rfl) ?_
            repeat (go_big_quiet_step (exact hMay _))
            refine wpQuiet_nil ?_
            intro w5 hw'
            have hb5 : Below wr1.heap.size wr1 w5 := by
              obtain ⟨q, rfl⟩ := hw'
              exact q.h
            have HW := Lib.hid (HD.out.1.trans (hb5.mono HD.out.1.size))
            clear hw' hb5 y0 y1 y2 y3 y4 y5 hMay hpk hl2
            go_wp2
            go_roundw
            case rel => exact ⟨k + 1 + 1, by simp, by omega, HA.out, HM.out.1, HW.out⟩
            case measure => simp [natI]; omega
          · rw [decide_eq_false hlt] at hl2
            have hlb : loadB most (zs.map (·.1)) = 4 := loadB_form H1.out (Int.not_lt.2 H2.out) (good_down (j := k) (by simpa using hiz) (by rw [hdn]; simpa using hlt))
            have HLB := Lib.hid hlb
            clear hlb hlt hdn
            generalize (⟨zs[k].1.dom.toArray⟩ : ByteArray) = pd at hpk hl2
            refine wp_region_quiet_below (by kernel_rfl) (by kernel_rfl) ?_
            repeat (go_big_quiet_step (exact hMay _))
            refine wpQuiet_nil ?_
            intro w5 hw'
            have hb5 : Below wr1.heap.size wr1 w5 := by
              obtain ⟨q, rfl⟩ := hw'
              exact q.h
            have hBw5 : Below w.heap.size w w5 := HH.out.2.2.2.1.trans ((HD.out.1.trans (hb5.mono HD.out.1.size)).mono HH.out.2.2.2.1.size)
            have HL := Lib.hid (And.intro HLB.out hBw5)
            clear hw' hb5 hBw5 y0 y1 y2 y3 y4 y5 hMay hpk hl2
            go_wp2
            refine bodyPost_ret (v := .tuple #[.pointer none, .int .i64 4]) (by simp [results, Try.results21, go_sem]) rfl ⟨.inr ⟨by rw [HL.out.1]; decide, by rw [HL.out.1]; rfl⟩, HL.out.2⟩
    · have hli : ¬ (i : Int) < (n : Int) := by omega
      obtain rfl : i = n := by omega
      have hlb : loadB most (zs.map (·.1)) = 0 := by
        rw [List.take_of_length_le (by simp; omega)] at hasc hmay
        exact loadB_good H1.out (Int.not_lt.2 H2.out) (goodB_iff.2 ⟨hmay, hasc⟩)
      have hrow : RowE wr1 (.slice p i c) zs := RowE.below HH.out.1 hBw
      have hob : wr1.heap[w.heap.size]? = some (.cells #[.int .i64 most, .slice none 0 0] 62 (0, 0)) := (hB.block _ (Array.getElem?_eq_some_iff.1 HH.out.2.2.2.2).1).trans HH.out.2.2.2.2
      have hsz : w.heap.size < wr1.heap.size := (Array.getElem?_eq_some_iff.1 hob).1
      have HF := Lib.hid (And.intro hlb (And.intro hrow (And.intro hBw (And.intro hob hsz))))
      clear hlb hrow hBw hob hsz hasc hmay hB
      obtain ⟨i9, hi9, hr0, hr1, hr2⟩ := info_parts infoR
      by_cases hz : zs = []
      · subst hz
        obtain rfl : i = 0 := by simpa using hnz
        simp only [List.length_nil]
        clear hnz
        have hst := HF.out.2.2.2.1
        have c1 : (wr1.alloc (.cells #[] 59)).cell? ⟨w.heap.size, 1, none⟩ = some (.slice none 0 0) := (World.cell?_alloc_lt _ _ _ HF.out.2.2.2.2).trans (by simp [World.cell?, hst])
        have f1 : (wr1.alloc (.cells #[] 59)).frozen? ⟨w.heap.size, 1, none⟩ = false := froz6 ((heap_old (Nat.ne_of_lt HF.out.2.2.2.2)).trans hst) 1
        clear hst
        go_wp2_with (at_builtin; refine Bx.h ?_)
        refine ⟨?_⟩
        refine wpList_append_zero rfl _ _ 50 rfl 59 i9 Try.underlying50 hi9 (some ⟨wr1.heap.size, 0, none⟩) 0 0 (Nat.le_refl _) p c rfl rfl ?_
        go_wp2
        refine bodyPost_ret (v := .tuple #[.pointer (some ⟨w.heap.size, 0, none⟩), .int .i64 0]) (by simp [results, Try.results21, go_sem]) rfl ⟨.inl ⟨HF.out.1, w.heap.size, .slice (some ⟨wr1.heap.size, 0, none⟩) 0 0, rfl, Nat.le_refl _, ?_, .inl ⟨rfl, _, _, rfl⟩⟩, ?_⟩
        · exact World.cell?_setCell_same _ _ _ c1
        · exact (HF.out.2.2.1.alloc HF.out.2.2.1.size _).setCell (Nat.le_refl _) _
      · subst hnz
        go_wp2_with (at_builtin; refine Bx.h ?_)
        refine ⟨?_⟩
        refine wpList_append_any rfl _ _ 50 rfl wr1.heap.size 59 i9 (.agg #[.string ⟨#[]⟩, .string ⟨#[]⟩, .int .u8 0, .slice none 0 0, .int .i64 0, .int .i64 0]) 6 80 Try.underlying50 hi9 hr0 hr1 hr2 rfl (by decide) (.slice (some ⟨wr1.heap.size, 0, none⟩) 0 0) 0 [] rfl (own_empty (heap_new rfl) (Nat.le_refl _)) wr1.heap.size _ zs.length (ec zs) rfl ((HF.out.2.1.rowIn hz).below ((Below.refl _ _).alloc (Nat.le_refl _) _)) (ec_length zs) (ec_one zs) (by unfold maxLen; omega) (by omega) (by simp) ?_
        intro v' w3 hown hgrow hge hor
        have hst := HF.out.2.2.2.1
        have hB3 : Below wr1.heap.size wr1 w3 := ((Below.refl _ wr1).alloc (Nat.le_refl _) _).grown hgrow (by simp) (fun k e => hge k e)
        have hblk := (hB3.block _ HF.out.2.2.2.2).trans hst
        have c1 : w3.cell? ⟨w.heap.size, 1, none⟩ = some (.slice none 0 0) := by simp [World.cell?, hblk]
        have f1 : w3.frozen? ⟨w.heap.size, 1, none⟩ = false := froz6 hblk 1
        have hrow : RowE w3 v' zs := by
          have h := hown
          rw [List.nil_append, Nat.zero_add] at h
          exact rowE_own h
        obtain ⟨p2, c2, rfl⟩ := hrow.sh
        have hob : ∀ k, (Value.slice p2 zs.length c2).ownBlock = some k → k ≠ w.heap.size := fun k hk e => by
          have h9 := own_ge hown k hk
          have := HF.out.2.2.2.2
          omega
        have HG := Lib.hid (And.intro hrow (And.intro hob (And.intro (HF.out.2.2.1.trans (hB3.mono HF.out.2.2.1.size)) c1)))
        clear hst hB3 hblk hrow hob hown hgrow hge hor
        go_wp2
        refine bodyPost_ret (v := .tuple #[.pointer (some ⟨w.heap.size, 0, none⟩), .int .i64 0]) (by simp [results, Try.results21, go_sem]) rfl ⟨.inl ⟨HF.out.1, w.heap.size, .slice p2 zs.length c2, rfl, Nat.le_refl _, ?_, rowE_setCell HG.out.1 HG.out.2.1⟩, ?_⟩
        · exact World.cell?_setCell_same _ _ _ HG.out.2.2.2
        · exact HG.out.2.2.1.setCell (Nat.le_refl _) _
end Go.Proofs.Ytojhledbfaninaa
