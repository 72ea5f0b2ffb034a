/- The contract of package tally's Of, at whatever rows, wherever they lie. -/
import Derived.Test.YthhcigmdocldnaaDoorOfB
import Derived.Test.YthhcigmdocldnaaDoorOfD
import Derived.Deep.CutRange
namespace Go.Proofs.YthhcigmdocldnaaDoor
open Go Go.RowKit Go.Shelf Go.Sort

/-- A row in memory, wherever. -/
def RowAt (n₀ : Nat) (W : World) (a : Addr) (i : Nat) (x : (Bytes × Nat) × List Int) : Prop :=
  ∃ b o s fv, a.add (i * 4) = ⟨b, o, s⟩ ∧ b < n₀ ∧ W.cell? ⟨b, o, s⟩ = some (.string ⟨x.1.1.toArray⟩) ∧ W.cell? ⟨b, o + 1, none⟩ = some (.int .u8 (x.1.2 : Int)) ∧ W.cell? ⟨b, o + 2, none⟩ = some (.int .i64 (x.2.getD 0 0)) ∧ W.cell? ⟨b, o + 3, none⟩ = some fv ∧ RowIn W n₀ fv (x.2.length - 1) ((x.2.drop 1).map (Value.int .i64)) ∧ x.2 ≠ []
theorem RowAt.below {n₀ : Nat} {W W' : World} {a : Addr} {i : Nat} {x : (Bytes × Nat) × List Int} (h : RowAt n₀ W a i x) (hb : Below n₀ W W') : RowAt n₀ W' a i x := by
  obtain ⟨b, o, s, fv, e, hbl, h0, h1, h2, h3, h4, h5⟩ := h
  exact ⟨b, o, s, fv, e, hbl, (hb.cell (p := ⟨b, o, s⟩) hbl).trans h0, (hb.cell (p := ⟨b, o + 1, none⟩) hbl).trans h1, (hb.cell (p := ⟨b, o + 2, none⟩) hbl).trans h2, (hb.cell (p := ⟨b, o + 3, none⟩) hbl).trans h3, h4.below hb, h5⟩
/-- Rows in memory, wherever. -/
structure RowsG (W : World) (v : Value) (xs : Ent) : Prop where
  at_ : (v = .slice none 0 0 ∧ xs = []) ∨ ∃ a cap, v = .slice (some a) xs.length cap ∧ xs.length ≤ cap ∧ ∀ i (h : i < xs.length), RowAt W.heap.size W a i xs[i]
  lim : ∀ x ∈ xs, x.1.1.length ≤ maxLen ∧ x.1.2 < 256
theorem RowsG.shape {w₀ : World} {v : Value} {xs : Ent} (h : RowsG w₀ v xs) : ∃ p c, v = .slice p xs.length c ∧ ∀ i (hi : i < xs.length), ∃ a, p = some a ∧ xs.length ≤ c ∧ ∀ w, Below w₀.heap.size w₀ w → RowAt w₀.heap.size w a i xs[i] := by
  rcases h.at_ with ⟨rfl, rfl⟩ | ⟨a, cap, rfl, hcap, hc⟩
  · exact ⟨none, 0, rfl, fun i hi => by simp at hi⟩
  · exact ⟨some a, cap, rfl, fun i hi => ⟨a, rfl, hcap, fun w hw => (hc i hi).below hw⟩⟩
/-- May rows be a tally's? -/
structure RowsOk (xs : Ent) : Prop where
  rows : ∀ x ∈ xs, rowB x.1.1 x.1.2 x.2 = true
  asc : Asc cmpP (xs.map (·.1))
/-- What Of does. -/
def OfPost (w : World) (names : Int) (xs : Ent) (e : Ending) (w' : World) : Prop :=
  Below w.heap.size w w' ∧ ((e = .returned (.tuple #[.pointer none, .int .i64 1]) ∧ (names < 1 ∨ 8 < names)) ∨ ((1 ≤ names ∧ names ≤ 8) ∧
    ((e = .returned (.tuple #[.pointer none, .int .i64 4]) ∧ ¬ RowsOk xs) ∨ (RowsOk xs ∧
      ((e = .returned (.tuple #[.pointer none, .int .i64 41]) ∧ names < ((domsL xs).length : Int)) ∨
       (e = .returned (.tuple #[.pointer (some ⟨w.heap.size + 1, 0, none⟩), .int .i64 0]) ∧ ((domsL xs).length : Int) ≤ names ∧ TallyAt w' (w.heap.size + 1) w.heap.size names xs))))))
theorem own_shape2 {w : World} {base : Nat} {e : TypeId} {size : Nat} {v : Value} {n : Nat} {xs : List Value} (h : w.ownsRow base e size v n xs) : ∃ p c, v = .slice p n c := by
  rcases h.2 with ⟨rfl, rfl⟩ | ⟨g, cap, cur, rfl, _⟩
  · exact ⟨none, 0, rfl⟩
  · exact ⟨_, _, rfl⟩
theorem asc_pre {xs : Ent} {i : Nat} (hi : i < xs.length) (h : Asc cmpP ((xs.take i).map (·.1))) (hl : i = 0 ∨ cmpP (xs[i - 1]'(by omega)).1 xs[i].1 < 0) : Asc cmpP ((xs.take (i + 1)).map (·.1)) := by
  rw [List.take_succ_eq_append_getElem hi, List.map_append]
  refine List.pairwise_append.2 ⟨h, by simp, ?_⟩
  intro p hp q hq
  simp at hq
  subst hq
  obtain ⟨y, hy, rfl⟩ := List.mem_map.1 hp
  obtain ⟨j, hj, rfl⟩ := List.getElem_of_mem hy
  have hj' : j < i := by simp at hj; omega
  rcases hl with h0 | hl
  · omega
  · rw [List.getElem_take]
    by_cases hji : j = i - 1
    · subst hji; exact hl
    · have := List.pairwise_iff_getElem.1 h j (i - 1) (by simp; omega) (by simp; omega) (by omega)
      simp only [List.getElem_map, List.getElem_take] at this
      exact ordP.trans _ _ _ this hl
theorem asc_fresh2 {xs : Ent} {i : Nat} (hi : i < xs.length) (h : Asc cmpP ((xs.take (i + 1)).map (·.1))) : xs[i].1 ∉ (xs.take i).map (·.1) := by
  intro hm
  have hn := h.nodup ordP
  rw [List.take_succ_eq_append_getElem hi, List.map_append, List.nodup_append] at hn
  exact hn.2.2 _ hm _ (by simp) rfl

set_option maxRecDepth 100000 in
set_option maxHeartbeats 4000000 in
theorem of_any (w : World) (names : Int) (v : Value) (xs : Ent) (h : RowsG w v xs) (hxl : xs.length ≤ 1000) (hfl : ∀ x ∈ xs, x.2.length ≤ 1000) (hg : Glob w) (hm : MayT w) :
    Calls Tryd.prog 27 #[.int .i64 names, v] w (OfPost w names xs) := by
  obtain ⟨pr, cr, rfl, hel⟩ := h.shape
  by_cases hbad : names < 1 ∨ 8 < names
  · have hN := tallyNew_bad names w hbad
    clear hel h
    go_enter Tryd.func27, Tryd.ntmps27
    go_wp2_with fail
    refine hN.mono ?_
    rintro e w1 ⟨rfl, rfl⟩
    have HB := Lib.hid hbad
    clear hN hbad
    go_wp2
    refine bodyPost_ret (v := .tuple #[.pointer none, .int .i64 1]) (by simp [results, Tryd.results27, go_sem]) rfl ⟨Below.refl _ _, .inl ⟨rfl, HB.out⟩⟩
  have hn1 : 1 ≤ names := by omega
  have hn2 : names ≤ 8 := by omega
  have hN := new_step (Sess.start hg hm) names hn1 hn2
  have HH := Lib.hid (And.intro hel (And.intro hg (And.intro hm (And.intro h.lim (And.intro hfl hbad)))))
  clear h hel hg hm hfl hbad
  go_enter Tryd.func27, Tryd.ntmps27
  go_wp2_with fail
  refine hN.mono ?_
  rintro e w1 ⟨rfl, hT, hB1⟩
  have hT1 := hT.at_
  have H1 := Lib.hid (And.intro hT1 hB1)
  clear hN hT hT1 hB1
  go_wp2_with fail
  go_loopw [23] (fun iv wr => ∃ i : Nat, iv = .int .i64 (i : Int) ∧ i ≤ xs.length ∧ TallyAt wr (w.heap.size + 1) w.heap.size names (xs.take i) ∧ Below w.heap.size w wr ∧ (∀ x ∈ xs.take i, rowB x.1.1 x.1.2 x.2 = true) ∧ Asc cmpP ((xs.take i).map (·.1)))
    (fun iv _ => xs.length - natOf iv)
  case atStart => exact ⟨0, rfl, Nat.zero_le _, H1.out.1, H1.out.2, fun x hx => by simp at hx, List.Pairwise.nil⟩
  case round =>
    obtain ⟨i, rfl, hi, hTr, hBr, hokr, hascr⟩ := hrel
    by_cases hlast : i < xs.length
    · have hli : (i : Int) < (xs.length : Int) := by omega
      obtain ⟨a, rfl, hcr, hE⟩ := HH.out.1 i hlast
      obtain ⟨Ab, Ao, As, fv, ead, hAl, x0, x1, x2, x3, hF, hne⟩ := hE wr hBr
      have hlim := HH.out.2.2.2.1 xs[i] (List.getElem_mem hlast)
      have hfl := HH.out.2.2.2.2.1 xs[i] (List.getElem_mem hlast)
      have HR := Lib.hid (And.intro hTr (And.intro hBr (And.intro hokr (And.intro hascr (And.intro hi (And.intro hlim hF))))))
      clear hTr hBr hokr hascr hi hlim hF hE
      generalize hq : xs[i] = q at *
      obtain ⟨⟨qd, qt⟩, qc⟩ := q
      dsimp only at x0 x1 x2 hne
      obtain ⟨g0, fl, rfl⟩ : ∃ g0 fl, qc = g0 :: fl := by
        cases qc with
        | nil => exact absurd rfl hne
        | cons a l => exact ⟨a, l, rfl⟩
      have x2' : wr.cell? ⟨Ab, Ao + 2, none⟩ = some (.int .i64 g0) := x2
      obtain ⟨fp, fc, rfl⟩ : ∃ fp fc, fv = .slice fp fl.length fc := by
        rcases HR.out.2.2.2.2.2.2 with ⟨rfl, h0, _⟩ | ⟨ad, c, rfl, _⟩
        · have h0' : fl.length = 0 := by simpa using h0
          exact ⟨none, 0, by rw [h0']⟩
        · exact ⟨some ad, c, rfl⟩
      clear x2 hne
      go_wp2_with fail
      obtain ⟨W5, hW5⟩ : ∃ W5, W5 = wr.alloc (.cells #[.string ⟨qd.toArray⟩, .int .u8 (qt : Int), .int .i64 g0, .slice fp fl.length fc] 41) := ⟨_, rfl⟩
      rw [← hW5]
      have hB5 : Below wr.heap.size wr W5 := by rw [hW5]; exact (Below.refl _ wr).alloc (Nat.le_refl _) _
      have hH5 : W5.heap[wr.heap.size]? = some (.cells #[.string ⟨qd.toArray⟩, .int .u8 (qt : Int), .int .i64 g0, .slice fp fl.length fc] 41 (0, 0)) := by rw [hW5]; exact ha_eq rfl
      have hBw5 : Below w.heap.size w W5 := HR.out.2.1.trans (Below.less hB5 HR.out.2.1.size)
      have hgl5 : Glob W5 := HH.out.2.1.below hBw5 (by obtain ⟨m, hm⟩ := HH.out.2.1; exact cell_lt hm)
      have hmt5 : MayT W5 := HH.out.2.2.1.below hBw5 (cell_lt (HH.out.2.2.1 0 (by omega)))
      have hF5 : RowIn W5 W5.heap.size (.slice fp fl.length fc) fl.length (fl.map (Value.int .i64)) := (HR.out.2.2.2.2.2.2.below (Below.less hB5 HR.out.2.1.size)).mono hBw5.size
      have hC := counted_any W5 qd qt g0 fl _ hF5 hgl5 hmt5 HR.out.2.2.2.2.2.1.1 HR.out.2.2.2.2.2.1.2
      have H5 := Lib.hid (And.intro hB5 (And.intro hH5 hBw5))
      clear hW5 hB5 hH5 hBw5 hgl5 hmt5 x0 x1 x2' x3 hF5
      refine hC.mono ?_
      rintro e W6 ⟨c', ok, rfl, hc11, hok, hcc, hB6⟩
      have hr5 : wr.heap.size < W5.heap.size := (Array.getElem?_eq_some_iff.1 H5.out.2.1).1
      have hH6 := (hB6.block _ hr5).trans H5.out.2.1
      have hBw6 : Below w.heap.size w W6 := H5.out.2.2.trans (Below.less hB6 H5.out.2.2.size)
      have hB56 : Below wr.heap.size wr W6 := H5.out.1.trans (Below.less hB6 (by omega))
      have y0 : W6.cell? ⟨wr.heap.size, 0, none⟩ = some (.string ⟨qd.toArray⟩) := by simp [World.cell?, hH6]
      have y1 : W6.cell? ⟨wr.heap.size, 1, none⟩ = some (.int .u8 (qt : Int)) := by simp [World.cell?, hH6]
      have hw6 : ¬ wr.heap.size = W6.heap.size := by
        have := hB6.size
        omega
      have z0 : ∀ o, (W6.alloc o).cell? ⟨wr.heap.size, 0, none⟩ = some (.string ⟨qd.toArray⟩) := fun o => (World.cell?_of_block (ha_ne hw6)).trans y0
      have z1 : ∀ o, (W6.alloc o).cell? ⟨wr.heap.size, 1, none⟩ = some (.int .u8 (qt : Int)) := fun o => (World.cell?_of_block (ha_ne hw6)).trans y1
      obtain ⟨a0, a1, a2, a3, a4, a5, a6, a7, a8, a9, a10, rfl⟩ := eleven hc11
      have H6 := Lib.hid (And.intro hBw6 (And.intro hB56 (And.intro hok hcc)))
      clear hC hB6 hr5 hH6 hBw6 hB56 hok hcc hc11
      unfold eV
      simp only [List.map_cons, List.map_nil]
      go_upto_region 9 with (fail)
      obtain ⟨W8, hW8⟩ : ∃ W8, W8 = (W6.alloc (.cells #[.int .i64 a0, .int .i64 a1, .int .i64 a2, .int .i64 a3, .int .i64 a4, .int .i64 a5, .int .i64 a6, .int .i64 a7, .int .i64 a8, .int .i64 a9, .int .i64 a10] 82)).alloc (.cells #[.string ⟨qd.toArray⟩, .int .u8 (qt : Int)] 78) := ⟨_, rfl⟩
      rw [← hW8]
      have hB8 : Below W6.heap.size W6 W8 := by rw [hW8]; exact ((Below.refl _ W6).alloc (Nat.le_refl _) _).alloc (by simp) _
      have hc8 : W8.heap[W6.heap.size]? = some (.cells #[.int .i64 a0, .int .i64 a1, .int .i64 a2, .int .i64 a3, .int .i64 a4, .int .i64 a5, .int .i64 a6, .int .i64 a7, .int .i64 a8, .int .i64 a9, .int .i64 a10] 82 (0, 0)) := by rw [hW8]; exact (ha_ne (by simp)).trans (ha_eq rfl)
      have hp8 : W8.heap[W6.heap.size + 1]? = some (.cells #[.string ⟨qd.toArray⟩, .int .u8 (qt : Int)] 78 (0, 0)) := by rw [hW8]; exact ha_eq (by simp)
      have H8 := Lib.hid (And.intro hB8 (And.intro hc8 hp8))
      clear hW8 hB8 hc8 hp8 z0 z1 y0 y1
      go_cut [8, 11, 23, 61] from 25 to 68 (fun s8 _ s23 s61 w' => s8 = .int .i64 (i : Int) ∧ s23 = .int .i64 (i : Int) ∧ ∃ bad, s61 = .bool bad ∧ Below W8.heap.size W8 w' ∧ (bad = false → rowB qd qt (g0 :: fl) = true ∧ (i = 0 ∨ cmpP (xs[i - 1]'(by omega)).1 (qd, qt) < 0)) ∧ (bad = true → ¬ RowsOk xs))
      case first =>
        have hmem : ((qd, qt), g0 :: fl) ∈ xs := by rw [← hq]; exact List.getElem_mem hlast
        cases hko : ok
        · have hno : ¬ RowsOk xs := fun hk => by
            have h1 := hk.rows _ hmem
            have h2 := H6.out.2.2.1
            dsimp only at h1
            rw [h1, hko] at h2
            cases h2
          have HN := Lib.hid hno
          clear hno hmem hko
          go_quiet (fail)
          go_wp2
          go_meet
          case rel => exact ⟨rfl, rfl, true, rfl, below_drewN (Below.refl _ _) _, fun h => (by cases h), fun _ => HN.out⟩
        · have hyes : rowB qd qt (g0 :: fl) = true := by rw [← H6.out.2.2.1]; exact hko
          have HY := Lib.hid hyes
          clear hyes hko hmem
          by_cases hi0 : i = 0
          · have hiz : ¬ (0 : Int) < (i : Int) := by omega
            have HI0 := Lib.hid hi0
            go_quiet (fail)
            go_wp2
            go_meet
            case rel => exact ⟨by simp [HI0.out], by simp [HI0.out], false, rfl, below_drewN (Below.refl _ _) _, fun _ => ⟨HY.out, .inl HI0.out⟩, fun h => (by cases h)⟩
          · obtain ⟨j, hj⟩ : ∃ j, i = j + 1 := ⟨i - 1, by omega⟩
            have hiz : (0 : Int) < (i : Int) := by omega
            have hsub : (i : Int) - 1 = (j : Int) := by omega
            have hjl : (j : Int) < (xs.length : Int) := by omega
            have hwr : IntKind.i64.wrap ((i : Int) - 1) = (j : Int) := by
              rw [hsub]
              simp [IntKind.wrap, IntKind.bits, IntKind.signed]
              omega
            have hwr2 : wrap64 ((i : Int) - 1) = (j : Int) := by rw [hsub]; unfold wrap64; omega
            have hBw8 : Below w.heap.size w W8 := H6.out.1.trans (Below.less H8.out.1 H6.out.1.size)
            obtain ⟨a', e1, -, hE'⟩ := HH.out.1 j (by omega)
            injection e1 with e1
            subst e1
            obtain ⟨Bb, Bo, Bs, fv', ead', -, u0, u1, -⟩ := hE' W8 hBw8
            have hil : i - 1 < xs.length := Nat.lt_of_le_of_lt (Nat.sub_le _ _) hlast
            have hqi : (xs[i - 1]'hil).1 = (xs[j]'(by omega)).1 := by
              have : i - 1 = j := by omega
              simp only [this]
            obtain ⟨qj, hqj⟩ : ∃ q, q = xs[j]'(by omega) := ⟨_, rfl⟩
            rw [← hqj] at u0 u1 hqi
            clear hqj
            obtain ⟨⟨jd, jt⟩, jc⟩ := qj
            dsimp only at u0 u1 hqi
            have HQI := Lib.hid hqi
            have k0 : W8.cell? ⟨W6.heap.size + 1, 0, none⟩ = some (.string ⟨qd.toArray⟩) := by simp [World.cell?, H8.out.2.2]
            have k1 : W8.cell? ⟨W6.heap.size + 1, 1, none⟩ = some (.int .u8 (qt : Int)) := by simp [World.cell?, H8.out.2.2]
            have hAh := ahead_any ⟨jd.toArray⟩ ⟨qd.toArray⟩ (jt : Int) (qt : Int) W8.drew
            have hwr3 : IntKind.i64.wrap (j : Int) = (j : Int) := by rw [← hsub]; exact hwr.trans hsub.symm
            have HJ2 := Lib.hid hj
            have hiN : 0 < i := by omega
            have hiD : decide (0 < i) = true := decide_eq_true hiN
            have HI0 := Lib.hid hi0
            clear hBw8 hE' hqi
            clear hj
            refine wp_region_still_tail 20 (by kernel_rfl) (by kernel_rfl) ?_
            simp only [List.take_succ_cons, List.take_zero, List.drop_succ_cons, List.drop_zero]
            show wpStill Tryd.prog _ (World.drew _) (fun a' => wpList _ _ _ _ a' (World.drew _)) _ _
            repeat still_step
            refine wpStill_nil ?_
            go_wp2_with fail
            refine hAh.mono ?_
            rintro e W9 ⟨rfl, os, hW9⟩
            have hB9 : Below W8.heap.size W8 W9 := by
              rw [hW9]
              exact ((Below.refl _ W8).drew.trans (below_drewN (Below.refl _ W8.drew) 1)).trans (below_grow (W8.drew.drewN 1) os)
            have hzv : orI (Lib.compareBytes (⟨jd.toArray⟩ : ByteArray).data.toList (⟨qd.toArray⟩ : ByteArray).data.toList) (cmpInt (jt : Int) (qt : Int)) = cmpP (jd, jt) (qd, qt) := rfl
            rw [hzv]
            have HB9 := Lib.hid hB9
            clear hW9 hB9 hAh hzv k0 k1 u0 u1
            generalize hz : cmpP (jd, jt) (qd, qt) = z
            have HZ := Lib.hid hz
            clear hz
            by_cases hzn : (0 : Int) ≤ z
            · go_wp2
              go_meet
              case rel =>
                refine ⟨rfl, rfl, true, rfl, HB9.out, fun h => (by cases h), fun _ hk => ?_⟩
                have := List.pairwise_iff_getElem.1 hk.asc (i - 1) i (by simp; omega) (by simpa using hlast) (by omega)
                simp only [List.getElem_map, HQI.out, hq, HZ.out] at this
                omega
            · go_wp2
              go_meet
              case rel => exact ⟨rfl, rfl, false, by rw [decide_eq_false (show ¬ (0 : Int) ≤ z by omega)], HB9.out, fun _ => ⟨HY.out, .inr (by rw [HQI.out, HZ.out]; omega)⟩, fun h => (by cases h)⟩
      case rest =>
        obtain ⟨rfl, rfl, bad, rfl, hBc, hgood, hbad⟩ := hcut
        have hBc3 : Below w.heap.size w wc := H6.out.1.trans (Below.less (H8.out.1.trans (Below.less hBc H8.out.1.size)) H6.out.1.size)
        cases bad
        · obtain ⟨hrb, hord⟩ := hgood rfl
          have hok1 : ok = true := H6.out.2.2.1.trans hrb
          have hcc := H6.out.2.2.2 hok1
          have hasc2 := asc_pre hlast HR.out.2.2.2.1 (by rw [hq]; exact hord)
          have hfresh := asc_fresh2 hlast hasc2
          rw [hq] at hfresh
          have hB79 : Below wr.heap.size wr wc := H6.out.2.1.trans (Below.less (H8.out.1.trans (Below.less hBc H8.out.1.size)) H6.out.2.1.size)
          have hT9 : TallyAt wc (w.heap.size + 1) w.heap.size names (xs.take i) := HR.out.1.below hB79 (by have := HR.out.1.lt; omega) (by have := HR.out.1.lt; omega)
          have hc9 := (hBc.block _ (Array.getElem?_eq_some_iff.1 H8.out.2.1).1).trans H8.out.2.1
          have hp9 := (hBc.block _ (Array.getElem?_eq_some_iff.1 H8.out.2.2).1).trans H8.out.2.2
          have t1 : wc.cell? ⟨w.heap.size + 1, 1, none⟩ = some (.map (some w.heap.size)) := hT9.obj.2
          have k0 : wc.cell? ⟨W6.heap.size + 1, 0, none⟩ = some (.string ⟨qd.toArray⟩) := by simp [World.cell?, hp9]
          have k1 : wc.cell? ⟨W6.heap.size + 1, 1, none⟩ = some (.int .u8 (qt : Int)) := by simp [World.cell?, hp9]
          have c0 : wc.cell? ⟨W6.heap.size, 0, none⟩ = some (.int .i64 a0) := by simp [World.cell?, hc9]
          have c1 : wc.cell? ⟨W6.heap.size, 1, none⟩ = some (.int .i64 a1) := by simp [World.cell?, hc9]
          have c2 : wc.cell? ⟨W6.heap.size, 2, none⟩ = some (.int .i64 a2) := by simp [World.cell?, hc9]
          have c3 : wc.cell? ⟨W6.heap.size, 3, none⟩ = some (.int .i64 a3) := by simp [World.cell?, hc9]
          have c4 : wc.cell? ⟨W6.heap.size, 4, none⟩ = some (.int .i64 a4) := by simp [World.cell?, hc9]
          have c5 : wc.cell? ⟨W6.heap.size, 5, none⟩ = some (.int .i64 a5) := by simp [World.cell?, hc9]
          have c6 : wc.cell? ⟨W6.heap.size, 6, none⟩ = some (.int .i64 a6) := by simp [World.cell?, hc9]
          have c7 : wc.cell? ⟨W6.heap.size, 7, none⟩ = some (.int .i64 a7) := by simp [World.cell?, hc9]
          have c8 : wc.cell? ⟨W6.heap.size, 8, none⟩ = some (.int .i64 a8) := by simp [World.cell?, hc9]
          have c9 : wc.cell? ⟨W6.heap.size, 9, none⟩ = some (.int .i64 a9) := by simp [World.cell?, hc9]
          have c10 : wc.cell? ⟨W6.heap.size, 10, none⟩ = some (.int .i64 a10) := by simp [World.cell?, hc9]
          obtain ⟨ob, hrun, hmap⟩ := run_update_at (w := wc.drew) placeLaw Tryd.underlying72 (mapAt_drew hT9.2) (qd, qt) [a0, a1, a2, a3, a4, a5, a6, a7, a8, a9, a10]
          rw [put_new hfresh] at hmap
          have htk : xs.take (i + 1) = xs.take i ++ [((qd, qt), [a0, a1, a2, a3, a4, a5, a6, a7, a8, a9, a10])] := by rw [List.take_succ_eq_append_getElem hlast, hq, hcc]
          rw [← htk] at hmap
          have hg10 := grown_put1 wc ob w.heap.size
          have hT10 : TallyAt (wc.drew.putObj w.heap.size ob) (w.heap.size + 1) w.heap.size names (xs.take (i + 1)) := ⟨(hg10.block _ hT9.lt (fun e => by have := Option.some.inj e; omega)).trans hT9.1, hmap⟩
          have hB10 : Below w.heap.size w (wc.drew.putObj w.heap.size ob) := hBc3.grown hg10 hBc3.size (fun k e => by have := Option.some.inj e; omega)
          have hrows2 : ∀ x ∈ xs.take (i + 1), rowB x.1.1 x.1.2 x.2 = true := fun x hx => by
            rw [List.take_succ_eq_append_getElem hlast, List.mem_append] at hx
            rcases hx with hx | hx
            · exact HR.out.2.2.1 x hx
            · rw [List.mem_singleton.1 hx, hq]; exact hrb
          have H10 := Lib.hid (And.intro hT10 (And.intro hB10 (And.intro hrows2 hasc2)))
          clear hT9 hc9 hp9 hmap htk hg10 hT10 hB10 hrows2 hasc2 hfresh hcc hgood hbad hord hrb hok1 hB79 hBc3
          unfold eK str eV at hrun
          simp only [List.map_cons, List.map_nil] at hrun
          go_wp2_with fail
          refine wp_region_still_tail 6 (by kernel_rfl) (by kernel_rfl) ?_
          simp only [List.take_succ_cons, List.take_zero, List.drop_succ_cons, List.drop_zero]
          show wpStill Tryd.prog _ (World.drew _) (fun a' => wpList _ _ _ _ a' (World.drew _)) _ _
          repeat still_step
          refine wpStill_nil ?_
          go_wp2
          go_roundw
          case rel => exact ⟨i + 1, by simp, by omega, H10.out.1, H10.out.2.1, H10.out.2.2.1, H10.out.2.2.2⟩
          case measure => simp [natOf]; omega
        · have HN := Lib.hid (And.intro (hbad rfl) hBc3)
          clear hgood hbad hBc3
          go_wp2
          refine bodyPost_ret (v := .tuple #[.pointer none, .int .i64 4]) (by simp [results, Tryd.results27, go_sem]) rfl ⟨HN.out.2, .inr ⟨⟨hn1, hn2⟩, .inl ⟨rfl, HN.out.1⟩⟩⟩
    · have hli : ¬ (i : Int) < (xs.length : Int) := by omega
      obtain rfl : i = xs.length := by omega
      rw [List.take_length] at hTr hokr hascr
      have hD := domains_any' (w.heap.size + 1) w.heap.size names xs wr hTr (by omega)
      have HR := Lib.hid (And.intro hTr (And.intro hBr (RowsOk.mk hokr hascr)))
      clear hTr hBr hi hokr hascr
      go_wp2_with fail
      refine hD.mono ?_
      rintro e w6 ⟨vd, rfl, hod, hB6⟩
      obtain ⟨pd, cd, rfl⟩ := own_shape2 hod
      have HF := Lib.hid (And.intro (HR.out.1.below hB6 (by have := HR.out.1.lt; omega) (by have := HR.out.1.lt; omega)) (HR.out.2.1.trans (Below.less hB6 HR.out.2.1.size)))
      clear hD hod hB6
      by_cases hnr : names < ((domsL xs).length : Int)
      · go_wp2
        refine bodyPost_ret (v := .tuple #[.pointer none, .int .i64 41]) (by simp [results, Tryd.results27, go_sem]) rfl ⟨HF.out.2, .inr ⟨⟨hn1, hn2⟩, .inr ⟨HR.out.2.2, .inl ⟨rfl, by omega⟩⟩⟩⟩
      · go_wp2
        refine bodyPost_ret (v := .tuple #[.pointer (some ⟨w.heap.size + 1, 0, none⟩), .int .i64 0]) (by simp [results, Tryd.results27, go_sem]) rfl ⟨HF.out.2, .inr ⟨⟨hn1, hn2⟩, .inr ⟨HR.out.2.2, .inr ⟨rfl, by omega, HF.out.1⟩⟩⟩⟩
end Go.Proofs.YthhcigmdocldnaaDoor
