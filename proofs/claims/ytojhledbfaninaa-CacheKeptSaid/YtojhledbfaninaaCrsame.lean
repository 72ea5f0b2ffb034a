/- The document's Same: of two policies, of two lists of entries. -/
import Derived.Test.YtojhledbfaninaaCone
namespace Go.Proofs.Ytojhledbfaninaa
open Go Go.RowKit Go.Shelf Go.Sort
attribute [local go_sem] bneI

theorem mx_cells {W : World} {B : Nat → Prop} {p : Option Addr} {n c : Nat} {mx : List Bytes} (h : MxAt W B (p, n, c) mx) : ∀ (i : Nat) (hi : i < mx.length), ∃ b o, p = some ⟨b, o, none⟩ ∧ b < W.heap.size ∧ W.cell? ⟨b, o + i, none⟩ = some (.string ⟨mx[i].toArray⟩) := by
  intro i hi
  rcases h.shape with ⟨rfl, _⟩ | ⟨_, b, o, c', e, _, hb, hc⟩
  · simp at hi
  · injection e with e1 _
    exact ⟨b, o, e1, hb, hc i mx[i] (List.getElem?_eq_getElem hi)⟩
theorem eq_of_takes {α : Type} {l m : List α} (hl : l.length = m.length) (h : l.take l.length = m.take l.length) : l = m := by
  rw [List.take_of_length_le (Nat.le_refl _), List.take_of_length_le (by omega)] at h
  exact h
set_option maxRecDepth 100000 in
set_option maxHeartbeats 1000000 in
theorem refPol_any (k1 k2 : Nat) (h1 h2 : SH) (m1 m2 : List Bytes) (a1 a2 : Int) (B1 B2 : Nat → Prop) (w : World) (hm1 : MxAt w B1 h1 m1) (hm2 : MxAt w B2 h2 m2) (hn : m1.length ≤ 1000000) :
    Calls Try.prog 37 #[pcl k1 h1 a1, pcl k2 h2 a2] w fun e w' => e = .returned (.bool (decide (k1 = k2) && decide (a1 = a2) && decide (m1 = m2))) ∧ Below w.heap.size w w' := by
  obtain ⟨p1, n1, c1⟩ := h1
  obtain ⟨p2, n2, c2⟩ := h2
  have hl1 : n1 = m1.length := hm1.1
  have hl2 : n2 = m2.length := hm2.1
  subst hl1 hl2
  unfold pcl shV
  dsimp only
  obtain ⟨W, hW⟩ : ∃ W, W = (w.alloc (.cells #[.int .u8 (k1 : Int), .slice p1 m1.length c1, .int .i64 a1] 57)).alloc (.cells #[.int .u8 (k2 : Int), .slice p2 m2.length c2, .int .i64 a2] 57) := ⟨_, rfl⟩
  have hB : Below w.heap.size w W := by rw [hW]; exact ((Below.refl _ w).alloc (Nat.le_refl _) _).alloc (by simp) _
  have x0 : W.cell? ⟨w.heap.size, 0, none⟩ = some (.int .u8 (k1 : Int)) := by rw [hW]; simp [go_sem]
  have x1 : W.cell? ⟨w.heap.size, 1, none⟩ = some (.slice p1 m1.length c1) := by rw [hW]; simp [go_sem]
  have x2 : W.cell? ⟨w.heap.size, 2, none⟩ = some (.int .i64 a1) := by rw [hW]; simp [go_sem]
  have y0 : W.cell? ⟨w.heap.size + 1, 0, none⟩ = some (.int .u8 (k2 : Int)) := by rw [hW]; simp [go_sem]
  have y1 : W.cell? ⟨w.heap.size + 1, 1, none⟩ = some (.slice p2 m2.length c2) := by rw [hW]; simp [go_sem]
  have y2 : W.cell? ⟨w.heap.size + 1, 2, none⟩ = some (.int .i64 a2) := by rw [hW]; simp [go_sem]
  have HM := Lib.hid (And.intro (mx_cells (hm1.below hB)) (mx_cells (hm2.below hB)))
  have HB := Lib.hid hB
  have HNN := Lib.hid hn
  clear hB hm1 hm2 hn
  by_cases e1 : k1 = k2
  · have e1i : ((k1 : Int) == (k2 : Int)) = true := by rw [e1]; simp
    have e1d : decide ((k1 : Int) = (k2 : Int)) = true := by rw [e1]; simp
    have H1 := Lib.hid e1
    clear e1
    by_cases e2 : a1 = a2
    · have e2i : (a1 == a2) = true := by rw [e2]; simp
      have e2d : decide (a1 = a2) = true := by rw [e2]; simp
      have H2 := Lib.hid e2
      clear e2
      by_cases e3 : m1.length = m2.length
      · have H3 := Lib.hid e3
        have e3i : decide ((m1.length : Int) = (m2.length : Int)) = true := by rw [e3]; simp
        clear e3
        go_enter Try.func37, Try.ntmps37
        go_upto_region 1 with (fail)
        rw [← hW]
        clear hW
        go_wp2_with fail
        have HX := Lib.hid (And.intro x1 y1)
        clear e3i e2i e1i e2d e1d x0 x1 x2 y0 y1 y2
        go_loopw [5] (fun iv wr => ∃ i : Nat, iv = .int .i64 (i : Int) ∧ i ≤ m1.length ∧ m1.take i = m2.take i ∧ Below W.heap.size W wr) (fun iv _ => m1.length - natI iv)
        case atStart => exact ⟨0, rfl, Nat.zero_le _, by simp, Below.refl _ _⟩
        case round =>
          obtain ⟨i, rfl, hi, htk, hBr⟩ := hrel
          have x1 := below_keep hBr _ _ HX.out.1
          have y1 := below_keep hBr _ _ HX.out.2
          by_cases hlast : i < m1.length
          · have hli : (i : Int) < (m1.length : Int) := by omega
            have hi2 : i < m2.length := by have := H3.out; omega
            have hib : (i : Int) < 1000000 := by have := HNN.out; omega
            have hli2 : (i : Int) < (m2.length : Int) := by omega
            obtain ⟨b1, o1, hp1, _, s1⟩ := HM.out.1 i hlast
            obtain ⟨b2, o2, hp2, _, s2⟩ := HM.out.2 i hi2
            subst hp1 hp2
            replace s1 := below_keep hBr _ _ s1
            replace s2 := below_keep hBr _ _ s2
            have hyes : m1[i] = m2[i] → m1.take (i + 1) = m2.take (i + 1) := fun h => by
              rw [List.take_succ_eq_append_getElem hlast, List.take_succ_eq_append_getElem hi2, htk, h]
            have hno : m1[i] ≠ m2[i] → m1 ≠ m2 := fun h e => h (by subst e; rfl)
            have HF := Lib.hid (And.intro hBr (And.intro hyes hno))
            clear hBr hyes hno htk
            generalize m1[i] = t1 at s1 HF
            generalize m2[i] = t2 at s2 HF
            by_cases heq : t1 = t2
            · have hei : (t1 == t2) = true := by rw [heq]; simp
              have hed : decide (t1 = t2) = true := by rw [heq]; simp
              have HG := Lib.hid (HF.out.2.1 heq)
              clear heq
              go_upto_region 6 with (fail)
              go_quiet (fail)
              clear hei hed s1 s2 x1 y1
              go_wp2
              go_roundw
              case rel => exact ⟨i + 1, by simp, by omega, HG.out, HF.out.1.trans ⟨rfl, rfl, rfl, Nat.le_refl _, fun _ _ => rfl⟩⟩
              case measure => simp [natI]; omega
            · have hei : (t1 == t2) = false := by simpa using heq
              have hed : decide (t1 = t2) = false := by simpa using heq
              have HG := Lib.hid (HF.out.2.2 heq)
              clear heq
              go_upto_region 6 with (fail)
              go_quiet (fail)
              clear hei hed s1 s2 x1 y1
              go_wp2
              refine bodyPost_ret (v := .bool false) (by simp [results, Try.results37, go_sem]) rfl ⟨by rw [decide_eq_false HG.out]; simp, (HB.out.trans (HF.out.1.mono HB.out.size)).trans ⟨rfl, rfl, rfl, Nat.le_refl _, fun _ _ => rfl⟩⟩
          · have hli : ¬ (i : Int) < (m1.length : Int) := by omega
            obtain rfl : i = m1.length := by omega
            have hall := eq_of_takes H3.out htk
            have HF := Lib.hid (And.intro hall (HB.out.trans (hBr.mono HB.out.size)))
            clear hall hBr htk
            go_wp2
            refine bodyPost_ret (v := .bool true) (by simp [results, Try.results37, go_sem]) rfl ⟨by rw [decide_eq_true H1.out, decide_eq_true H2.out, decide_eq_true HF.out.1]; rfl, HF.out.2⟩
      · have e3i : decide ((m1.length : Int) = (m2.length : Int)) = false := by simp; omega
        have H3 := Lib.hid (show m1 ≠ m2 from fun e => e3 (by rw [e]))
        clear e3
        go_enter Try.func37, Try.ntmps37
        go_upto_region 1 with (fail)
        rw [← hW]
        clear hW
        go_wp2
        refine bodyPost_ret (v := .bool false) (by simp [results, Try.results37, go_sem]) rfl ⟨by rw [decide_eq_false H3.out]; simp, HB.out⟩
    · have e2i : (a1 == a2) = false := by simpa using e2
      have e2d : decide (a1 = a2) = false := by simpa using e2
      have H2 := Lib.hid e2
      clear e2
      go_enter Try.func37, Try.ntmps37
      go_upto_region 1 with (fail)
      rw [← hW]
      clear hW
      go_wp2
      refine bodyPost_ret (v := .bool false) (by simp [results, Try.results37, go_sem]) rfl ⟨by rw [decide_eq_false H2.out]; simp, HB.out⟩
  · have e1i : ((k1 : Int) == (k2 : Int)) = false := by simp; omega
    have e1d : decide ((k1 : Int) = (k2 : Int)) = false := by simp; first | done | omega
    have H1 := Lib.hid e1
    clear e1
    go_enter Try.func37, Try.ntmps37
    go_upto_region 1 with (fail)
    rw [← hW]
    clear hW
    go_wp2
    refine bodyPost_ret (v := .bool false) (by simp [results, Try.results37, go_sem]) rfl ⟨by rw [decide_eq_false H1.out]; simp, HB.out⟩

set_option maxRecDepth 100000 in
set_option maxHeartbeats 4000000 in
theorem refSame_any (v1 v2 : Value) (xs ys : List EM) (B1 B2 : Nat → Prop) (w : World) (hx : RowE w v1 xs) (hy : RowE w v2 ys) (tx : TextsE w B1 xs) (ty : TextsE w B2 ys) (fx : ∀ x ∈ xs, x.1.mx.length ≤ 1000000) (hn : xs.length ≤ 1000000) :
    Calls Try.prog 19 #[v1, v2] w fun e w' => e = .returned (.bool (decide (xs.map (·.1) = ys.map (·.1)))) ∧ Below w.heap.size w w' := by
  obtain ⟨p1, c1, rfl⟩ := hx.sh
  obtain ⟨p2, c2, rfl⟩ := hy.sh
  by_cases hlen : xs.length = ys.length
  · rw [← hlen] at hy ⊢
    have HH := Lib.hid (And.intro hx (And.intro hy (And.intro tx (And.intro ty hlen))))
    have HNN := Lib.hid (And.intro fx hn)
    clear hx hy tx ty hlen fx hn
    go_enter Try.func19, Try.ntmps19
    go_wp2_with fail
    go_loopw [5] (fun iv wr => ∃ i : Nat, iv = .int .i64 (i : Int) ∧ i ≤ xs.length ∧ (xs.map (·.1)).take i = (ys.map (·.1)).take i ∧ Below w.heap.size w wr) (fun iv _ => xs.length - natI iv)
    case atStart => exact ⟨0, rfl, Nat.zero_le _, by simp, Below.refl _ _⟩
    case round =>
      obtain ⟨i, rfl, hi, htk, hB⟩ := hrel
      by_cases hlast : i < xs.length
      · have hli : (i : Int) < (xs.length : Int) := by omega
        have hiy : i < ys.length := by rw [← HH.out.2.2.2.2]; exact hlast
        have hib : (i : Int) < 1000000 := by have := HNN.out.2; omega
        obtain ⟨b1, o1, hp1, hl1, hc1⟩ := HH.out.1.at i hlast
        obtain ⟨b2, o2, hp2, hl2, hc2⟩ := HH.out.2.1.at i hiy
        subst hp1 hp2
        have hyes : xs[i].1 = ys[i].1 → (xs.map (·.1)).take (i + 1) = (ys.map (·.1)).take (i + 1) := fun h => by
          rw [List.take_succ_eq_append_getElem (by simpa using hlast), List.take_succ_eq_append_getElem (by simpa using hiy), htk]
          simp [h]
        have hno : xs[i].1 ≠ ys[i].1 → xs.map (·.1) ≠ ys.map (·.1) := fun h e => h (by
          have := congrArg (fun l => l[i]?) e
          simpa [hlast, hiy] using this)
        have hk := fun (q : BW wr) => (hB.trans (q.h.mono hB.size))
        have hx := fun (q : BW wr) => hc1 i hlast
        have x0 := fun q : BW wr => six_below (hk q) hl1 (hc1 i hlast).1
        have x1 := fun q : BW wr => six_below (hk q) hl1 (hc1 i hlast).2.1
        have x2 := fun q : BW wr => six_below (hk q) hl1 (hc1 i hlast).2.2.1
        have x3 := fun q : BW wr => six_below (hk q) hl1 (hc1 i hlast).2.2.2.1
        have x4 := fun q : BW wr => six_below (hk q) hl1 (hc1 i hlast).2.2.2.2.1
        have x5 := fun q : BW wr => six_below (hk q) hl1 (hc1 i hlast).2.2.2.2.2
        have y0 := fun q : BW wr => six_below (hk q) hl2 (hc2 i hiy).1
        have y1 := fun q : BW wr => six_below (hk q) hl2 (hc2 i hiy).2.1
        have y2 := fun q : BW wr => six_below (hk q) hl2 (hc2 i hiy).2.2.1
        have y3 := fun q : BW wr => six_below (hk q) hl2 (hc2 i hiy).2.2.2.1
        have y4 := fun q : BW wr => six_below (hk q) hl2 (hc2 i hiy).2.2.2.2.1
        have y5 := fun q : BW wr => six_below (hk q) hl2 (hc2 i hiy).2.2.2.2.2
        have tx := HH.out.2.2.1 _ (List.getElem_mem hlast)
        have ty := HH.out.2.2.2.1 _ (List.getElem_mem hiy)
        have fx := HNN.out.1 _ (List.getElem_mem hlast)
        have hS : ∀ q : BW wr, Calls Try.prog 37 #[pcl xs[i].1.mode xs[i].2 xs[i].1.age, pcl ys[i].1.mode ys[i].2 ys[i].1.age] q.v (fun e w'' => e = .returned (.bool (decide (xs[i].1.mode = ys[i].1.mode) && decide (xs[i].1.age = ys[i].1.age) && decide (xs[i].1.mx = ys[i].1.mx))) ∧ ∃ q' : BW wr, w'' = q'.v) := fun q => (refPol_any xs[i].1.mode ys[i].1.mode xs[i].2 ys[i].2 xs[i].1.mx ys[i].1.mx xs[i].1.age ys[i].1.age B1 B2 q.v (tx.below (hk q)) (ty.below (hk q)) fx).mono fun e w'' hh => ⟨hh.1, ⟨w'', q.h.trans (hh.2.mono q.h.size)⟩, rfl⟩
        have HB := Lib.hid (And.intro hB (And.intro hyes hno))
        clear hB hyes hno htk hc1 hc2 hl1 hl2 hk hx tx ty fx
        obtain ⟨x, hxx⟩ : ∃ x, x = xs[i] := ⟨_, rfl⟩
        obtain ⟨y, hyy⟩ : ∃ y, y = ys[i] := ⟨_, rfl⟩
        rw [← hxx] at x0 x1 x2 x3 x4 x5 HB hS
        rw [← hyy] at y0 y1 y2 y3 y4 y5 HB hS
        clear hxx hyy
        obtain ⟨⟨d1, i1, k1, m1, a1, u1⟩, q1, n1, cc1⟩ := x
        obtain ⟨⟨d2, i2, k2, m2, a2, u2⟩, q2, n2, cc2⟩ := y
        dsimp only at x0 x1 x2 x3 x4 x5 y0 y1 y2 y3 y4 y5 HB hS
        unfold pcl shV at hS
        dsimp only at hS
        have hno : (d1 ≠ d2 ∨ i1 ≠ i2 ∨ u1 ≠ u2) → (⟨d1, i1, k1, m1, a1, u1⟩ : PE) ≠ ⟨d2, i2, k2, m2, a2, u2⟩ := fun h e => by injection e with q1 q2 q3 q4 q5 q6; rcases h with h | h | h <;> exact h (by assumption)
        have hyes : d1 = d2 → i1 = i2 → u1 = u2 → decide ((⟨d1, i1, k1, m1, a1, u1⟩ : PE) = ⟨d2, i2, k2, m2, a2, u2⟩) = (decide (k1 = k2) && decide (a1 = a2) && decide (m1 = m2)) := fun h1 h2 h3 => pe_eq h1 h2 h3
        generalize (decide (k1 = k2) && decide (a1 = a2) && decide (m1 = m2)) = r at hS hyes
        have HN := Lib.hid (And.intro hno hyes)
        clear hno hyes
        by_cases e1 : d1 = d2
        · have e1i : (d1 == d2) = true := by rw [e1]; simp
          have e1d : decide (d1 = d2) = true := by rw [e1]; simp
          have H1 := Lib.hid e1
          clear e1
          by_cases e2 : i1 = i2
          · have e2i : (i1 == i2) = true := by rw [e2]; simp
            have e2d : decide (i1 = i2) = true := by rw [e2]; simp
            have H2 := Lib.hid e2
            clear e2
            by_cases e3 : u1 = u2
            · have e3i : (u1 == u2) = true := by rw [e3]; simp
              have e3d : decide (u1 = u2) = true := by rw [e3]; simp
              have hde := HN.out.2 H1.out H2.out e3
              clear e3
              cases r
              · have hne := HB.out.2.2 (of_decide_eq_false hde)
                have HD := Lib.hid hne
                clear hde hne
                go_upto_region 6 with (fail)
                refine wp_region_quiet_below (by kernel_rfl) (by kernel_rfl) ?_
                repeat (go_big_quiet_step (exact hS _))
                refine wpQuiet_nil ?_
                intro w5 hw'
                have hb5 : Below wr.heap.size wr w5 := by
                  obtain ⟨q, rfl⟩ := hw'
                  exact q.h
                have HW := Lib.hid (HB.out.1.trans (hb5.mono HB.out.1.size))
                clear hw' hb5 x0 x1 x2 x3 x4 x5 y0 y1 y2 y3 y4 y5 hS
                go_wp2
                refine bodyPost_ret (v := .bool false) (by simp [results, Try.results19, go_sem]) rfl ⟨by rw [decide_eq_false HD.out], HW.out⟩
              · have hne := HB.out.2.1 (of_decide_eq_true hde)
                have HD := Lib.hid hne
                clear hde hne
                go_upto_region 6 with (fail)
                refine wp_region_quiet_below (by kernel_rfl) (by kernel_rfl) ?_
                repeat (go_big_quiet_step (exact hS _))
                refine wpQuiet_nil ?_
                intro w5 hw'
                have hb5 : Below wr.heap.size wr w5 := by
                  obtain ⟨q, rfl⟩ := hw'
                  exact q.h
                have HW := Lib.hid (HB.out.1.trans (hb5.mono HB.out.1.size))
                clear hw' hb5 x0 x1 x2 x3 x4 x5 y0 y1 y2 y3 y4 y5 hS
                go_wp2
                go_roundw
                case rel => exact ⟨i + 1, by simp, by omega, HD.out, HW.out⟩
                case measure => simp [natI]; omega
            · have e3i : (u1 == u2) = false := by simpa using e3
              have e3d : decide (u1 = u2) = false := by simpa using e3
              have hne := HB.out.2.2 (HN.out.1 (.inr (.inr e3)))
              have HD := Lib.hid hne
              clear e3 hne
              go_upto_region 6 with (fail)
              refine wp_region_quiet_below (by kernel_rfl) (by kernel_rfl) ?_
              repeat (go_big_quiet_step (exact hS _))
              refine wpQuiet_nil ?_
              intro w5 hw'
              have hb5 : Below wr.heap.size wr w5 := by
                obtain ⟨q, rfl⟩ := hw'
                exact q.h
              have HW := Lib.hid (HB.out.1.trans (hb5.mono HB.out.1.size))
              clear hw' hb5 x0 x1 x2 x3 x4 x5 y0 y1 y2 y3 y4 y5 hS
              go_wp2
              refine bodyPost_ret (v := .bool false) (by simp [results, Try.results19, go_sem]) rfl ⟨by rw [decide_eq_false HD.out], HW.out⟩
          · have e2i : (i1 == i2) = false := by simpa using e2
            have e2d : decide (i1 = i2) = false := by simpa using e2
            have hne := HB.out.2.2 (HN.out.1 (.inr (.inl e2)))
            have HD := Lib.hid hne
            clear e2 hne
            go_upto_region 6 with (fail)
            refine wp_region_quiet_below (by kernel_rfl) (by kernel_rfl) ?_
            repeat (go_big_quiet_step (exact hS _))
            refine wpQuiet_nil ?_
            intro w5 hw'
            have hb5 : Below wr.heap.size wr w5 := by
              obtain ⟨q, rfl⟩ := hw'
              exact q.h
            have HW := Lib.hid (HB.out.1.trans (hb5.mono HB.out.1.size))
            clear hw' hb5 x0 x1 x2 x3 x4 x5 y0 y1 y2 y3 y4 y5 hS
            go_wp2
            refine bodyPost_ret (v := .bool false) (by simp [results, Try.results19, go_sem]) rfl ⟨by rw [decide_eq_false HD.out], HW.out⟩
        · have e1i : (d1 == d2) = false := by simpa using e1
          have e1d : decide (d1 = d2) = false := by simpa using e1
          have hne := HB.out.2.2 (HN.out.1 (.inl e1))
          have HD := Lib.hid hne
          clear e1 hne
          go_upto_region 6 with (fail)
          refine wp_region_quiet_below (by kernel_rfl) (by kernel_rfl) ?_
          repeat (go_big_quiet_step (exact hS _))
          refine wpQuiet_nil ?_
          intro w5 hw'
          have hb5 : Below wr.heap.size wr w5 := by
            obtain ⟨q, rfl⟩ := hw'
            exact q.h
          have HW := Lib.hid (HB.out.1.trans (hb5.mono HB.out.1.size))
          clear hw' hb5 x0 x1 x2 x3 x4 x5 y0 y1 y2 y3 y4 y5 hS
          go_wp2
          refine bodyPost_ret (v := .bool false) (by simp [results, Try.results19, go_sem]) rfl ⟨by rw [decide_eq_false HD.out], HW.out⟩
      · have hli : ¬ (i : Int) < (xs.length : Int) := by omega
        obtain rfl : i = xs.length := by omega
        have hall : xs.map (·.1) = ys.map (·.1) := by
          rw [List.take_of_length_le (by simp), List.take_of_length_le (by simp; exact Nat.le_of_eq HH.out.2.2.2.2.symm)] at htk
          exact htk
        have HF := Lib.hid (And.intro hall hB)
        clear hall hB htk
        go_wp2
        refine bodyPost_ret (v := .bool true) (by simp [results, Try.results19, go_sem]) rfl ⟨by rw [decide_eq_true HF.out.1], HF.out.2⟩
  · have hne : xs.map (·.1) ≠ ys.map (·.1) := fun e => hlen (by have := congrArg List.length e; simpa using this)
    have hli : decide ((xs.length : Int) = (ys.length : Int)) = false := by simp; omega
    have HH := Lib.hid hne
    clear hne hlen hx hy tx ty fx hn
    go_enter Try.func19, Try.ntmps19
    go_wp2
    refine bodyPost_ret (v := .bool false) (by simp [results, Try.results19, go_sem]) rfl ⟨by rw [decide_eq_false HH.out], Below.refl _ _⟩
end Go.Proofs.Ytojhledbfaninaa
