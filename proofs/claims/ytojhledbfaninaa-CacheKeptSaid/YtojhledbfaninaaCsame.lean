/- Same. -/
import Derived.Test.YtojhledbfaninaaCload
namespace Go.Proofs.Ytojhledbfaninaa
open Go Go.RowKit Go.Shelf Go.Sort

theorem equalMx_any (h1 h2 : SH) (m1 m2 : List Bytes) (B1 B2 : Nat → Prop) (w : World) (hm1 : MxAt w B1 h1 m1) (hm2 : MxAt w B2 h2 m2) (hn1 : m1.length ≤ 1000000) (hn2 : m2.length ≤ 1000000) :
    Calls Try.prog 33 #[shV h1, shV h2] w fun e w' => e = .returned (.bool (decide (m1 = m2))) ∧ ∃ q, w' = w.drewN q := by
  rcases hm1.shape with ⟨rfl, p1, c1, rfl⟩ | ⟨hne1, b1, o1, c1, rfl, -, hb1, hc1⟩
  · have h2l : h2.2.1 = m2.length := hm2.1
    obtain ⟨p2, n2, c2⟩ := h2
    dsimp only at h2l
    subst h2l
    refine (Try.slices_Equal_string_empty p1 p2 c1 m2.length c2 w (by omega)).mono ?_
    rintro e w' ⟨rfl, rfl⟩
    refine ⟨?_, 0, rfl⟩
    cases m2 <;> simp
  · rcases hm2.shape with ⟨rfl, p2, c2, rfl⟩ | ⟨hne2, b2, o2, c2, rfl, -, hb2, hc2⟩
    · refine (Try.slices_Equal_string_lens (some ⟨b1, o1, none⟩) p2 m1.length c1 0 c2 w (by have := List.length_pos_iff.2 hne1; omega)).mono ?_
      rintro e w' ⟨rfl, rfl⟩
      exact ⟨by simp [hne1], 0, rfl⟩
    · have hz : ∀ (m : List Bytes) (b o : Nat), (∀ j u, m[j]? = some u → w.cell? ⟨b, o + j, none⟩ = some (str u)) → ∀ j, j < (m.map fun x => (⟨x.toArray⟩ : ByteArray)).length → w.cell? ⟨b, o + j, none⟩ = some (.string ((m.map fun x => (⟨x.toArray⟩ : ByteArray)).getD j ByteArray.empty)) := by
        intro m b o hc j hj
        simp at hj
        rw [hc j m[j] (List.getElem?_eq_getElem hj)]
        simp [str, hj, List.getD]
      refine (Try.slices_Equal_string b1 o1 m1.length c1 b2 o2 m2.length c2 (m1.map fun x => ⟨x.toArray⟩) (m2.map fun x => ⟨x.toArray⟩) w (by simp) (by simp) (by omega) (by omega) (hz m1 b1 o1 hc1) (hz m2 b2 o2 hc2)).mono ?_
      rintro e w' ⟨rfl, hq⟩
      refine ⟨?_, hq⟩
      rw [List.take_of_length_le (by simp), List.take_of_length_le (by simp)]
      congr 2
      rw [decide_eq_decide]
      constructor
      · intro h
        have : (m1.map fun x => (⟨x.toArray⟩ : ByteArray)).map (fun s => s.data.toList) = (m2.map fun x => (⟨x.toArray⟩ : ByteArray)).map (fun s => s.data.toList) := by rw [h]
        simpa [List.map_map, Function.comp_def] using this
      · rintro rfl; rfl

set_option maxRecDepth 100000 in
set_option maxHeartbeats 1000000 in
theorem polSame_any (k1 k2 : Nat) (h1 h2 : SH) (m1 m2 : List Bytes) (a1 a2 : Int) (B1 B2 : Nat → Prop) (w : World) (hm1 : MxAt w B1 h1 m1) (hm2 : MxAt w B2 h2 m2) (hn1 : m1.length ≤ 1000000) (hn2 : m2.length ≤ 1000000) :
    Calls Try.prog 17 #[pcl k1 h1 a1, pcl k2 h2 a2] w fun e w' => e = .returned (.bool (decide (k1 = k2) && decide (a1 = a2) && decide (m1 = m2))) ∧ Below w.heap.size w w' := by
  have hC := fun (W : World) (hb : Below w.heap.size w W) => equalMx_any h1 h2 m1 m2 B1 B2 W (hm1.below hb) (hm2.below hb) hn1 hn2
  obtain ⟨p1, n1, c1⟩ := h1
  obtain ⟨p2, n2, c2⟩ := h2
  unfold pcl shV
  unfold shV at hC
  dsimp only at hC ⊢
  clear hm1 hm2 hn1 hn2
  obtain ⟨W, hW⟩ : ∃ W, W = (w.alloc (.cells #[.int .u8 (k1 : Int), .slice p1 n1 c1, .int .i64 a1] 25)).alloc (.cells #[.int .u8 (k2 : Int), .slice p2 n2 c2, .int .i64 a2] 25) := ⟨_, rfl⟩
  have hB : Below w.heap.size w W := by rw [hW]; exact ((Below.refl _ w).alloc (Nat.le_refl _) _).alloc (by simp) _
  have hCW := hC W hB
  have x0 : W.cell? ⟨w.heap.size, 0, none⟩ = some (.int .u8 (k1 : Int)) := by rw [hW]; simp [go_sem]
  have x1 : W.cell? ⟨w.heap.size, 1, none⟩ = some (.slice p1 n1 c1) := by rw [hW]; simp [go_sem]
  have x2 : W.cell? ⟨w.heap.size, 2, none⟩ = some (.int .i64 a1) := by rw [hW]; simp [go_sem]
  have y0 : W.cell? ⟨w.heap.size + 1, 0, none⟩ = some (.int .u8 (k2 : Int)) := by rw [hW]; simp [go_sem]
  have y1 : W.cell? ⟨w.heap.size + 1, 1, none⟩ = some (.slice p2 n2 c2) := by rw [hW]; simp [go_sem]
  have y2 : W.cell? ⟨w.heap.size + 1, 2, none⟩ = some (.int .i64 a2) := by rw [hW]; simp [go_sem]
  generalize decide (m1 = m2) = r at hCW ⊢
  have HB := Lib.hid hB
  clear hC hB
  by_cases e1 : k1 = k2
  · have e1i : ((k1 : Int) == (k2 : Int)) = true := by rw [e1]; simp
    have H1 := Lib.hid e1
    clear e1
    by_cases e2 : a1 = a2
    · have e2i : (a1 == a2) = true := by rw [e2]; simp
      have H2 := Lib.hid e2
      clear e2
      go_enter Try.func17, Try.ntmps17
      go_upto_region 1 with (fail)
      rw [← hW]
      clear hW
      go_wp2_with fail
      refine hCW.mono ?_
      rintro e w2 ⟨rfl, q, rfl⟩
      go_wp2
      refine bodyPost_ret (v := .bool r) (by simp [results, Try.results17, go_sem]) rfl ⟨by rw [decide_eq_true H1.out, decide_eq_true H2.out]; rfl, HB.out.trans ⟨rfl, rfl, rfl, Nat.le_refl _, fun _ _ => rfl⟩⟩
    · have e2i : (a1 == a2) = false := by simpa using e2
      have H2 := Lib.hid e2
      clear e2 hCW
      go_enter Try.func17, Try.ntmps17
      go_upto_region 1 with (fail)
      rw [← hW]
      clear hW
      go_wp2
      refine bodyPost_ret (v := .bool false) (by simp [results, Try.results17, go_sem]) rfl ⟨by rw [decide_eq_false H2.out]; simp, HB.out⟩
  · have e1i : ((k1 : Int) == (k2 : Int)) = false := by simp; omega
    have H1 := Lib.hid e1
    clear e1 hCW
    go_enter Try.func17, Try.ntmps17
    go_upto_region 1 with (fail)
    rw [← hW]
    clear hW
    go_wp2
    refine bodyPost_ret (v := .bool false) (by simp [results, Try.results17, go_sem]) rfl ⟨by rw [decide_eq_false H1.out]; simp, HB.out⟩

theorem pe_ne {x y : PE} (h : x.dom ≠ y.dom ∨ x.id ≠ y.id ∨ x.unt ≠ y.unt) : Ending.returned (.bool false) = .returned (.bool (decide (x = y))) := by
  rw [decide_eq_false (fun e => by subst e; simp at h)]
theorem pe_eq {x y : PE} (h1 : x.dom = y.dom) (h2 : x.id = y.id) (h3 : x.unt = y.unt) : decide (x = y) = (decide (x.mode = y.mode) && decide (x.age = y.age) && decide (x.mx = y.mx)) := by
  rw [Bool.eq_iff_iff]
  simp only [decide_eq_true_eq, Bool.and_eq_true]
  constructor
  · rintro rfl; exact ⟨⟨rfl, rfl⟩, rfl⟩
  · rintro ⟨⟨a, b⟩, c⟩; exact PE.eq h1 h2 a c b h3
set_option maxRecDepth 100000 in
set_option maxHeartbeats 1000000 in
theorem sameE_any (x y : EM) (B1 B2 : Nat → Prop) (w : World) (hm1 : MxAt w B1 x.2 x.1.mx) (hm2 : MxAt w B2 y.2 y.1.mx) (hn1 : x.1.mx.length ≤ 1000000) (hn2 : y.1.mx.length ≤ 1000000) :
    Calls Try.prog 32 #[evp x, evp y] w fun e w' => e = .returned (.bool (decide (x.1 = y.1))) ∧ Below w.heap.size w w' := by
  obtain ⟨⟨d1, i1, k1, m1, a1, u1⟩, p1, n1, c1⟩ := x
  obtain ⟨⟨d2, i2, k2, m2, a2, u2⟩, p2, n2, c2⟩ := y
  have hC := fun (W : World) (hb : Below w.heap.size w W) => polSame_any k1 k2 (p1, n1, c1) (p2, n2, c2) m1 m2 a1 a2 B1 B2 W (hm1.below hb) (hm2.below hb) hn1 hn2
  rw [lit_ev, lit_ev]
  unfold pcl shV at hC
  dsimp only at hC ⊢
  clear hm1 hm2 hn1 hn2
  obtain ⟨W, hW⟩ : ∃ W, W = (w.alloc (.cells #[.string ⟨d1.toArray⟩, .string ⟨i1.toArray⟩, .int .u8 (k1 : Int), .slice p1 n1 c1, .int .i64 a1, .int .i64 u1] 27)).alloc (.cells #[.string ⟨d2.toArray⟩, .string ⟨i2.toArray⟩, .int .u8 (k2 : Int), .slice p2 n2 c2, .int .i64 a2, .int .i64 u2] 27) := ⟨_, rfl⟩
  have hB : Below w.heap.size w W := by rw [hW]; exact ((Below.refl _ w).alloc (Nat.le_refl _) _).alloc (by simp) _
  have hCW := hC W hB
  have hbx : W.heap[w.heap.size]? = some (.cells #[.string ⟨d1.toArray⟩, .string ⟨i1.toArray⟩, .int .u8 (k1 : Int), .slice p1 n1 c1, .int .i64 a1, .int .i64 u1] 27 (0, 0)) := by rw [hW, ha_ne (by simp), ha_eq rfl]
  have hby : W.heap[w.heap.size + 1]? = some (.cells #[.string ⟨d2.toArray⟩, .string ⟨i2.toArray⟩, .int .u8 (k2 : Int), .slice p2 n2 c2, .int .i64 a2, .int .i64 u2] 27 (0, 0)) := by rw [hW, ha_eq (by simp)]
  obtain ⟨x0, x1, x2, x3, x4, x5⟩ := box6 hbx
  obtain ⟨y0, y1, y2, y3, y4, y5⟩ := box6 hby
  have hno : (d1 ≠ d2 ∨ i1 ≠ i2 ∨ u1 ≠ u2) → Ending.returned (.bool false) = .returned (.bool (decide ((⟨d1, i1, k1, m1, a1, u1⟩ : PE) = ⟨d2, i2, k2, m2, a2, u2⟩))) := fun h => pe_ne h
  have hyes : d1 = d2 → i1 = i2 → u1 = u2 → decide ((⟨d1, i1, k1, m1, a1, u1⟩ : PE) = ⟨d2, i2, k2, m2, a2, u2⟩) = (decide (k1 = k2) && decide (a1 = a2) && decide (m1 = m2)) := fun h1 h2 h3 => pe_eq h1 h2 h3
  generalize decide ((⟨d1, i1, k1, m1, a1, u1⟩ : PE) = ⟨d2, i2, k2, m2, a2, u2⟩) = R at hno hyes ⊢
  generalize (decide (k1 = k2) && decide (a1 = a2) && decide (m1 = m2)) = r at hCW hyes
  have HB := Lib.hid (And.intro hB (And.intro hno hyes))
  clear hC hB hbx hby hno hyes
  by_cases e1 : d1 = d2
  · have e1i : (d1 == d2) = true := by rw [e1]; simp
    have H1 := Lib.hid e1
    clear e1
    by_cases e2 : i1 = i2
    · have e2i : (i1 == i2) = true := by rw [e2]; simp
      have H2 := Lib.hid e2
      clear e2
      by_cases e3 : u1 = u2
      · have e3i : (u1 == u2) = true := by rw [e3]; simp
        have H3 := Lib.hid e3
        clear e3
        go_enter Try.func32, Try.ntmps32
        go_upto_region 1 with (fail)
        rw [← hW]
        clear hW
        go_wp2_with fail
        refine hCW.mono ?_
        rintro e w2 ⟨rfl, hb2⟩
        go_wp2
        refine bodyPost_ret (v := .bool r) (by simp [results, Try.results32, go_sem]) rfl ⟨by rw [HB.out.2.2 H1.out H2.out H3.out], HB.out.1.trans (hb2.mono HB.out.1.size)⟩
      · have e3i : (u1 == u2) = false := by simpa using e3
        have H3 := Lib.hid e3
        clear e3 hCW
        go_enter Try.func32, Try.ntmps32
        go_upto_region 1 with (fail)
        rw [← hW]
        clear hW
        go_wp2
        refine bodyPost_ret (v := .bool false) (by simp [results, Try.results32, go_sem]) rfl ⟨HB.out.2.1 (.inr (.inr H3.out)), HB.out.1⟩
    · have e2i : (i1 == i2) = false := by simpa using e2
      have H2 := Lib.hid e2
      clear e2 hCW
      go_enter Try.func32, Try.ntmps32
      go_upto_region 1 with (fail)
      rw [← hW]
      clear hW
      go_wp2
      refine bodyPost_ret (v := .bool false) (by simp [results, Try.results32, go_sem]) rfl ⟨HB.out.2.1 (.inr (.inl H2.out)), HB.out.1⟩
  · have e1i : (d1 == d2) = false := by simpa using e1
    have H1 := Lib.hid e1
    clear e1 hCW
    go_enter Try.func32, Try.ntmps32
    go_upto_region 1 with (fail)
    rw [← hW]
    clear hW
    go_wp2
    refine bodyPost_ret (v := .bool false) (by simp [results, Try.results32, go_sem]) rfl ⟨HB.out.2.1 (.inl H1.out), HB.out.1⟩

theorem RowE.sh {W : World} {v : Value} {zs : List EM} (h : RowE W v zs) : ∃ p c, v = .slice p zs.length c := by
  rcases h with ⟨rfl, p, c, rfl⟩ | ⟨_, b, o, c, rfl, _⟩
  · exact ⟨p, c, rfl⟩
  · exact ⟨_, c, rfl⟩
/-- Where its elements lie. -/
theorem RowE.at {W : World} {p : Option Addr} {n c : Nat} {zs : List EM} (h : RowE W (.slice p n c) zs) (i : Nat) (hi : i < zs.length) :
    ∃ b o, p = some ⟨b, o, none⟩ ∧ b < W.heap.size ∧ ∀ (j : Nat) (hj : j < zs.length), W.cell? ⟨b, o + j * 6, none⟩ = some (.string ⟨zs[j].1.dom.toArray⟩) ∧ W.cell? ⟨b, o + j * 6 + 1, none⟩ = some (.string ⟨zs[j].1.id.toArray⟩) ∧ W.cell? ⟨b, o + j * 6 + 2, none⟩ = some (.int .u8 (zs[j].1.mode : Int)) ∧
      W.cell? ⟨b, o + j * 6 + 3, none⟩ = some (.slice zs[j].2.1 zs[j].2.2.1 zs[j].2.2.2) ∧ W.cell? ⟨b, o + j * 6 + 4, none⟩ = some (.int .i64 zs[j].1.age) ∧ W.cell? ⟨b, o + j * 6 + 5, none⟩ = some (.int .i64 zs[j].1.unt) := by
  rcases h with ⟨rfl, _⟩ | ⟨_, b, o, c', e, hcc⟩
  · simp at hi
  · injection e with e1 _ _
    refine ⟨b, o, e1, cell_lt (hcc i hi 0 _ rfl), fun j hj => ⟨hcc j hj 0 _ rfl, hcc j hj 1 _ rfl, hcc j hj 2 _ rfl, hcc j hj 3 _ rfl, hcc j hj 4 _ rfl, hcc j hj 5 _ rfl⟩⟩
theorem six_below {W W' : World} {b : Nat} (hb : Below W.heap.size W W') (hlt : b < W.heap.size) {k : Nat} {v : Value} (h : W.cell? ⟨b, k, none⟩ = some v) : W'.cell? ⟨b, k, none⟩ = some v := (hb.cell (p := ⟨b, k, none⟩) hlt).trans h
set_option maxRecDepth 100000 in
set_option maxHeartbeats 2000000 in
theorem equalE_any (v1 v2 : Value) (xs ys : List EM) (B1 B2 : Nat → Prop) (w : World) (hx : RowE w v1 xs) (hy : RowE w v2 ys) (tx : TextsE w B1 xs) (ty : TextsE w B2 ys) (fx : ∀ x ∈ xs, x.1.mx.length ≤ 1000000) (fy : ∀ x ∈ ys, x.1.mx.length ≤ 1000000) (hn : xs.length ≤ 1000000) :
    Calls Try.prog 31 #[v1, v2, .func (.func 32) #[] #[]] w fun e w' => e = .returned (.bool (decide (xs.map (·.1) = ys.map (·.1)))) ∧ Below w.heap.size w w' := by
  obtain ⟨p1, c1, rfl⟩ := hx.sh
  obtain ⟨p2, c2, rfl⟩ := hy.sh
  by_cases hlen : xs.length = ys.length
  · rw [← hlen] at hy ⊢
    have HH := Lib.hid (And.intro hx (And.intro hy (And.intro tx (And.intro ty (And.intro fx (And.intro fy hlen))))))
    clear hx hy tx ty fx fy hlen
    go_enter Try.func31, Try.ntmps31
    go_wp2_with fail
    go_loopw [7, 17] (fun _ s17 wr => ∃ i : Nat, s17 = .int .i64 (i : Int) ∧ i ≤ xs.length ∧ (xs.map (·.1)).take i = (ys.map (·.1)).take i ∧ Below w.heap.size w wr) (fun _ s17 _ => xs.length - natI s17)
    case atStart => exact ⟨0, rfl, Nat.zero_le _, by simp, Below.refl _ _⟩
    case round =>
      obtain ⟨i, rfl, hi, htk, hB⟩ := hrel
      by_cases hlast : i < xs.length
      · have hli : (i : Int) < (xs.length : Int) := by omega
        have hiy : i < ys.length := by rw [← HH.out.2.2.2.2.2.2]; exact hlast
        obtain ⟨b1, o1, hp1, hl1, hc1⟩ := HH.out.1.at i hlast
        obtain ⟨b2, o2, hp2, hl2, hc2⟩ := HH.out.2.1.at i hiy
        subst hp1 hp2
        obtain ⟨x0, x1, x2, x3, x4, x5⟩ := hc1 i hlast
        obtain ⟨y0, y1, y2, y3, y4, y5⟩ := hc2 i hiy
        replace x0 := six_below hB hl1 x0
        replace x1 := six_below hB hl1 x1
        replace x2 := six_below hB hl1 x2
        replace x3 := six_below hB hl1 x3
        replace x4 := six_below hB hl1 x4
        replace x5 := six_below hB hl1 x5
        replace y0 := six_below hB hl2 y0
        replace y1 := six_below hB hl2 y1
        replace y2 := six_below hB hl2 y2
        replace y3 := six_below hB hl2 y3
        replace y4 := six_below hB hl2 y4
        replace y5 := six_below hB hl2 y5
        have hn2 : b2 ≠ wr.heap.size := Nat.ne_of_lt (Nat.lt_of_lt_of_le hl2 hB.size)
        have hS := fun (W : World) (hb : Below w.heap.size w W) => sameE_any xs[i] ys[i] B1 B2 W ((HH.out.2.2.1 _ (List.getElem_mem hlast)).below hb) ((HH.out.2.2.2.1 _ (List.getElem_mem hiy)).below hb) (HH.out.2.2.2.2.1 _ (List.getElem_mem hlast)) (HH.out.2.2.2.2.2.1 _ (List.getElem_mem hiy))
        have hyes : xs[i].1 = ys[i].1 → (xs.map (·.1)).take (i + 1) = (ys.map (·.1)).take (i + 1) := fun h => by
          rw [List.take_succ_eq_append_getElem (by simpa using hlast), List.take_succ_eq_append_getElem (by simpa using hiy), htk]
          simp [h]
        have hno : xs[i].1 ≠ ys[i].1 → xs.map (·.1) ≠ ys.map (·.1) := fun h e => h (by
          have := congrArg (fun l => l[i]?) e
          simpa [hlast, hiy] using this)
        have HB := Lib.hid (And.intro hB (And.intro hyes hno))
        clear hB hyes hno htk hc1 hc2 hl1 hl2
        obtain ⟨x, hxx⟩ : ∃ x, x = xs[i] := ⟨_, rfl⟩
        obtain ⟨y, hyy⟩ : ∃ y, y = ys[i] := ⟨_, rfl⟩
        rw [← hxx] at x0 x1 x2 x3 x4 x5 hS HB
        rw [← hyy] at y0 y1 y2 y3 y4 y5 hS HB
        clear hxx hyy
        obtain ⟨⟨d1, i1, k1, m1, a1, u1⟩, q1, n1, cc1⟩ := x
        obtain ⟨⟨d2, i2, k2, m2, a2, u2⟩, q2, n2, cc2⟩ := y
        dsimp only at x0 x1 x2 x3 x4 x5 y0 y1 y2 y3 y4 y5 hS HB
        rw [lit_ev, lit_ev] at hS
        go_upto_region 6 with (fail)
        generalize hwC : World.alloc _ _ = wC
        have hBC : Below wr.heap.size wr wC := by rw [← hwC]; exact (Below.refl _ _).alloc (Nat.le_refl _) _
        have hsC : wC.heap.size = wr.heap.size + 1 := by rw [← hwC]; simp
        have hbx : wC.heap[wr.heap.size]? = some (.cells #[.string ⟨d1.toArray⟩, .string ⟨i1.toArray⟩, .int .u8 (k1 : Int), .slice q1 n1 cc1, .int .i64 a1, .int .i64 u1] 27 (0, 0)) := by rw [← hwC]; exact ha_eq rfl
        have hly : b2 < wr.heap.size := cell_lt y0
        replace y0 := six_below hBC hly y0
        replace y1 := six_below hBC hly y1
        replace y2 := six_below hBC hly y2
        replace y3 := six_below hBC hly y3
        replace y4 := six_below hBC hly y4
        replace y5 := six_below hBC hly y5
        clear hwC x0 x1 x2 x3 x4 x5 hn2
        have HD := Lib.hid (And.intro hBC (And.intro hbx hsC))
        clear hBC hbx hsC
        go_upto_region 7 with (fail)
        generalize hwD : World.alloc _ _ = wD
        have hBD : Below wC.heap.size wC wD := by rw [← hwD]; exact (Below.refl _ _).alloc (Nat.le_refl _) _
        have hby : wD.heap[wC.heap.size]? = some (.cells #[.string ⟨d2.toArray⟩, .string ⟨i2.toArray⟩, .int .u8 (k2 : Int), .slice q2 n2 cc2, .int .i64 a2, .int .i64 u2] 27 (0, 0)) := by rw [← hwD]; exact ha_eq rfl
        have hbx := (hBD.block _ (Array.getElem?_eq_some_iff.1 HD.out.2.1).1).trans HD.out.2.1
        have hBw : Below w.heap.size w wD := (HB.out.1.trans (HD.out.1.mono HB.out.1.size)).trans (hBD.mono (Nat.le_trans HB.out.1.size HD.out.1.size))
        have hSD := hS wD hBw
        obtain ⟨x0, x1, x2, x3, x4, x5⟩ := box6 hbx
        clear hwD y0 y1 y2 y3 y4 y5 hS hly
        obtain ⟨y0, y1, y2, y3, y4, y5⟩ := box6 hby
        have HE := Lib.hid hBw
        clear hBD hby hbx hBw
        go_wp2_with fail
        refine hSD.mono ?_
        rintro e w5 ⟨rfl, hb5⟩
        have hB5 := HE.out.trans (hb5.mono HE.out.size)
        clear hSD hb5 x0 x1 x2 x3 x4 x5 y0 y1 y2 y3 y4 y5
        by_cases heq : (⟨d1, i1, k1, m1, a1, u1⟩ : PE) = ⟨d2, i2, k2, m2, a2, u2⟩
        · rw [decide_eq_true heq]
          have HF := Lib.hid (And.intro (HB.out.2.1 heq) hB5)
          clear heq hB5
          go_wp2
          go_roundw
          case rel => exact ⟨i + 1, by simp, by omega, HF.out.1, HF.out.2⟩
          case measure => simp [natI]; omega
        · rw [decide_eq_false heq]
          have HF := Lib.hid (And.intro (HB.out.2.2 heq) hB5)
          clear heq hB5
          go_wp2
          refine bodyPost_ret (v := .bool false) (by simp [results, Try.results31, go_sem]) rfl ⟨by rw [decide_eq_false HF.out.1], HF.out.2⟩
      · have hli : ¬ (i : Int) < (xs.length : Int) := by omega
        obtain rfl : i = xs.length := by omega
        have hall : xs.map (·.1) = ys.map (·.1) := by
          rw [List.take_of_length_le (by simp), List.take_of_length_le (by simp; exact Nat.le_of_eq HH.out.2.2.2.2.2.2.symm)] at htk
          exact htk
        have HF := Lib.hid (And.intro hall hB)
        clear hall hB htk
        go_wp2
        refine bodyPost_ret (v := .bool true) (by simp [results, Try.results31, go_sem]) rfl ⟨by rw [decide_eq_true HF.out.1], HF.out.2⟩
  · have hne : xs.map (·.1) ≠ ys.map (·.1) := fun e => hlen (by have := congrArg List.length e; simpa using this)
    have HN := Lib.hid hne
    have hi : decide ((xs.length : Int) = (ys.length : Int)) = false := by simp; omega
    have hi2 : ((xs.length : Int) != (ys.length : Int)) = true := by simp; omega
    clear hne hx hy tx ty fx fy hlen
    go_enter Try.func31, Try.ntmps31
    go_wp2
    refine bodyPost_ret (v := .bool false) (by simp [results, Try.results31, go_sem]) rfl ⟨by rw [decide_eq_false HN.out], Below.refl _ _⟩
set_option maxRecDepth 100000 in
theorem same_any (v1 v2 : Value) (xs ys : List EM) (B1 B2 : Nat → Prop) (w : World) (hx : RowE w v1 xs) (hy : RowE w v2 ys) (tx : TextsE w B1 xs) (ty : TextsE w B2 ys) (fx : ∀ x ∈ xs, x.1.mx.length ≤ 1000000) (fy : ∀ x ∈ ys, x.1.mx.length ≤ 1000000) (hn : xs.length ≤ 1000000) :
    Calls Try.prog 16 #[v1, v2] w fun e w' => e = .returned (.bool (decide (xs.map (·.1) = ys.map (·.1)))) ∧ Below w.heap.size w w' := by
  have hE := equalE_any v1 v2 xs ys B1 B2 w hx hy tx ty fx fy hn
  clear hx hy tx ty fx fy
  generalize decide (xs.map (·.1) = ys.map (·.1)) = r at hE ⊢
  go_enter Try.func16, Try.ntmps16
  go_wp2_with fail
  refine hE.mono ?_
  rintro e w2 ⟨rfl, hb⟩
  go_wp2
  refine bodyPost_ret (v := .bool r) (by simp [results, Try.results16, go_sem]) rfl ⟨rfl, hb⟩
end Go.Proofs.Ytojhledbfaninaa
