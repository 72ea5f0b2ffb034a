/- cache.May; policy.Copy, own: an entry in new memory; New. -/
import Derived.Test.YtojhledbfaninaaCmay
namespace Go.Proofs.Ytojhledbfaninaa
open Go Go.RowKit Go.Shelf Go.Sort

theorem box6 {W : World} {b : Nat} {v0 v1 v2 v3 v4 v5 : Value} {t : TypeId} (h : W.heap[b]? = some (.cells #[v0, v1, v2, v3, v4, v5] t (0, 0))) :
    W.cell? ⟨b, 0, none⟩ = some v0 ∧ W.cell? ⟨b, 1, none⟩ = some v1 ∧ W.cell? ⟨b, 2, none⟩ = some v2 ∧ W.cell? ⟨b, 3, none⟩ = some v3 ∧ W.cell? ⟨b, 4, none⟩ = some v4 ∧ W.cell? ⟨b, 5, none⟩ = some v5 := by
  refine ⟨?_, ?_, ?_, ?_, ?_, ?_⟩ <;> simp [World.cell?, h]
theorem froz6 {W : World} {b : Nat} {cs : Array Value} {t : TypeId} (h : W.heap[b]? = some (.cells cs t (0, 0))) (k : Nat) : W.frozen? ⟨b, k, none⟩ = false := by
  simp [World.frozen?, h]
theorem lit_ev (d i : Bytes) (m : Nat) (mx : List Bytes) (age unt : Int) (p : Option Addr) (n c : Nat) : evp (⟨d, i, m, mx, age, unt⟩, (p, n, c)) = .agg #[.string ⟨d.toArray⟩, .string ⟨i.toArray⟩, .int .u8 (m : Int), .slice p n c, .int .i64 age, .int .i64 unt] := rfl
/-- The texts of an entry are not longer than memory. -/
def FitE (p : PE) : Prop := p.dom.length ≤ maxLen ∧ p.id.length ≤ maxLen ∧ ∀ u ∈ p.mx, u.length ≤ maxLen

set_option maxRecDepth 100000 in
set_option maxHeartbeats 1000000 in
theorem mayE_any (x : EM) (B : Nat → Prop) (w : World) (hm : MxAt w B x.2 x.1.mx) (hs : FitE x.1) (hg : Glob w) :
    Calls Try.prog 18 #[evp x] w fun e w' => e = .returned (.bool (mayE x.1)) ∧ Below w.heap.size w w' := by
  have hgl : 0 < w.heap.size := by obtain ⟨m, hm⟩ := hg; exact cell_lt hm
  obtain ⟨⟨d, i, m, mx, age, unt⟩, p, n, c⟩ := x
  dsimp only at hm
  obtain ⟨hd, hi, hu⟩ := hs
  dsimp only at hd hi hu
  rw [lit_ev]
  have h1 := fun (W : World) (hb : Below w.heap.size w W) => nameMay_any ⟨d.toArray⟩ W (by simpa [ByteArray.size] using hd) (hg.below hb hgl)
  have h2 := fun (W : World) => id_any ⟨i.toArray⟩ W (by simpa [ByteArray.size] using hi)
  have h3 := fun (W : World) (hb : Below w.heap.size w W) => polMay_any m (p, n, c) mx age B W (hm.below hb) hu (hg.below hb hgl)
  have e1 : (⟨d.toArray⟩ : ByteArray).data.toList = d := rfl
  have e2 : (⟨i.toArray⟩ : ByteArray).data.toList = i := rfl
  rw [e1] at h1
  rw [e2] at h2
  unfold pcl shV at h3
  dsimp only at h3
  have hE : mayE ⟨d, i, m, mx, age, unt⟩ = (mayB d && idB i && polB m mx age && decide (0 ≤ unt) && decide (unt ≤ 1099543185376)) := rfl
  dsimp only
  rw [hE]
  clear hm hd hi hu hg e1 e2 hE
  generalize mayB d = r1 at h1 ⊢
  generalize idB i = r2 at h2 ⊢
  generalize polB m mx age = r3 at h3 ⊢
  obtain ⟨W, hW⟩ : ∃ W, W = w.alloc (.cells #[.string ⟨d.toArray⟩, .string ⟨i.toArray⟩, .int .u8 (m : Int), .slice p n c, .int .i64 age, .int .i64 unt] 27) := ⟨_, rfl⟩
  have hB : Below w.heap.size w W := by rw [hW]; exact (Below.refl _ w).alloc (Nat.le_refl _) _
  have hbox : W.heap[w.heap.size]? = some (.cells #[.string ⟨d.toArray⟩, .string ⟨i.toArray⟩, .int .u8 (m : Int), .slice p n c, .int .i64 age, .int .i64 unt] 27 (0, 0)) := by rw [hW]; exact ha_eq rfl
  have hlt : w.heap.size < W.heap.size := by rw [hW]; simp
  obtain ⟨c0, c1, c2, c3, c4, c5⟩ := box6 hbox
  have hW1 := h1 W hB
  clear h1
  go_enter Try.func18, Try.ntmps18
  go_wp2_with fail
  rw [← hW]
  have HB := Lib.hid (And.intro hB (And.intro hbox hlt))
  clear hB hbox hW hlt
  refine hW1.mono ?_
  rintro e w1 ⟨rfl, hb1⟩
  have hB1 := HB.out.1.trans (hb1.mono HB.out.1.size)
  have hbox1 := (hb1.block _ HB.out.2.2).trans HB.out.2.1
  have hlt1 := Nat.lt_of_lt_of_le HB.out.2.2 hb1.size
  clear c0 c1 c2 c3 c4 c5 hW1 HB hb1
  obtain ⟨c0, c1, c2, c3, c4, c5⟩ := box6 hbox1
  cases r1
  · have HB := Lib.hid hB1
    clear hB1
    go_wp2
    refine bodyPost_ret (v := .bool false) (by simp [results, Try.results18, go_sem]) rfl ⟨rfl, HB.out⟩
  · have hW2 := h2 w1
    have HB := Lib.hid (And.intro hB1 (And.intro hbox1 hlt1))
    clear hB1 hbox1 hlt1 h2
    go_wp2_with fail
    refine hW2.mono ?_
    rintro e w2 ⟨rfl, hb2⟩
    have hB1 := HB.out.1.trans (hb2.mono HB.out.1.size)
    have hbox1 := (hb2.block _ HB.out.2.2).trans HB.out.2.1
    have hlt1 := Nat.lt_of_lt_of_le HB.out.2.2 hb2.size
    clear c0 c1 c2 c3 c4 c5 hW2 HB hb2
    obtain ⟨c0, c1, c2, c3, c4, c5⟩ := box6 hbox1
    cases r2
    · have HB := Lib.hid hB1
      clear hB1
      go_wp2
      refine bodyPost_ret (v := .bool false) (by simp [results, Try.results18, go_sem]) rfl ⟨rfl, HB.out⟩
    · have hW3 := h3 w2 hB1
      have HB := Lib.hid (And.intro hB1 (And.intro hbox1 hlt1))
      clear hB1 hbox1 hlt1 h3
      go_wp2_with fail
      refine hW3.mono ?_
      rintro e w3 ⟨rfl, hb3⟩
      have hB1 := HB.out.1.trans (hb3.mono HB.out.1.size)
      have hbox1 := (hb3.block _ HB.out.2.2).trans HB.out.2.1
      clear c0 c1 c2 c3 c4 c5 hW3 HB hb3
      obtain ⟨c0, c1, c2, c3, c4, c5⟩ := box6 hbox1
      have HB := Lib.hid hB1
      clear hB1
      cases r3
      · go_wp2
        refine bodyPost_ret (v := .bool false) (by simp [results, Try.results18, go_sem]) rfl ⟨rfl, HB.out⟩
      · by_cases h0 : 0 ≤ unt
        · by_cases h4 : unt ≤ 1099543185376
          · go_wp2
            refine bodyPost_ret (v := .bool true) (by simp [results, Try.results18, go_sem] <;> (intros; omega)) rfl ⟨by simp [h0, h4], HB.out⟩
          · go_wp2
            refine bodyPost_ret (v := .bool false) (by simp [results, Try.results18, go_sem] <;> (intros; omega)) rfl ⟨by simp; omega, HB.out⟩
        · go_wp2
          refine bodyPost_ret (v := .bool false) (by simp [results, Try.results18, go_sem] <;> (intros; omega)) rfl ⟨by simp; omega, HB.out⟩

theorem mx_own {w : World} {base n : Nat} {v : Value} {mx : List Bytes} (hn : n = mx.length) (h : w.ownsRow base 9 1 v n (mx.map str)) : ∃ h' : SH, v = shV h' ∧ MxAt w (fun k => base ≤ k) h' mx := by
  subst hn
  rcases h.2 with ⟨rfl, h0⟩ | ⟨g, cap, cur, rfl, hb, hg, _⟩
  · exact ⟨(none, 0, 0), rfl, h0.symm, fun _ => rfl, fun a e => (by cases e)⟩
  · refine ⟨(some ⟨g, 0, none⟩, mx.length, cap), rfl, rfl, fun e => (by cases e), fun a e => ?_⟩
    cases e
    exact ⟨fun _ => hb, fun j u hj => h.cells (g := g) rfl j (str u) (by simp [hj])⟩
theorem MxAt.setCell {W : World} {B : Nat → Prop} {h : SH} {mx : List Bytes} {a : Addr} {v : Value} (hm : MxAt W B h mx) (hb : ∀ k, B k → k ≠ a.block) : MxAt (W.setCell a v) B h mx :=
  hm.keep fun a' v' hv hB => (World.cell?_of_block (Below.heap_setCell W a v a'.block (hb _ hB))).trans hv
theorem cloneMx_any (h : SH) (mx : List Bytes) (B : Nat → Prop) (w : World) (hm : MxAt w B h mx) (hn : mx.length ≤ 1000000) :
    Calls Try.prog 63 #[shV h] w fun e w' => ∃ h' : SH, e = .returned (shV h') ∧ MxAt w' (fun k => w.heap.size ≤ k) h' mx ∧ Below w.heap.size w w' := by
  rcases hm.shape with ⟨rfl, p, c, rfl⟩ | ⟨hne, b, o, c, rfl, -, hb, hc⟩
  · cases p with
    | none =>
      refine (Try.slices_Clone_string_nil 0 c w).mono ?_
      rintro e w' ⟨rfl, rfl⟩
      exact ⟨(none, 0, 0), rfl, ⟨rfl, fun _ => rfl, fun a e => (by cases e)⟩, Below.refl _ _⟩
    | some a =>
      refine (Try.slices_Clone_string_zero a c w).mono ?_
      rintro e w' ⟨v, rfl, ho, _, hB⟩
      obtain ⟨h', rfl, hm'⟩ := mx_own (mx := []) rfl ho
      exact ⟨h', rfl, hm', hB⟩
  · have hz : ∀ j, j < (mx.map fun x => (⟨x.toArray⟩ : ByteArray)).length → w.cell? ⟨b, o + j, none⟩ = some (.string ((mx.map fun x => (⟨x.toArray⟩ : ByteArray)).getD j ByteArray.empty)) := by
      intro j hj
      simp at hj
      rw [hc j mx[j] (List.getElem?_eq_getElem hj)]
      simp [str, hj, List.getD]
    refine (Try.slices_Clone_string b o mx.length c _ w (by simp) (by omega) hz).mono ?_
    rintro e w' ⟨v, rfl, ho, _, hB⟩
    rw [List.take_of_length_le (by simp), List.map_map] at ho
    obtain ⟨h', rfl, hm'⟩ := mx_own (mx := mx) rfl ho
    exact ⟨h', rfl, hm', hB⟩

set_option maxRecDepth 100000 in
set_option maxHeartbeats 1000000 in
theorem polCopy_any (m : Nat) (h : SH) (mx : List Bytes) (age : Int) (B : Nat → Prop) (w : World) (hm : MxAt w B h mx) (hn : mx.length ≤ 1000000) :
    Calls Try.prog 42 #[pcl m h age] w fun e w' => ∃ h' : SH, e = .returned (pcl m h' age) ∧ MxAt w' (fun k => w.heap.size ≤ k) h' mx ∧ Below w.heap.size w w' := by
  have hC := fun (W : World) (hb : Below w.heap.size w W) => cloneMx_any h mx B W (hm.below hb) hn
  obtain ⟨p, n, c⟩ := h
  unfold pcl shV
  unfold shV at hC
  dsimp only at hC ⊢
  clear hm
  obtain ⟨W, hW⟩ : ∃ W, W = (w.alloc (.cells #[.int .u8 (m : Int), .slice p n c, .int .i64 age] 25)).alloc (.cells #[.int .u8 0, .slice none 0 0, .int .i64 0] 25) := ⟨_, rfl⟩
  have hB : Below w.heap.size w W := by rw [hW]; exact ((Below.refl _ w).alloc (Nat.le_refl _) _).alloc (by simp) _
  have hCW := hC W hB
  clear hC
  have hs : W.heap.size = w.heap.size + 2 := by rw [hW]; simp
  have hbox : W.heap[w.heap.size]? = some (.cells #[.int .u8 (m : Int), .slice p n c, .int .i64 age] 25 (0, 0)) := by rw [hW, ha_ne (by simp), ha_eq rfl]
  have hres : W.heap[w.heap.size + 1]? = some (.cells #[.int .u8 0, .slice none 0 0, .int .i64 0] 25 (0, 0)) := by rw [hW, ha_eq (by simp)]
  have c1 : W.cell? ⟨w.heap.size, 1, none⟩ = some (.slice p n c) := by simp [World.cell?, hbox]
  go_enter Try.func42, Try.ntmps42
  go_wp2_with fail
  rw [← hW]
  clear hW
  have HB := Lib.hid (And.intro hB (And.intro hbox (And.intro hres hs)))
  clear hB hbox hres
  refine hCW.mono ?_
  rintro e w1 ⟨⟨p', n', c'⟩, rfl, hm', hb1⟩
  have hbox1 := (hb1.block _ (by rw [HB.out.2.2.2]; omega)).trans HB.out.2.1
  have hres1 := (hb1.block _ (by rw [HB.out.2.2.2]; omega)).trans HB.out.2.2.1
  dsimp only
  have d0 : w1.cell? ⟨w.heap.size, 0, none⟩ = some (.int .u8 (m : Int)) := by simp [World.cell?, hbox1]
  have d1 : w1.cell? ⟨w.heap.size, 1, none⟩ = some (.slice p n c) := by simp [World.cell?, hbox1]
  have d2 : w1.cell? ⟨w.heap.size, 2, none⟩ = some (.int .i64 age) := by simp [World.cell?, hbox1]
  have z0 : w1.cell? ⟨w.heap.size + 1, 0, none⟩ = some (.int .u8 0) := by simp [World.cell?, hres1]
  have z1 : w1.cell? ⟨w.heap.size + 1, 1, none⟩ = some (.slice none 0 0) := by simp [World.cell?, hres1]
  have z2 : w1.cell? ⟨w.heap.size + 1, 2, none⟩ = some (.int .i64 0) := by simp [World.cell?, hres1]
  have f0 := froz6 hbox1
  have f1 := froz6 hres1
  have HM := Lib.hid (And.intro hm' hb1)
  clear hm' hb1 hbox1 hres1 hCW
  go_wp2
  have hM2 : MxAt w1 (fun k => w.heap.size + 2 ≤ k) (p', n', c') mx := HM.out.1.mono (fun k hk => by omega)
  have hB2 : Below w.heap.size w w1 := HB.out.1.trans (HM.out.2.mono (by omega))
  refine bodyPost_ret (v := .agg #[.int .u8 (m : Int), .slice p' n' c', .int .i64 age]) (by simp [results, Try.results42, go_sem, z0, z1, z2]) rfl ⟨(p', n', c'), rfl, ?_, ?_⟩
  · exact ((((hM2.setCell (by intro k hk; dsimp only at *; omega)).setCell (by intro k hk; dsimp only at *; omega)).setCell (by intro k hk; dsimp only at *; omega)).setCell (by intro k hk; dsimp only at *; omega)).mono (fun k hk => by omega)
  · exact (((hB2.setCell (p := ⟨w.heap.size, 1, none⟩) (Nat.le_refl _) _).setCell (p := ⟨w.heap.size + 1, 0, none⟩) (Nat.le_succ _) _).setCell (p := ⟨w.heap.size + 1, 1, none⟩) (Nat.le_succ _) _).setCell (p := ⟨w.heap.size + 1, 2, none⟩) (Nat.le_succ _) _

set_option maxRecDepth 100000 in
set_option maxHeartbeats 2000000 in
/-- own: the entry with texts of its own. -/
theorem own_any (x : EM) (B : Nat → Prop) (w : World) (hm : MxAt w B x.2 x.1.mx) (hn : x.1.mx.length ≤ 1000000) :
    Calls Try.prog 24 #[evp x] w fun e w' => ∃ h' : SH, e = .returned (evp (x.1, h')) ∧ MxAt w' (fun k => w.heap.size ≤ k) h' x.1.mx ∧ Below w.heap.size w w' := by
  obtain ⟨⟨d, i, m, mx, age, unt⟩, p, n, c⟩ := x
  dsimp only at hm hn ⊢
  have hC := fun (W : World) (hb : Below w.heap.size w W) => polCopy_any m (p, n, c) mx age B W (hm.below hb) hn
  rw [lit_ev]
  unfold pcl shV at hC
  dsimp only at hC ⊢
  clear hm
  obtain ⟨W, hW⟩ : ∃ W, W = (w.alloc (.cells #[.string ⟨d.toArray⟩, .string ⟨i.toArray⟩, .int .u8 (m : Int), .slice p n c, .int .i64 age, .int .i64 unt] 27)).alloc (.cells #[.string ⟨#[]⟩, .string ⟨#[]⟩, .int .u8 0, .slice none 0 0, .int .i64 0, .int .i64 0] 27) := ⟨_, rfl⟩
  have hB : Below w.heap.size w W := by rw [hW]; exact ((Below.refl _ w).alloc (Nat.le_refl _) _).alloc (by simp) _
  have hCW := hC W hB
  clear hC
  have hs : W.heap.size = w.heap.size + 2 := by rw [hW]; simp
  have hbox : W.heap[w.heap.size]? = some (.cells #[.string ⟨d.toArray⟩, .string ⟨i.toArray⟩, .int .u8 (m : Int), .slice p n c, .int .i64 age, .int .i64 unt] 27 (0, 0)) := by rw [hW, ha_ne (by simp), ha_eq rfl]
  have hres : W.heap[w.heap.size + 1]? = some (.cells #[.string ⟨#[]⟩, .string ⟨#[]⟩, .int .u8 0, .slice none 0 0, .int .i64 0, .int .i64 0] 27 (0, 0)) := by rw [hW, ha_eq (by simp)]
  obtain ⟨c0, c1, c2, c3, c4, c5⟩ := box6 hbox
  go_enter Try.func24, Try.ntmps24
  go_wp2_with fail
  rw [← hW]
  clear hW
  have HB := Lib.hid (And.intro hB (And.intro hbox (And.intro hres hs)))
  clear hB hbox hres
  refine hCW.mono ?_
  rintro e w1 ⟨⟨p', n', c'⟩, rfl, hm', hb1⟩
  have hbox1 := (hb1.block _ (by rw [HB.out.2.2.2]; omega)).trans HB.out.2.1
  have hres1 := (hb1.block _ (by rw [HB.out.2.2.2]; omega)).trans HB.out.2.2.1
  dsimp only
  clear c0 c1 c2 c3 c4 c5
  obtain ⟨c0, c1, c2, c3, c4, c5⟩ := box6 hbox1
  obtain ⟨z0, z1, z2, z3, z4, z5⟩ := box6 hres1
  have f0 := froz6 hbox1
  have f1 := froz6 hres1
  have HM := Lib.hid (And.intro hm' hb1)
  clear hm' hb1 hbox1 hres1 hCW
  go_wp2
  have hM2 : MxAt w1 (fun k => w.heap.size + 2 ≤ k) (p', n', c') mx := HM.out.1.mono (fun k hk => by omega)
  have hB2 : Below w.heap.size w w1 := HB.out.1.trans (HM.out.2.mono (by omega))
  refine bodyPost_ret (v := .agg #[.string ⟨d.toArray⟩, .string ⟨i.toArray⟩, .int .u8 (m : Int), .slice p' n' c', .int .i64 age, .int .i64 unt]) (by simp [results, Try.results24, go_sem, z0, z1, z2, z3, z4, z5]) rfl ⟨(p', n', c'), rfl, ?_, ?_⟩
  · refine MxAt.mono (B := fun k => w.heap.size + 2 ≤ k) ?_ (fun k hk => by omega)
    repeat (first | with_reducible exact hM2 | refine MxAt.setCell ?_ (by intro k hk; dsimp only at *; omega))
  · repeat (first | with_reducible exact hB2 | refine Below.setCell ?_ (by dsimp only; omega) _)

set_option maxHeartbeats 400000 in
theorem new_bad (n : Int) (w : World) (h : n < 1 ∨ 8 < n) :
    Calls Try.prog 13 #[.int .i64 n] w fun e w' => e = .returned (.tuple #[.pointer none, .int .i64 1]) ∧ w = w' := by
  by_cases h1 : n < 1
  · go_enter Try.func13, Try.ntmps13
    go_wp2
    go_ret2
    exact ⟨rfl, rfl⟩
  · have h2 : 8 < n := by omega
    go_enter Try.func13, Try.ntmps13
    go_wp2
    go_ret2
    exact ⟨rfl, rfl⟩
set_option maxHeartbeats 400000 in
theorem new_good (n : Int) (w : World) (h1 : 1 ≤ n) (h2 : n ≤ 8) :
    Calls Try.prog 13 #[.int .i64 n] w fun e w' => e = .returned (.tuple #[.pointer (some ⟨w.heap.size + 1, 0, none⟩), .int .i64 0]) ∧
      (w.alloc (.map #[] 0)).alloc (.cells #[.int .i64 n, .map (some w.heap.size)] 67) = w' := by
  have hmm := @run_makeMap Try.prog
  go_enter Try.func13, Try.ntmps13
  go_wp2
  go_ret2
  exact ⟨rfl, rfl⟩
theorem new_is (n : Int) (w : World) (B : Nat → Prop) (h1 : 1 ≤ n) (h2 : n ≤ 8) :
    Calls Try.prog 13 #[.int .i64 n] w fun e w' => e = .returned (.tuple #[.pointer (some ⟨w.heap.size + 1, 0, none⟩), .int .i64 0]) ∧
      Below w.heap.size w w' ∧ CacheIs w' B (w.heap.size + 1) w.heap.size n [] ∧ w.heap.size + 2 ≤ w'.heap.size := by
  refine (new_good n w h1 h2).mono ?_
  rintro e w' ⟨rfl, rfl⟩
  refine ⟨rfl, ((Below.refl _ w).alloc (Nat.le_refl _) _).alloc (by simp) _, ⟨[], ⟨ha_eq (by simp), ⟨#[], 0, ?_, EsR.nil⟩, by simp, by simp⟩, ⟨List.Pairwise.nil, by simp⟩⟩, by simp⟩
  rw [ha_ne (by simp), ha_eq rfl]

/-! ### Comparisons -/
set_option maxHeartbeats 400000 in
theorem isNaNS_any (s : ByteArray) (w : World) : Calls Try.prog 66 #[.string s] w fun e w' => e = .returned (.bool false) ∧ w = w' := by
  go_enter Try.func66, Try.ntmps66
  go_wp2
  go_ret
  exact ⟨by simp, rfl⟩
end Go.Proofs.Ytojhledbfaninaa
