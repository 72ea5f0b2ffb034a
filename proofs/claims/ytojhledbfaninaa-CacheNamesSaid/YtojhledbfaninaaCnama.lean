/- CacheNames: what its session keeps; the examples, reckoned. -/
import Derived.Test.YtojhledbfaninaaCback
import Derived.Test.YtojhledbfaninaaCnil
namespace Go.Proofs.Ytojhledbfaninaa
open Go Go.RowKit Go.Shelf Go.Sort

/-- One cache of a session that began at w. -/
structure One (w W : World) (b m : Nat) (most : Int) (L : List PE) : Prop where
  below : Below w.heap.size w W
  glob : Glob W
  c : CacheIs W Any b m most L
  g : w.heap.size ≤ m
theorem One.step {w W W' : World} {b m : Nat} {most : Int} {L : List PE} (h : One w W b m most L) (hb : Below W.heap.size W W') : One w W' b m most L :=
  ⟨h.below.trans (hb.mono h.below.size), h.glob.keep hb, h.c.below hb, h.g⟩
theorem One.learn {w W W' : World} {b m : Nat} {most : Int} {L : List PE} {x : PE} {e : Ending} (h : One w W b m most L) (hl : LearnPost W Any b m most L x e W') : One w W' b m most (learnS most L x) :=
  ⟨h.below.grown hl.2.2 h.below.size (fun k e => by cases e; exact h.g), glob_learn h.glob h.c hl.2.2, hl.2.1.mono anyB, h.g⟩
theorem One.other {w W W' : World} {b m : Nat} {most : Int} {L : List PE} {b2 m2 : Nat} {most2 : Int} {L2 : List PE} {x : PE} {e : Ending} (h : One w W b m most L) (h2 : One w W b2 m2 most2 L2) (hl : LearnPost W Any b2 m2 most2 L2 x e W') (hne : m2 ≠ m) : One w W' b m most L :=
  ⟨h.below.grown hl.2.2 h.below.size (fun k e => by cases e; exact h2.g), glob_learn h2.glob h2.c hl.2.2, h.c.other h2.c hl.2.2 hne, h.g⟩
/-- The policy to be enforced, in a block of its own. -/
structure Pol (W : World) (pb tb : Nat) : Prop where
  p0 : W.cell? ⟨pb, 0, none⟩ = some (.int .u8 3)
  p1 : W.cell? ⟨pb, 1, none⟩ = some (.slice (some ⟨tb, 0, none⟩) 1 1)
  p2 : W.cell? ⟨pb, 2, none⟩ = some (.int .i64 10)
  px : MxAt W Any (some ⟨tb, 0, none⟩, 1, 1) [starB]
theorem Pol.keep {W W' : World} {pb tb : Nat} (h : Pol W pb tb) (hk : ∀ a v, W.cell? a = some v → W'.cell? a = some v) : Pol W' pb tb :=
  ⟨hk _ _ h.p0, hk _ _ h.p1, hk _ _ h.p2, h.px.keep fun a v hv _ => hk a v hv⟩
theorem Pol.step {W W' : World} {pb tb : Nat} (h : Pol W pb tb) (hb : Below W.heap.size W W') : Pol W' pb tb := h.keep (below_keep hb)
theorem Pol.learn {w W W' : World} {b m : Nat} {most : Int} {L : List PE} {pb tb : Nat} {x : PE} {e : Ending} (h : Pol W pb tb) (h1 : One w W b m most L) (hl : LearnPost W Any b m most L x e W') : Pol W' pb tb :=
  h.keep fun _ _ hv => learn_keep h1.c hl hv
theorem fit_star (d i : Bytes) (m : Nat) (a u : Int) (h : d.length ≤ 100) (h2 : i.length ≤ 100) : FitE ⟨d, i, m, [starB], a, u⟩ := by
  refine ⟨Nat.le_trans h (by unfold maxLen; omega), Nat.le_trans h2 (by unfold maxLen; omega), fun t ht => ?_⟩
  rw [List.mem_singleton] at ht
  subst ht
  unfold maxLen starB
  simp
theorem fit_none (d i : Bytes) (m : Nat) (a u : Int) (h : d.length ≤ 100) (h2 : i.length ≤ 100) : FitE ⟨d, i, m, [], a, u⟩ :=
  ⟨Nat.le_trans h (by unfold maxLen; omega), Nat.le_trans h2 (by unfold maxLen; omega), fun t ht => by cases ht⟩
theorem mx_none (W : World) : MxAt W Any (none, 0, 0) [] := ⟨rfl, fun _ => rfl, fun a e => by cases e⟩
theorem few_of {L : List PE} (h : (L.all fun p => decide (p.mx.length ≤ 1)) = true) : FewE L := fun p hp => by
  have := of_decide_eq_true (List.all_eq_true.1 h p hp)
  omega
theorem learn_out {w : World} {b m : Nat} {most : Int} {L L' : List PE} {x : PE} {e : Ending} {w' : World} {k : Nat} (hP : LearnPost w Any b m most L x e w') (hk : learnB most L x = k ∧ learnS most L x = L') : e = .returned (.int .i64 (k : Int)) := by
  rw [hP.1, hk.1]
/-- The first cells of a row's elements, and when they end. -/
theorem OwnRow.cells {W : World} {base : Nat} {v : Value} {zs : List EM} {L : List PE} (h : OwnRow W base v zs) (hm : zs.map (·.1) = L) (hne : L ≠ []) :
    ∃ g c, v = .slice (some ⟨g, 0, none⟩) L.length c ∧ base ≤ g ∧ ERow W g zs ∧ ∀ (i : Nat) (hi : i < L.length), W.cell? ⟨g, i * 6, none⟩ = some (str L[i].dom) ∧ W.cell? ⟨g, i * 6 + 5, none⟩ = some (.int .i64 L[i].unt) := by
  rcases h with ⟨h1, _⟩ | ⟨_, g, c, rfl, hg, hr⟩
  · subst h1; exact absurd hm.symm hne
  · subst hm
    refine ⟨g, c, by simp, hg, hr, fun i hi => ?_⟩
    have hi' : i < zs.length := by simpa using hi
    constructor
    · have := (hr.cell (i := i) (k := 0) hi' rfl).1
      simpa using this
    · have := (hr.cell (i := i) (k := 5) hi' rfl).1
      simpa using this
theorem rowE_two (w : World) (x y : EM) (t : TypeId) : RowE (w.alloc (.cells (ecells x ++ ecells y).toArray t)) (.slice (some ⟨w.heap.size, 0, none⟩) 2 2) [x, y] := by
  refine .inr ⟨by simp, w.heap.size, 0, 2, rfl, fun i hi k u hu => ?_⟩
  have hk : k < 6 := by
    have := (List.getElem?_eq_some_iff.1 hu).1
    simpa [ecells_len] using this
  have hc := cell_list (w := w) (cs := ecells x ++ ecells y) (t := t) rfl (i * 6 + k) u (by
    match i, hi with
    | 0, _ => simp only [Nat.zero_mul, Nat.zero_add]; rw [List.getElem?_append_left (by rw [ecells_len]; exact hk)]; exact hu
    | 1, _ => rw [List.getElem?_append_right (by rw [ecells_len]; omega), ecells_len, show 1 * 6 + k - 6 = k by omega]; exact hu)
  have e : (⟨w.heap.size, 0, none⟩ : Addr).add (i * 6 + k) = ⟨w.heap.size, 0 + i * 6 + k, none⟩ := by
    unfold Addr.add
    by_cases hz : i * 6 + k = 0
    · rw [if_pos hz, show 0 + i * 6 + k = 0 by omega]
    · rw [if_neg hz]
      simp
  rw [e] at hc
  exact hc
theorem TextsE.two {W : World} {B : Nat → Prop} {x y : EM} (hx : MxAt W B x.2 x.1.mx) (hy : MxAt W B y.2 y.1.mx) : TextsE W B [x, y] := by
  intro z hz
  simp only [List.mem_cons, List.not_mem_nil, or_false] at hz
  rcases hz with rfl | rfl
  · exact hx
  · exact hy
/-- Texts stay texts where a number is written. -/
theorem MxAt.poke {W : World} {B : Nat → Prop} {h : SH} {mx : List Bytes} (hm : MxAt W B h mx) {a : Addr} {k : IntKind} {n q : Int} (ha : W.cell? a = some (.int k n)) : MxAt (W.setCell a (.int k q)) B h mx :=
  ⟨hm.1, hm.2.1, fun p hp => ⟨(hm.2.2 p hp).1, fun j u hj => by
    have hc := (hm.2.2 p hp).2 j u hj
    rw [World.cell?_setCell_other _ _ _ _ (fun e => by rw [← e, ha] at hc; cases hc)]
    exact hc⟩⟩

/-! ### The examples -/
/-- An entry with one pattern. -/
def nE (d i : Bytes) (m : Nat) (age unt : Int) : PE := ⟨d, i, m, [starB], age, unt⟩
abbrev dAB : Bytes := [97, 46, 98]
abbrev dEX : Bytes := [101, 46, 120]
abbrev dTX : Bytes := [116, 46, 120]
abbrev dNX : Bytes := [110, 46, 120]
abbrev dZX : Bytes := [122, 46, 120]
abbrev dAX : Bytes := [97, 46, 120]
abbrev dBX : Bytes := [98, 46, 120]
abbrev dCX : Bytes := [99, 46, 120]
abbrev dDX : Bytes := [100, 46, 120]
abbrev i33 : Bytes := [49, 50, 51, 52, 53, 54, 55, 56, 57, 48, 49, 50, 51, 52, 53, 54, 55, 56, 57, 48, 49, 50, 51, 52, 53, 54, 55, 56, 57, 48, 49, 50, 51]
theorem na1 : learnB 3 [] (nE dAB [49] 3 10 (-1)) = 1 ∧ learnS 3 [] (nE dAB [49] 3 10 (-1)) = [] := by decide
theorem na2 : learnB 3 [] (nE dAB [49] 3 10 1099511627777) = 1 ∧ learnS 3 [] (nE dAB [49] 3 10 1099511627777) = [] := by decide
theorem na3 : learnB 3 [] (nE [65, 46, 98] [49] 3 10 0) = 4 ∧ learnS 3 [] (nE [65, 46, 98] [49] 3 10 0) = [] := by decide
theorem na4 : learnB 3 [] (nE dAB [] 3 10 0) = 4 ∧ learnS 3 [] (nE dAB [] 3 10 0) = [] := by decide
theorem na5 : learnB 3 [] (nE dAB [49, 45] 3 10 0) = 4 ∧ learnS 3 [] (nE dAB [49, 45] 3 10 0) = [] := by decide
theorem na6 : learnB 3 [] (nE dAB i33 3 10 0) = 4 ∧ learnS 3 [] (nE dAB i33 3 10 0) = [] := by decide
theorem na7 : learnB 3 [] ⟨dAB, [49], 0, [], 0, 0⟩ = 4 ∧ learnS 3 [] ⟨dAB, [49], 0, [], 0, 0⟩ = [] := by decide
theorem nb1 : learnB 3 [] (nE dEX [49] 3 10 0) = 0 ∧ learnS 3 [] (nE dEX [49] 3 10 0) = [nE dEX [49] 3 10 10] := by decide
theorem nb2 : learnB 3 [nE dEX [49] 3 10 10] (nE dTX [49] 2 30 0) = 0 ∧ learnS 3 [nE dEX [49] 3 10 10] (nE dTX [49] 2 30 0) = [nE dEX [49] 3 10 10, nE dTX [49] 2 30 30] := by decide
theorem nb3 : learnB 3 [nE dEX [49] 3 10 10, nE dTX [49] 2 30 30] (nE dNX [49] 1 20 0) = 0 ∧ learnS 3 [nE dEX [49] 3 10 10, nE dTX [49] 2 30 30] (nE dNX [49] 1 20 0) = [nE dEX [49] 3 10 10, nE dNX [49] 1 20 20, nE dTX [49] 2 30 30] := by decide
theorem nb4 : learnB 3 [nE dEX [49] 3 10 10, nE dNX [49] 1 20 20, nE dTX [49] 2 30 30] (nE dZX [49] 3 10 9) = 0 ∧ learnS 3 [nE dEX [49] 3 10 10, nE dNX [49] 1 20 20, nE dTX [49] 2 30 30] (nE dZX [49] 3 10 9) = [nE dEX [49] 3 10 10, nE dTX [49] 2 30 30, nE dZX [49] 3 10 19] := by decide
theorem nb5 : learnB 3 [nE dEX [49] 3 10 10, nE dNX [49] 1 20 20, nE dTX [49] 2 30 30] (nE dZX [49] 3 10 10) = 0 ∧ learnS 3 [nE dEX [49] 3 10 10, nE dNX [49] 1 20 20, nE dTX [49] 2 30 30] (nE dZX [49] 3 10 10) = [nE dNX [49] 1 20 20, nE dTX [49] 2 30 30, nE dZX [49] 3 10 20] := by decide
theorem nc1 : learnB 2 [] (nE dBX [49] 2 5 0) = 0 ∧ learnS 2 [] (nE dBX [49] 2 5 0) = [nE dBX [49] 2 5 5] := by decide
theorem nc2 : learnB 2 [nE dBX [49] 2 5 5] (nE dAX [49] 2 5 0) = 0 ∧ learnS 2 [nE dBX [49] 2 5 5] (nE dAX [49] 2 5 0) = [nE dAX [49] 2 5 5, nE dBX [49] 2 5 5] := by decide
theorem nc3 : learnB 2 [nE dAX [49] 2 5 5, nE dBX [49] 2 5 5] (nE dCX [49] 3 10 1) = 0 ∧ learnS 2 [nE dAX [49] 2 5 5, nE dBX [49] 2 5 5] (nE dCX [49] 3 10 1) = [nE dBX [49] 2 5 5, nE dCX [49] 3 10 11] := by decide
theorem nc4 : learnB 2 [nE dBX [49] 2 5 5, nE dCX [49] 3 10 11] (nE dBX [50] 3 10 2) = 0 ∧ learnS 2 [nE dBX [49] 2 5 5, nE dCX [49] 3 10 11] (nE dBX [50] 3 10 2) = [nE dBX [50] 3 10 12, nE dCX [49] 3 10 11] := by decide
theorem nc5 : learnB 2 [nE dBX [50] 3 10 12, nE dCX [49] 3 10 11] (nE dDX [49] 3 10 3) = 41 ∧ learnS 2 [nE dBX [50] 3 10 12, nE dCX [49] 3 10 11] (nE dDX [49] 3 10 3) = [nE dBX [50] 3 10 12, nE dCX [49] 3 10 11] := by decide
theorem nc6 : learnB 2 [nE dBX [50] 3 10 12, nE dCX [49] 3 10 11] (nE dCX [57] 1 0 3) = 0 ∧ learnS 2 [nE dBX [50] 3 10 12, nE dCX [49] 3 10 11] (nE dCX [57] 1 0 3) = [nE dBX [50] 3 10 12, nE dCX [57] 1 0 3] := by decide
theorem nd1 : ofE dBX 11 [nE dBX [50] 3 10 12, nE dCX [57] 1 0 3] = some (nE dBX [50] 3 10 12) := by decide
theorem nd2 : ofE dCX 3 [nE dBX [50] 3 10 12, nE dCX [57] 1 0 3] = none := by decide
theorem nl0 {n : Int} (h : n < 1 ∨ 8 < n) : loadB n [] = 1 := by unfold loadB; rw [if_pos h]
theorem nl1 : loadB 1 [nE dBX [50] 3 10 12, nE dCX [57] 1 0 3] = 41 := by decide
theorem nl2 : loadB 2 [nE dCX [57] 1 0 3, nE dBX [50] 3 10 12] = 4 := by decide
theorem nl3 : loadB 2 [nE dBX [50] 3 10 12, nE dBX [50] 3 10 12] = 4 := by decide
theorem nl4 : loadB 2 [nE dBX [50] 3 10 (-1), nE dCX [57] 1 0 3] = 4 := by decide
theorem load_no {w : World} {most : Int} {l : List PE} {e : Ending} {w' : World} {k : Nat} (h : LoadPost w most l e w') (hk : loadB most l = k) (hz : k ≠ 0) : e = .returned (.tuple #[.pointer none, .int .i64 (k : Int)]) := by
  rcases h with ⟨h0, _⟩ | ⟨_, he⟩
  · exact absurd (hk.symm.trans h0) hz
  · rw [he, hk]
end Go.Proofs.Ytojhledbfaninaa
