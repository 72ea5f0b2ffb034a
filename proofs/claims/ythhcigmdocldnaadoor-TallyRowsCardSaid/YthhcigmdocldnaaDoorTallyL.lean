/- The document's own function Same at rows. -/
import Derived.Test.YthhcigmdocldnaaDoorTallyK
import Derived.Test.YthhcigmdocldnaaDoorSameA
namespace Go.Proofs.YthhcigmdocldnaaDoor
open Go Go.RowKit Go.Shelf Go.Sort

theorem rows_at {T : TypeId} {W : World} {base : Nat} {p : Option Addr} {c : Nat} {xs : Ent} {vs : List Value} (hvl : vs.length = xs.length) (hvf : ∀ i (h1 : i < xs.length) (h2 : i < vs.length), FailsAt W base xs[i].2 vs[i])
    (hvo : W.ownsRow base T 4 (.slice p xs.length c) xs.length ((xs.zip vs).flatMap rowCells)) (hx : ∀ x ∈ xs, x.2.length = 11) {i : Nat} (hi : i < xs.length) :
    ∃ g g2 cap2, p = some ⟨g, 0, none⟩ ∧ xs.length ≤ c ∧ W.cell? ⟨g, i * 4, none⟩ = some (.string ⟨xs[i].1.1.toArray⟩) ∧ W.cell? ⟨g, i * 4 + 1, none⟩ = some (.int .u8 (xs[i].1.2 : Int)) ∧ W.cell? ⟨g, i * 4 + 2, none⟩ = some (.int .i64 (xs[i].2.getD 0 0)) ∧
      W.cell? ⟨g, i * 4 + 3, none⟩ = some (.slice (some ⟨g2, 0, none⟩) 10 cap2) ∧ 10 ≤ cap2 ∧ ∀ k, k < 10 → W.cell? ⟨g2, k, none⟩ = some (.int .i64 (xs[i].2.getD (k + 1) 0)) := by
  have hv : i < vs.length := by omega
  obtain ⟨g2, cap2, cur2, hu, hg2, hh2, hc2, hm2, hs2, ht2⟩ := hvf i hi hv
  have hsl : ∃ g, p = some ⟨g, 0, none⟩ ∧ xs.length ≤ c := by
    rcases hvo.2 with ⟨h0, _⟩ | ⟨g, cap, cur, e, _, _, hcap, _⟩
    · injection h0 with _ h0; omega
    · injection e with e1 _ e3; subst e1; subst e3; exact ⟨g, rfl, hcap⟩
  obtain ⟨g, rfl, hxc⟩ := hsl
  have hzi : i < (xs.zip vs).length := by simp; omega
  have hrc : ∀ k (hk : k < 4) (v : Value), (rowCells (xs[i], vs[i]))[k]? = some v → W.cell? ⟨g, i * 4 + k, none⟩ = some v := fun k hk v hv' => own_cell hvo (by omega) (by
    rw [flat4 rowCells (fun _ => rfl) _ i k hzi hk, List.getElem_zip]; exact hv')
  refine ⟨g, g2, cap2, rfl, hxc, hrc 0 (by omega) _ rfl, hrc 1 (by omega) _ rfl, hrc 2 (by omega) _ rfl, hrc 3 (by omega) _ (by rw [← hu]; rfl), hc2, fun k hk => ?_⟩
  have h11 := hx xs[i] (List.getElem_mem hi)
  have h1 : (cur2.toList.take 10)[k]? = ((xs[i].2.drop 1).map (Value.int .i64))[k]? := by rw [ht2]
  rw [List.getElem?_take_of_lt hk] at h1
  simp only [World.cell?, hh2]
  have hk1 : k + 1 < xs[i].2.length := by omega
  rw [List.getElem?_map, List.getElem?_drop, Nat.add_comm 1 k, List.getElem?_eq_getElem hk1] at h1
  have e2 : xs[i].2.getD (k + 1) 0 = xs[i].2[k + 1]'(by omega) := by simp [List.getD, show k + 1 < xs[i].2.length by omega]
  rw [e2]
  simpa using h1

/-- A row's cells. -/
def W4 (W : World) (g i : Nat) (q : (Bytes × Nat) × List Int) (g2 cap2 : Nat) : Prop :=
  W.cell? ⟨g, i * 4, none⟩ = some (.string ⟨q.1.1.toArray⟩) ∧ W.cell? ⟨g, i * 4 + 1, none⟩ = some (.int .u8 (q.1.2 : Int)) ∧ W.cell? ⟨g, i * 4 + 2, none⟩ = some (.int .i64 (q.2.getD 0 0)) ∧
      W.cell? ⟨g, i * 4 + 3, none⟩ = some (.slice (some ⟨g2, 0, none⟩) 10 cap2) ∧ ∀ k, k < 10 → W.cell? ⟨g2, k, none⟩ = some (.int .i64 (q.2.getD (k + 1) 0))
def rowN (xs : Ent) (i : Nat) : (Bytes × Nat) × List Int := xs.getD i (([], 0), [])
theorem rowN_eq {xs : Ent} {i : Nat} (h : i < xs.length) : rowN xs i = xs[i] := by simp [rowN, h]

theorem rowEq_iff {xs ys : Ent} (hx : ∀ x ∈ xs, x.2.length = 11) (hy : ∀ x ∈ ys, x.2.length = 11) (hn : xs.length = ys.length) :
    (∀ i, i < xs.length → RowEq (fun i => ⟨(rowN xs i).1.1.toArray⟩) (fun i => ⟨(rowN ys i).1.1.toArray⟩) (fun i => ((rowN xs i).1.2 : Int)) (fun i => ((rowN ys i).1.2 : Int)) (fun i => (rowN xs i).2.getD 0 0) (fun i => (rowN ys i).2.getD 0 0) (fun i k => (rowN xs i).2.getD (k + 1) 0) (fun i k => (rowN ys i).2.getD (k + 1) 0) i) ↔ xs = ys := by
  constructor
  · intro h
    apply List.ext_getElem hn
    intro i h1 h2
    obtain ⟨e1, e2, e3, e4⟩ := h i h1
    dsimp only at e1 e2 e3 e4
    rw [rowN_eq h1, rowN_eq h2] at e1 e2 e3
    have e4' : ∀ k, k < 10 → xs[i].2.getD (k + 1) 0 = ys[i].2.getD (k + 1) 0 := by
      intro k hk
      have := e4 k hk
      rwa [rowN_eq h1, rowN_eq h2] at this
    have hx1 := hx _ (List.getElem_mem h1)
    have hy1 := hy _ (List.getElem_mem h2)
    refine Prod.ext (Prod.ext ?_ (by omega)) ?_
    · injection e1 with e1
      simpa using congrArg Array.toList e1
    · apply List.ext_getElem (by omega)
      intro k hk1 hk2
      have hd : ∀ (l : List Int) (k : Nat) (h : k < l.length), l.getD k 0 = l[k] := fun l k h => by simp [h]
      cases k with
      | zero => rw [← hd _ _ hk1, ← hd _ _ hk2]; exact e3
      | succ k => rw [← hd _ _ hk1, ← hd _ _ hk2]; exact e4' k (by omega)
  · rintro rfl i _
    exact ⟨rfl, rfl, rfl, fun _ _ => rfl⟩

set_option maxRecDepth 100000 in
set_option maxHeartbeats 1000000 in
theorem same_any (base : Nat) (v u : Value) (xs ys : Ent) (w : World) (h : RowsT 71 w base v xs) (h' : RowsT 71 w base u ys) (hx : ∀ x ∈ xs, x.2.length = 11) (hy : ∀ x ∈ ys, x.2.length = 11) (hxl : xs.length ≤ 1000000) (hyl : ys.length ≤ 1000000) :
    Calls Tryd.prog 15 #[v, u] w fun e w' => e = .returned (.bool (decide (xs = ys))) ∧ Below w.heap.size w w' := by
  obtain ⟨vs, hvl, hvf, hvo⟩ := h
  obtain ⟨us, hul, huf, huo⟩ := h'
  have hsh : ∃ p c, v = .slice p xs.length c := by
    rcases hvo.2 with ⟨rfl, h0⟩ | ⟨g, cap, cur, rfl, _⟩
    · exact ⟨none, 0, by rw [h0]⟩
    · exact ⟨_, _, rfl⟩
  obtain ⟨p, c, rfl⟩ := hsh
  have hsh : ∃ p c, u = .slice p ys.length c := by
    rcases huo.2 with ⟨rfl, h0⟩ | ⟨g, cap, cur, rfl, _⟩
    · exact ⟨none, 0, by rw [h0]⟩
    · exact ⟨_, _, rfl⟩
  obtain ⟨p', c', rfl⟩ := hsh
  by_cases hne : xs.length = ys.length
  · have hX := fun (i : Nat) (hi : i < xs.length) => rows_at hvl hvf hvo hx hi
    have hY := fun (i : Nat) (hi : i < ys.length) => rows_at hul huf huo hy hi
    obtain ⟨g, hg⟩ : ∃ g, 0 < xs.length → p = some ⟨g, 0, none⟩ := by
      by_cases h0 : 0 < xs.length
      · obtain ⟨g, _, _, e, _⟩ := hX 0 h0
        exact ⟨g, fun _ => e⟩
      · exact ⟨0, fun h => absurd h h0⟩
    obtain ⟨g', hg'⟩ : ∃ g, 0 < ys.length → p' = some ⟨g, 0, none⟩ := by
      by_cases h0 : 0 < ys.length
      · obtain ⟨g, _, _, e, _⟩ := hY 0 h0
        exact ⟨g, fun _ => e⟩
      · exact ⟨0, fun h => absurd h h0⟩
    have hc : xs.length ≤ c := by
      by_cases h0 : 0 < xs.length
      · obtain ⟨_, _, _, _, e, _⟩ := hX 0 h0
        exact e
      · omega
    have hc' : ys.length ≤ c' := by
      by_cases h0 : 0 < ys.length
      · obtain ⟨_, _, _, _, e, _⟩ := hY 0 h0
        exact e
      · omega
    have cX : ∀ i, ∃ g2 cap2, i < xs.length → W4 w g i (rowN xs i) g2 cap2 := by
      intro i
      by_cases hi : i < xs.length
      · obtain ⟨g1, g2, cap2, e, _, x0, x1, x2, x3, _, x5⟩ := hX i hi
        have hgg := hg (by omega)
        rw [e] at hgg
        injection hgg with hgg
        injection hgg with hgg
        subst hgg
        exact ⟨g2, cap2, fun _ => by rw [rowN_eq hi]; exact ⟨x0, x1, x2, x3, x5⟩⟩
      · exact ⟨0, 0, fun h => absurd h hi⟩
    have cY : ∀ i, ∃ g2 cap2, i < ys.length → W4 w g' i (rowN ys i) g2 cap2 := by
      intro i
      by_cases hi : i < ys.length
      · obtain ⟨g1, g2, cap2, e, _, x0, x1, x2, x3, _, x5⟩ := hY i hi
        have hgg := hg' (by omega)
        rw [e] at hgg
        injection hgg with hgg
        injection hgg with hgg
        subst hgg
        exact ⟨g2, cap2, fun _ => by rw [rowN_eq hi]; exact ⟨x0, x1, x2, x3, x5⟩⟩
      · exact ⟨0, 0, fun h => absurd h hi⟩
    obtain ⟨G2, cX⟩ := Classical.axiomOfChoice cX
    obtain ⟨C2, cX⟩ := Classical.axiomOfChoice cX
    obtain ⟨G2', cY⟩ := Classical.axiomOfChoice cY
    obtain ⟨C2', cY⟩ := Classical.axiomOfChoice cY
    rw [← hne] at cY hc' hg' ⊢
    refine Calls.mono (same_core w p p' g g' c c' xs.length (fun i => ⟨(rowN xs i).1.1.toArray⟩) (fun i => ⟨(rowN ys i).1.1.toArray⟩) (fun i => ((rowN xs i).1.2 : Int)) (fun i => ((rowN ys i).1.2 : Int)) (fun i => (rowN xs i).2.getD 0 0) (fun i => (rowN ys i).2.getD 0 0) G2 G2' C2 C2' (fun i k => (rowN xs i).2.getD (k + 1) 0) (fun i k => (rowN ys i).2.getD (k + 1) 0) hg hg'
      (fun i hi => (cX i hi).1) (fun i hi => (cX i hi).2.1) (fun i hi => (cX i hi).2.2.1) (fun i hi => (cX i hi).2.2.2.1) (fun i hi => (cX i hi).2.2.2.2)
      (fun i hi => (cY i hi).1) (fun i hi => (cY i hi).2.1) (fun i hi => (cY i hi).2.2.1) (fun i hi => (cY i hi).2.2.2.1) (fun i hi => (cY i hi).2.2.2.2) hc hc' hxl) ?_
    rintro e w' ⟨b, m, rfl, hb, rfl⟩
    refine ⟨?_, below_drewN (Below.refl _ w) m⟩
    rw [rowEq_iff hx hy hne] at hb
    by_cases hxy : xs = ys
    · rw [hb.2 hxy, decide_eq_true hxy]
    · have : b = false := by
        cases b
        · rfl
        · exact absurd (hb.1 rfl) hxy
      rw [this, decide_eq_false hxy]
  · have hni : ¬ (xs.length : Int) = (ys.length : Int) := by omega
    have hE : decide (xs = ys) = false := by
      rw [decide_eq_false_iff_not]
      intro e; exact hne (by rw [e])
    have HE := Lib.hid hE
    clear hE hne hvl hvf hvo hul huf huo hx hy
    go_enter Tryd.func15, Tryd.ntmps15
    go_wp2
    refine bodyPost_ret (v := .bool false) (by simp [results, Tryd.results15, go_sem]) rfl ⟨by rw [HE.out], Below.refl _ _⟩
end Go.Proofs.YthhcigmdocldnaaDoor
