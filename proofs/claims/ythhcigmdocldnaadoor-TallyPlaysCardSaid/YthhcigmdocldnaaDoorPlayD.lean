/- The plain law of TallyPlays: the document's rows are the tally's. -/
import Derived.Test.YthhcigmdocldnaaDoorPlayC
namespace Go.Proofs.YthhcigmdocldnaaDoor
open Go Go.RowKit Go.Shelf Go.Sort

/-- What the document counts of a place. -/
def cntR (acc : List Res) (p : Bytes × Nat) : List Int := (List.range 11).map fun k => (manyR acc (p, k) : Int)
/-- How many there are of a place. -/
def sumR (acc : List Res) (p : Bytes × Nat) : Int := (cntR acc p).foldl (· + ·) 0
/-- The document's rows of some places. -/
def pickR (acc : List Res) (P : List (Bytes × Nat)) : Ent := (P.filter fun p => decide (0 < sumR acc p)).map fun p => (p, cntR acc p)
/-- The places of some domains, in their row. -/
def placesR (ds : List Bytes) : List (Bytes × Nat) := ds.flatMap fun d => [(d, 1), (d, 2), (d, 3)]

theorem foldl_nonneg : ∀ (l : List Int) (z : Int), (∀ x ∈ l, 0 ≤ x) → z ≤ l.foldl (· + ·) z
  | [], z, _ => Int.le_refl z
  | x :: l, z, h => by
    have := foldl_nonneg l (z + x) (fun y hy => h y (List.mem_cons_of_mem _ hy))
    have h0 := h x (List.mem_cons_self ..)
    rw [List.foldl_cons]
    omega
theorem foldl_pos : ∀ (l : List Int) (z : Int), (∀ x ∈ l, 0 ≤ x) → (z < l.foldl (· + ·) z ↔ ∃ x ∈ l, 0 < x)
  | [], z, _ => by simp
  | x :: l, z, h => by
    have ih := foldl_pos l (z + x) (fun y hy => h y (List.mem_cons_of_mem _ hy))
    have hn := foldl_nonneg l (z + x) (fun y hy => h y (List.mem_cons_of_mem _ hy))
    have h0 := h x (List.mem_cons_self ..)
    rw [List.foldl_cons]
    constructor
    · intro hz
      by_cases hx : 0 < x
      · exact ⟨x, List.mem_cons_self .., hx⟩
      · have hx0 : x = 0 := by omega
        subst hx0
        obtain ⟨y, hy, hp⟩ := ih.1 (by omega)
        exact ⟨y, List.mem_cons_of_mem _ hy, hp⟩
    · rintro ⟨y, hy, hp⟩
      rcases List.mem_cons.1 hy with rfl | hy
      · omega
      · have := ih.2 ⟨y, hy, hp⟩
        omega
theorem sumR_pos (acc : List Res) (p : Bytes × Nat) : 0 < sumR acc p ↔ ∃ k, k < 11 ∧ (p, k) ∈ acc := by
  unfold sumR
  rw [foldl_pos (cntR acc p) 0 (fun x hx => by obtain ⟨k, _, rfl⟩ := List.mem_map.1 hx; omega)]
  have hmany : ∀ k, 0 < manyR acc (p, k) ↔ (p, k) ∈ acc := by
    intro k
    unfold manyR
    rw [List.countP_pos_iff]
    constructor
    · rintro ⟨a, ha, hd⟩
      have := of_decide_eq_true hd
      rw [← this]; exact ha
    · intro hm
      exact ⟨_, hm, decide_eq_true rfl⟩
  constructor
  · rintro ⟨x, hx, hp⟩
    obtain ⟨k, hk, rfl⟩ := List.mem_map.1 hx
    exact ⟨k, List.mem_range.1 hk, (hmany k).1 (by omega)⟩
  · rintro ⟨k, hk, hm⟩
    have := (hmany k).2 hm
    exact ⟨_, List.mem_map.2 ⟨k, List.mem_range.2 hk, rfl⟩, by omega⟩

theorem cmpP_same (d : Bytes) {a b : Nat} (h : a < b) : cmpP (d, a) (d, b) < 0 := by
  unfold cmpP orI
  rw [if_pos (cmpB_self d)]
  unfold cmpInt
  rw [if_pos (by show (a : Int) < (b : Int); omega)]
  decide
theorem cmpP_fst {p q : Bytes × Nat} (h : cmpB p.1 q.1 < 0) : cmpP p q < 0 := by
  unfold cmpP orI
  rw [if_neg (by omega)]
  exact h
theorem asc_placesR : ∀ {ds : List Bytes}, Asc cmpB ds → Asc cmpP (placesR ds)
  | [], _ => List.Pairwise.nil
  | d :: ds, h => by
    obtain ⟨h1, h2⟩ := List.pairwise_cons.1 h
    have ih := asc_placesR h2
    have e : placesR (d :: ds) = [(d, 1), (d, 2), (d, 3)] ++ placesR ds := rfl
    rw [e]
    refine List.pairwise_append.2 ⟨?_, ih, ?_⟩
    · simp [cmpP_same]
    · intro a ha b hb
      obtain ⟨d', hd', hb⟩ := List.mem_flatMap.1 hb
      have hc := h1 d' hd'
      refine cmpP_fst ?_
      have ea : a.1 = d := by simp at ha; rcases ha with rfl | rfl | rfl <;> rfl
      have eb : b.1 = d' := by simp at hb; rcases hb with rfl | rfl | rfl <;> rfl
      rw [ea, eb]; exact hc
theorem mem_placesR {ds : List Bytes} {p : Bytes × Nat} : p ∈ placesR ds ↔ p.1 ∈ ds ∧ 1 ≤ p.2 ∧ p.2 ≤ 3 := by
  unfold placesR
  rw [List.mem_flatMap]
  constructor
  · rintro ⟨d, hd, hp⟩
    simp at hp
    rcases hp with rfl | rfl | rfl <;> exact ⟨hd, by simp, by simp⟩
  · rintro ⟨hd, h1, h3⟩
    refine ⟨p.1, hd, ?_⟩
    obtain ⟨d, t⟩ := p
    have : t = 1 ∨ t = 2 ∨ t = 3 := by dsimp at h1 h3; omega
    rcases this with rfl | rfl | rfl <;> simp

theorem kindB_range {t what : Nat} (h : kindB (t : Int) (what : Int) = true) : 1 ≤ t ∧ t ≤ 3 := by
  unfold kindB at h
  by_cases h1 : (t : Int) = 1
  · omega
  · by_cases h2 : (t : Int) = 2
    · omega
    · by_cases h3 : (t : Int) = 3
      · omega
      · simp [h1, h2, h3] at h

/-- The document's rows are the tally's. -/
theorem Inv.refRows {names : Int} {l : Ent} {acc : List Res} (h : Inv names l acc) {ps : List (Bytes × Nat)} (hp : Places l ps) {ds : List Bytes} (ha : Asc cmpB ds) (hd : ∀ d, d ∈ ds ↔ ∃ x ∈ acc, x.1.1 = d) : pickR acc (placesR ds) = rowsOf l ps := by
  have e : (placesR ds).filter (fun p => decide (0 < sumR acc p)) = ps := by
    refine Asc.uniq ordP ((asc_placesR ha).filter _) hp.asc fun p => ?_
    rw [List.mem_filter, mem_placesR, hp.perm.mem_iff, h.keys, decide_eq_true_iff, sumR_pos]
    constructor
    · rintro ⟨_, k, _, hk⟩
      exact ⟨k, hk⟩
    · rintro ⟨k, hk⟩
      have hok := h.ok _ hk
      have hlt := okR_lt hok
      unfold okR at hok
      rw [Bool.and_eq_true] at hok
      exact ⟨⟨(hd _).2 ⟨_, hk, rfl⟩, kindB_range hok.1⟩, k, hlt, hk⟩
  unfold pickR rowsOf
  rw [e]
  refine List.map_congr_left fun p _ => ?_
  rw [h.cnts p]
  rfl
/-- The domains are the document's. -/
theorem Inv.refDoms {names : Int} {l : Ent} {acc : List Res} (h : Inv names l acc) {ds : List Bytes} (ha : Asc cmpB ds) (hd : ∀ d, d ∈ ds ↔ ∃ x ∈ acc, x.1.1 = d) : domsL l = ds :=
  Asc.uniq ordB (asc_domsL l) ha fun d => by rw [h.doms, hd]
theorem pickR_snoc (acc : List Res) (P : List (Bytes × Nat)) (p : Bytes × Nat) : pickR acc (P ++ [p]) = pickR acc P ++ if 0 < sumR acc p then [(p, cntR acc p)] else [] := by
  unfold pickR
  rw [List.filter_append, List.map_append]
  by_cases h : 0 < sumR acc p <;> simp [h]
end Go.Proofs.YthhcigmdocldnaaDoor
