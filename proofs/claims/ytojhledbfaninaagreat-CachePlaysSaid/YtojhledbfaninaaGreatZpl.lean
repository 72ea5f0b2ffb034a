/- The document's cache in plain Lean: which one goes, without it, where a new one goes. -/
import Derived.Test.YtojhledbfaninaaGreatClearn
namespace Go.Proofs.YtojhledbfaninaaGreat
open Go Go.RowKit Go.Shelf Go.Sort

/-! ### The least one, found by going over them -/
theorem minE_snoc (l : List PE) (x : PE) : minE (l ++ [x]) = some (match minE l with | none => x | some m => stepE m x) := by
  cases l with
  | nil => rfl
  | cons p l => simp [minE, List.foldl_append]
/-- less, of the document -/
def lessB (a b : PE) : Bool := decide (a.unt < b.unt) || (decide (a.unt = b.unt) && decide (cmpB a.dom b.dom < 0))
theorem lessB_iff (a b : PE) : lessB a b = decide (cmpE a b < 0) := by
  unfold lessB cmpE cmpI Lib.compareInt orI
  rcases Int.lt_trichotomy a.unt b.unt with h | h | h
  · simp [h]
  · simp [h]
  · have h1 : ¬ a.unt < b.unt := by omega
    have h2 : ¬ a.unt = b.unt := by omega
    simp [h1, h2, h]
/-- The place that was found so far. -/
def Found (L : List PE) (f : PE → Bool) (i : Nat) (at' : Option Nat) : Prop :=
  (∀ k, at' = some k → k < i) ∧ minE ((L.take i).filter f) = at'.bind fun k => L[k]?
theorem Found.zero (L : List PE) (f : PE → Bool) : Found L f 0 none := ⟨fun _ h => (by cases h), rfl⟩
theorem Found.lt {L : List PE} {f : PE → Bool} {i k : Nat} (h : Found L f i (some k)) (hi : i ≤ L.length) : k < L.length := by have := h.1 k rfl; omega
theorem Found.skip {L : List PE} {f : PE → Bool} {i : Nat} {a : Option Nat} (h : Found L f i a) (hi : i < L.length) (hf : f L[i] = false) : Found L f (i + 1) a := by
  refine ⟨fun k hk => by have := h.1 k hk; omega, ?_⟩
  rw [List.take_succ_eq_append_getElem hi, List.filter_append, List.filter_cons_of_neg (by rw [hf]; simp), List.filter_nil, List.append_nil]
  exact h.2
theorem Found.first {L : List PE} {f : PE → Bool} {i : Nat} (h : Found L f i none) (hi : i < L.length) (hf : f L[i] = true) : Found L f (i + 1) (some i) := by
  refine ⟨fun k hk => by injection hk with hk; omega, ?_⟩
  rw [List.take_succ_eq_append_getElem hi, List.filter_append, List.filter_cons_of_pos hf, List.filter_nil, minE_snoc, h.2]
  simp [hi]
theorem Found.take {L : List PE} {f : PE → Bool} {i k : Nat} (h : Found L f i (some k)) (hi : i < L.length) (hk : k < L.length) (hf : f L[i] = true) (hl : lessB L[i] L[k] = true) : Found L f (i + 1) (some i) := by
  refine ⟨fun j hj => by injection hj with hj; omega, ?_⟩
  rw [List.take_succ_eq_append_getElem hi, List.filter_append, List.filter_cons_of_pos hf, List.filter_nil, minE_snoc, h.2]
  rw [lessB_iff] at hl
  simp [hi, hk, stepE, of_decide_eq_true hl]
theorem Found.stay {L : List PE} {f : PE → Bool} {i k : Nat} (h : Found L f i (some k)) (hi : i < L.length) (hk : k < L.length) (hf : f L[i] = true) (hl : lessB L[i] L[k] = false) : Found L f (i + 1) (some k) := by
  refine ⟨fun j hj => by have := h.1 j hj; omega, ?_⟩
  rw [List.take_succ_eq_append_getElem hi, List.filter_append, List.filter_cons_of_pos hf, List.filter_nil, minE_snoc, h.2]
  rw [lessB_iff] at hl
  simp [hk, stepE, of_decide_eq_false hl]
/-- What goes, by its place. -/
def GoesAt (L : List PE) (now : Int) (at' : Option Nat) : Prop := (∀ k, at' = some k → k < L.length) ∧ goesE now L = at'.bind fun k => L[k]?
theorem goes_found1 {L : List PE} {now : Int} {k : Nat} (h : Found L (fun p => decide (p.unt ≤ now)) L.length (some k)) : GoesAt L now (some k) := by
  refine ⟨fun j hj => by injection hj with hj; subst hj; exact h.lt (Nat.le_refl _), ?_⟩
  have hk := h.lt (Nat.le_refl _)
  have h2 := h.2
  rw [List.take_length] at h2
  simp [hk] at h2
  rw [goes_exp (p := L[k]) (by simpa using h2)]
  simp [hk]
theorem goes_found2 {L : List PE} {now : Int} {a : Option Nat} (h1 : Found L (fun p => decide (p.unt ≤ now)) L.length none) (h : Found L (fun p => decide (p.mode ≠ 3)) L.length a) : GoesAt L now a := by
  refine ⟨fun j hj => h.1 j hj, ?_⟩
  have e1 := h1.2
  have e2 := h.2
  rw [List.take_length] at e1 e2
  unfold goesE
  rw [e1, ← e2]
  rfl
/-! ### Without one -/
theorem dropE_at {L : List PE} (h : AscE L) {k : Nat} (hk : k < L.length) : L.eraseIdx k = dropE L[k].dom L := by
  have hs : L = L.take k ++ L[k] :: L.drop (k + 1) := by rw [List.getElem_cons_drop, List.take_append_drop]
  have hd := h
  rw [hs] at hd
  unfold AscE at hd
  rw [List.pairwise_append, List.pairwise_cons] at hd
  rw [List.eraseIdx_eq_take_drop_succ]
  obtain ⟨p, hp⟩ : ∃ p, p = L[k] := ⟨_, rfl⟩
  rw [← hp] at hs hd ⊢
  generalize L.take k = A at hs hd ⊢
  generalize L.drop (k + 1) = C at hs hd ⊢
  subst hs
  unfold dropE
  rw [List.filter_append, List.filter_cons_of_neg (by simp)]
  congr 1
  · rw [List.filter_eq_self.2]
    intro x hx
    have := hd.2.2 x hx p (by simp)
    simp only [ne_eq, decide_not, Bool.not_eq_eq_eq_not, Bool.not_true, decide_eq_false_iff_not]
    intro e; rw [e, cmpB_self] at this; omega
  · rw [List.filter_eq_self.2]
    intro x hx
    have := hd.2.1.1 x hx
    simp only [ne_eq, decide_not, Bool.not_eq_eq_eq_not, Bool.not_true, decide_eq_false_iff_not]
    intro e; rw [e, cmpB_self] at this; omega
theorem dropE_none {d : Bytes} {L : List PE} (h : hasE d L = false) : dropE d L = L := by
  unfold dropE
  rw [List.filter_eq_self.2]
  intro x hx
  simp only [ne_eq, decide_not, Bool.not_eq_eq_eq_not, Bool.not_true, decide_eq_false_iff_not]
  intro e
  have : hasE d L = true := hasE_mem.2 ⟨x, hx, e⟩
  rw [h] at this; cases this
theorem hasE_take {d : Bytes} {L : List PE} {i : Nat} (hi : i < L.length) : hasE d (L.take (i + 1)) = (hasE d (L.take i) || decide (L[i].dom = d)) := by
  unfold hasE
  rw [List.take_succ_eq_append_getElem hi, List.any_append, List.any_cons, List.any_nil, Bool.or_false]
/-- Of the domain there is none ahead of its place. -/
theorem hasE_once {L : List PE} (h : AscE L) {k i : Nat} (hk : k < i) (hi : i < L.length) (d : Bytes) (hd : L[k].dom = d) : ¬ L[i].dom = d := by
  intro e
  have := nodup_inj h.doms (i := k) (j := i) (by simp; omega) (by simpa using hi) (by simp [hd, e])
  omega
/-! ### Where a new one goes -/
theorem insE_at {L : List PE} (h : AscE L) (x : PE) (hx : ∀ p ∈ L, p.dom ≠ x.dom) (i : Nat) (hi : i ≤ L.length) (h1 : ∀ p ∈ L.take i, cmpB p.dom x.dom < 0) (h2 : ∀ (hl : i < L.length), ¬ cmpB L[i].dom x.dom < 0) : insE x L = L.take i ++ x :: L.drop i := by
  have ha : ∀ p ∈ L.drop i, cmpB x.dom p.dom < 0 := by
    intro p hp
    by_cases hl : i < L.length
    · have h3 := h2 hl
      have h4 : cmpB x.dom L[i].dom < 0 := by
        have h5 := hx L[i] (List.getElem_mem hl)
        have h6 := cmpB_swap L[i].dom x.dom
        have h7 : cmpB L[i].dom x.dom ≠ 0 := fun e => h5 (cmpB_eq e)
        omega
      rw [List.drop_eq_getElem_cons hl] at hp
      rcases List.mem_cons.1 hp with rfl | hp
      · exact h4
      · have hs : AscE (L.drop i) := List.Pairwise.sublist (List.drop_sublist i L) h
        rw [List.drop_eq_getElem_cons hl] at hs
        unfold AscE at hs
        rw [List.pairwise_cons] at hs
        exact cmpB_trans h4 (hs.1 p hp)
    · rw [List.drop_of_length_le (by omega)] at hp; cases hp
  unfold insE
  have e1 : L.filter (fun p => decide (cmpB p.dom x.dom < 0)) = L.take i := by
    conv => lhs; rw [← List.take_append_drop i L]
    rw [List.filter_append, List.filter_eq_self.2 (fun p hp => decide_eq_true (h1 p hp)), List.filter_eq_nil_iff.2, List.append_nil]
    intro p hp
    have h3 := ha p hp
    have h4 := cmpB_swap p.dom x.dom
    simp only [decide_eq_true_eq]
    omega
  have e2 : L.filter (fun p => decide (cmpB x.dom p.dom < 0)) = L.drop i := by
    conv => lhs; rw [← List.take_append_drop i L]
    rw [List.filter_append, List.filter_eq_self.2 (fun p hp => decide_eq_true (ha p hp)), List.filter_eq_nil_iff.2, List.nil_append]
    intro p hp
    have h3 := h1 p hp
    have h4 := cmpB_swap p.dom x.dom
    simp only [decide_eq_true_eq]
    omega
  rw [e1, e2]
theorem mem_dropE {d : Bytes} {L : List PE} {p : PE} (h : p ∈ dropE d L) : p.dom ≠ d := by simpa [dropE] using (List.mem_filter.1 h).2
/-! ### Of -/
theorem of_at {L : List PE} (h : AscE L) {k : Nat} (hk : k < L.length) : lookE L[k].dom L = some L[k] := by
  unfold lookE
  cases hf : L.find? fun q => decide (q.dom = L[k].dom) with
  | none => have := List.find?_eq_none.1 hf L[k] (List.getElem_mem hk); simp at this
  | some q =>
    have h1 := List.mem_of_find?_eq_some hf
    have h2 := List.find?_some hf
    rw [h.inj h1 (List.getElem_mem hk) (of_decide_eq_true h2)]
end Go.Proofs.YtojhledbfaninaaGreat
