/- entry: Next, in plain Lean. -/
import Derived.Test.YtdlpdpelhkgnlaaGreatDoorEful
namespace Go.Proofs.YtdlpdpelhkgnlaaGreatDoor
open Go
/-! ### Next -/
/-- What stands for a job: its entry's number, and it. -/
abbrev FiP := Int × JoP
def duesOf (x : EntP) (now : Int) : List FiP := (x.jobs.filter fun j => decide (j.due ≤ now) && decide (waitsM x j.dom ≠ [])).map fun j => (x.id, j)
def allDue (l : List EntP) (now : Int) : List FiP := l.flatMap fun x => duesOf x now
def cmpI (a b : Int) : Int := if a < b then -1 else if b < a then 1 else 0
def cmpFi (a b : FiP) : Int := if cmpI a.2.due b.2.due ≠ 0 then cmpI a.2.due b.2.due else if cmpI a.1 b.1 ≠ 0 then cmpI a.1 b.1 else cmpB a.2.dom b.2.dom
def minFi : FiP → List FiP → FiP
  | m, [] => m
  | m, x :: l => minFi (if cmpFi x m < 0 then x else m) l
def nextN (l : List EntP) (now : Int) : Option FiP := match allDue l now with
  | [] => none
  | x :: r => some (minFi x r)
/-- Ahead of another, by due and number. -/
def AheadF (a b : FiP) : Prop := a.2.due < b.2.due ∨ (a.2.due = b.2.due ∧ a.1 ≤ b.1)
theorem aheadF_refl (a : FiP) : AheadF a a := .inr ⟨rfl, Int.le_refl _⟩
theorem aheadF_trans {a b c : FiP} (h : AheadF a b) (k : AheadF b c) : AheadF a c := by
  unfold AheadF at *; omega
theorem cmpI_is (a b : Int) : (cmpI a b = -1 ∧ a < b) ∨ (cmpI a b = 0 ∧ a = b) ∨ (cmpI a b = 1 ∧ b < a) := by
  unfold cmpI
  by_cases h1 : a < b
  · exact .inl ⟨if_pos h1, h1⟩
  · rw [if_neg h1]
    by_cases h2 : b < a
    · exact .inr (.inr ⟨if_pos h2, h2⟩)
    · exact .inr (.inl ⟨if_neg h2, by omega⟩)
theorem cmpFi_is (x m : FiP) : (cmpFi x m < 0 → AheadF x m) ∧ (¬ cmpFi x m < 0 → AheadF m x) := by
  unfold cmpFi AheadF
  rcases cmpI_is x.2.due m.2.due with ⟨e, h⟩ | ⟨e, h⟩ | ⟨e, h⟩
  · rw [e, if_pos (by decide)]; exact ⟨fun _ => .inl h, fun k => absurd (by decide) k⟩
  · rw [e, if_neg (by decide)]
    rcases cmpI_is x.1 m.1 with ⟨e2, h2⟩ | ⟨e2, h2⟩ | ⟨e2, h2⟩
    · rw [e2, if_pos (by decide)]; exact ⟨fun _ => .inr ⟨h, by omega⟩, fun k => absurd (by decide) k⟩
    · rw [e2, if_neg (by decide)]; exact ⟨fun _ => .inr ⟨h, by omega⟩, fun _ => .inr ⟨h.symm, by omega⟩⟩
    · rw [e2, if_pos (by decide)]; exact ⟨fun k => absurd k (by decide), fun _ => .inr ⟨h.symm, by omega⟩⟩
  · rw [e, if_pos (by decide)]; exact ⟨fun k => absurd k (by decide), fun _ => .inl h⟩
theorem aheadF_of_ge {x m : FiP} (h : ¬ cmpFi x m < 0) : AheadF m x := (cmpFi_is x m).2 h
theorem aheadF_of_lt {x m : FiP} (h : cmpFi x m < 0) : AheadF x m := (cmpFi_is x m).1 h
theorem minFi_mem : ∀ (l : List FiP) (m : FiP), minFi m l ∈ m :: l
  | [], m => by simp [minFi]
  | x :: l, m => by
    unfold minFi
    have := minFi_mem l (if cmpFi x m < 0 then x else m)
    rcases List.mem_cons.1 this with h | h
    · rw [h]; split <;> simp
    · exact List.mem_cons_of_mem _ (List.mem_cons_of_mem _ h)
theorem minFi_ahead : ∀ (l : List FiP) (m : FiP), ∀ y ∈ m :: l, AheadF (minFi m l) y
  | [], m, y, h => by
    have : y = m := by simpa using h
    subst this; exact aheadF_refl _
  | x :: l, m, y, h => by
    unfold minFi
    have ih := minFi_ahead l (if cmpFi x m < 0 then x else m)
    have h0 := ih _ List.mem_cons_self
    rcases List.mem_cons.1 h with rfl | h
    · by_cases hc : cmpFi x y < 0
      · rw [if_pos hc] at h0 ⊢; exact aheadF_trans h0 (aheadF_of_lt hc)
      · rw [if_neg hc] at h0 ⊢; exact h0
    · rcases List.mem_cons.1 h with rfl | h
      · by_cases hc : cmpFi y m < 0
        · rw [if_pos hc] at h0 ⊢; exact h0
        · rw [if_neg hc] at h0 ⊢; exact aheadF_trans h0 (aheadF_of_ge hc)
      · exact ih y (List.mem_cons_of_mem _ h)
theorem next_some {l : List EntP} {now : Int} {m : FiP} (h : nextN l now = some m) : m ∈ allDue l now ∧ ∀ y ∈ allDue l now, AheadF m y := by
  unfold nextN at h
  split at h
  · cases h
  · rename_i x r e
    injection h with h
    subst h
    rw [e]
    exact ⟨minFi_mem r x, minFi_ahead r x⟩
theorem next_none {l : List EntP} {now : Int} (h : nextN l now = none) : allDue l now = [] := by
  unfold nextN at h
  split at h
  · assumption
  · cases h
theorem mem_allDue {l : List EntP} {now : Int} {y : FiP} : y ∈ allDue l now ↔ ∃ x ∈ l, ∃ j ∈ x.jobs, j.due ≤ now ∧ waitsM x j.dom ≠ [] ∧ y = (x.id, j) := by
  unfold allDue duesOf
  simp only [List.mem_flatMap, List.mem_map, List.mem_filter, Bool.and_eq_true, decide_eq_true_eq]
  constructor
  · rintro ⟨x, hx, j, ⟨hj, h1, h2⟩, rfl⟩
    exact ⟨x, hx, j, hj, h1, h2, rfl⟩
  · rintro ⟨x, hx, j, hj, h1, h2, rfl⟩
    exact ⟨x, hx, j, ⟨hj, h1, h2⟩, rfl⟩
end Go.Proofs.YtdlpdpelhkgnlaaGreatDoor
