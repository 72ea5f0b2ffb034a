/- CacheKept, in plain Lean: an entry to be enforced stays; what was learned is told. -/
import Derived.Test.YtojhledbfaninaaCall
import Derived.Test.YtojhledbfaninaaClearn
namespace Go.Proofs.Ytojhledbfaninaa
open Go Go.RowKit Go.Shelf Go.Sort

theorem lookE_mem {L : List PE} (h : AscE L) {p : PE} (hp : p ∈ L) : lookE p.dom L = some p := by
  unfold lookE
  cases hf : L.find? fun q => decide (q.dom = p.dom) with
  | none => have := List.find?_eq_none.1 hf p hp; simp at this
  | some q =>
    have h1 := List.mem_of_find?_eq_some hf
    have h2 := List.find?_some hf
    rw [h.inj h1 hp (of_decide_eq_true h2)]
theorem goes_not {now : Int} {L : List PE} {q p : PE} (h : goesE now L = some q) (hm : p.mode = 3) (hu : now < p.unt) : q ≠ p := by
  rintro rfl
  unfold goesE at h
  split at h
  · rename_i r hr
    injection h with h
    subst h
    have := (List.mem_filter.1 (minE_mem hr)).2
    simp at this
    omega
  · have := (List.mem_filter.1 (minE_mem h)).2
    simp at this
    exact this hm
theorem learn_stays {most : Int} {L : List PE} {x p : PE} (h : AscE L) (hp : p ∈ L) (hm : p.mode = 3) (hu : x.unt < p.unt) (hd : p.dom ≠ x.dom) : p ∈ learnS most L x := by
  by_cases hb : learnB most L x = 0
  · by_cases he : x.unt < 0 ∨ 1099511627776 < x.unt
    · rw [learn_early he] at hb; cases hb
    · by_cases hy : mayE x = true
      · by_cases hr : hasE x.dom L = true ∨ (L.length : Int) < most
        · rw [(learn_room he hy hr).2]
          exact mem_insE.2 (.inr ⟨hp, hd⟩)
        · cases hg : goesE x.unt L with
          | none => rw [learn_full he hy hr hg] at hb; cases hb
          | some q =>
            rw [(learn_goes he hy hr hg).2]
            refine mem_insE.2 (.inr ⟨?_, hd⟩)
            unfold dropE
            refine List.mem_filter.2 ⟨hp, ?_⟩
            simp only [decide_eq_true_eq]
            exact fun e => goes_not hg hm hu (h.inj (goesE_mem hg) hp e.symm)
      · rw [learn_form he (by simpa using hy)] at hb; cases hb
  · rw [learnS_bad hb]; exact hp
/-- What was learned: there, if it may be told at all. -/
theorem learn_in {most : Int} {L : List PE} {x : PE} (hb : learnB most L x = 0) : (0 ≤ x.unt ∧ x.unt ≤ 1099511627776) ∧ mayE x = true ∧ { x with unt := x.unt + x.age } ∈ learnS most L x := by
  by_cases he : x.unt < 0 ∨ 1099511627776 < x.unt
  · rw [learn_early he] at hb; cases hb
  · refine ⟨by omega, ?_⟩
    by_cases hy : mayE x = true
    · refine ⟨hy, ?_⟩
      by_cases hr : hasE x.dom L = true ∨ (L.length : Int) < most
      · rw [(learn_room he hy hr).2]
        exact mem_insE.2 (.inl rfl)
      · cases hg : goesE x.unt L with
        | none => rw [learn_full he hy hr hg] at hb; cases hb
        | some q =>
          rw [(learn_goes he hy hr hg).2]
          exact mem_insE.2 (.inl rfl)
    · rw [learn_form he (by simpa using hy)] at hb; cases hb
theorem of_member {L : List PE} (h : AscE L) {p : PE} (hp : p ∈ L) (now : Int) : ofE p.dom now L = if now < p.unt then some p else none := by
  unfold ofE
  rw [lookE_mem h hp]
theorem of_learned {most : Int} {L : List PE} {x : PE} (hG : GoodE most L) (hb : learnB most L x = 0) : ofE x.dom x.unt (learnS most L x) = if 0 < x.age then some { x with unt := x.unt + x.age } else none := by
  have := of_member (hG.learn x).asc (learn_in hb).2.2 x.unt
  dsimp only at this
  rw [this]
  by_cases ha : 0 < x.age
  · rw [if_pos ha, if_pos (by omega)]
  · rw [if_neg ha, if_neg (by omega)]
theorem of_kept {most : Int} {L : List PE} {x p : PE} (hG : GoodE most L) (hp : p ∈ L) (hm : p.mode = 3) (hu : x.unt < p.unt) (hd : p.dom ≠ x.dom) : ofE p.dom (p.unt - 1) (learnS most L x) = some p := by
  rw [of_member (hG.learn x).asc (learn_stays hG.asc hp hm hu hd), if_pos (by omega)]
theorem may_unt {p : PE} (h : mayE p = true) : 0 ≤ p.unt ∧ p.unt ≤ 1099543185376 := by
  simp [mayE] at h
  omega
end Go.Proofs.Ytojhledbfaninaa
