/- entry: End, in plain Lean. -/
import Derived.Test.YtdlpdpelhkgnlaaGreatDoorEful
namespace Go.Proofs.YtdlpdpelhkgnlaaGreatDoor
open Go
/-! ### End -/
def putF (fs : List FaP) (w : List Nat) (l : List FaP) : Nat → List FaP
  | 0 => fs
  | p + 1 => match w[p]?, l[p]? with
    | some i, some f => (putF fs w l p).set i f
    | _, _ => putF fs w l p
def jobAt (js : List JoP) (d : Bytes) : Option Nat := js.findIdx? fun j => decide (j.dom = d)
def bumpJ (j : JoP) (due : Int) : JoP := ⟨j.dom, min 98 j.tries + 1, due⟩
def zeroN : EntP := ⟨0, 0, ⟨[], [], false, [], []⟩, false, [], []⟩
def endX (x : EntP) (k : Nat) (w : List Nat) (l : List FaP) (due : Int) : EntP := { x with fates := putF x.fates w l l.length, jobs := x.jobs.modify k fun j => bumpJ j due }
def endN (x : EntP) (d : Bytes) (l : List FaP) (due : Int) : EntP × Nat := match jobAt x.jobs d with
  | none => (zeroN, 5)
  | some k => if waitsM x d = [] then (zeroN, 5) else if l.length ≠ (waitsM x d).length ∨ clockB due = false ∨ l.any wrongB = true then (zeroN, 4) else (endX x k (waitsM x d) l due, 0)
/-- What a fate is to be behind so many of the new ones; whether it is a new one. -/
def wantP (w : List Nat) (l : List FaP) (n : Nat) (v : FaP) : Nat → FaP × Nat
  | 0 => (v, 0)
  | p + 1 => match w[p]?, l[p]? with
    | some i, some f => if i = n then (f, 1) else wantP w l n v p
    | _, _ => wantP w l n v p
theorem putF_len (fs : List FaP) (w : List Nat) (l : List FaP) : ∀ p, (putF fs w l p).length = fs.length
  | 0 => rfl
  | p + 1 => by
    unfold putF
    split
    · rw [List.length_set, putF_len fs w l p]
    · exact putF_len fs w l p
theorem putF_get (fs : List FaP) (w : List Nat) (l : List FaP) (n : Nat) (hn : n < fs.length) : ∀ p, (putF fs w l p)[n]? = some (wantP w l n fs[n] p).1
  | 0 => by simp [putF, wantP]
  | p + 1 => by
    unfold putF wantP
    split
    · rename_i i f h1 h2
      rw [List.getElem?_set]
      by_cases h : i = n
      · subst h
        rw [if_pos rfl, if_pos rfl, if_pos (by rw [putF_len]; exact hn)]
      · rw [if_neg h, if_neg h, putF_get fs w l n hn p]
    · exact putF_get fs w l n hn p
theorem wantP_mem (w : List Nat) (l : List FaP) (n : Nat) (v : FaP) : ∀ p, (wantP w l n v p).2 = 1 → n ∈ w
  | 0, h => by simp [wantP] at h
  | p + 1, h => by
    unfold wantP at h
    split at h
    · rename_i i f h1 h2
      by_cases e : i = n
      · subst e; exact List.mem_of_getElem? h1
      · rw [if_neg e] at h; exact wantP_mem w l n v p h
    · exact wantP_mem w l n v p h
theorem putF_mem (fs : List FaP) (w : List Nat) (l : List FaP) : ∀ p, ∀ f ∈ putF fs w l p, f ∈ fs ∨ f ∈ l
  | 0, f, h => .inl h
  | p + 1, f, h => by
    unfold putF at h
    split at h
    · rename_i i g h1 h2
      rcases List.mem_or_eq_of_mem_set h with h | rfl
      · exact putF_mem fs w l p f h
      · exact .inr (List.mem_of_getElem? h2)
    · exact putF_mem fs w l p f h
theorem plcB_mem (cnt : RcP → FaP → Bool) (l : List (RcP × FaP)) (n i : Nat) : i ∈ plcB cnt l n ↔ i < n ∧ ∃ p, l[i]? = some p ∧ cnt p.1 p.2 = true := by
  unfold plcB
  rw [List.mem_filter, List.mem_range]
  constructor
  · rintro ⟨h1, h2⟩
    cases h : l[i]? with
    | none => rw [h] at h2; cases h2
    | some p => rw [h] at h2; exact ⟨h1, p, rfl, h2⟩
  · rintro ⟨h1, p, h2, h3⟩
    rw [h2]; exact ⟨h1, h3⟩
theorem waits_mem {x : EntP} {d : Bytes} {i : Nat} (h : i ∈ waitsM x d) : ∃ (h1 : i < x.mail.rcpts.length) (h2 : i < x.fates.length), waitB x.fates[i] = true ∧ ofB x.mail.rcpts[i] d = true := by
  unfold waitsM plcM at h
  rw [plcB_mem] at h
  obtain ⟨h1, p, h2, h3⟩ := h
  rw [List.length_zip] at h1
  have h4 : i < x.mail.rcpts.length := by omega
  have h5 : i < x.fates.length := by omega
  refine ⟨h4, h5, ?_⟩
  rw [List.getElem?_eq_getElem (by rw [List.length_zip]; omega), List.getElem_zip] at h2
  injection h2 with h2
  subst h2
  unfold waitOf at h3
  rw [Bool.and_eq_true] at h3
  exact h3
theorem jobsOk_dom : ∀ {l : List JoP} {ds : List Bytes}, jobsOk l ds = true → l.map (·.dom) = ds
  | [], [], _ => rfl
  | [], _ :: _, h => by simp [jobsOk] at h
  | _ :: _, [], h => by simp [jobsOk] at h
  | j :: l, d :: ds, h => by
    unfold jobsOk jobOk at h
    simp only [Bool.and_eq_true, decide_eq_true_eq] at h
    rw [List.map_cons, jobsOk_dom h.2, h.1.1]
theorem jobsOk_mod (due : Int) (hd : clockB due = true) : ∀ {l : List JoP} {ds : List Bytes} (k : Nat), jobsOk l ds = true → jobsOk (l.modify k fun j => bumpJ j due) ds = true
  | [], [], k, _ => by cases k <;> rfl
  | [], _ :: _, _, h => by simp [jobsOk] at h
  | _ :: _, [], _, h => by simp [jobsOk] at h
  | j :: l, d :: ds, 0, h => by
    rw [List.modify_zero_cons]
    unfold jobsOk at h ⊢
    rw [Bool.and_eq_true] at h ⊢
    refine ⟨?_, h.2⟩
    have := h.1
    unfold jobOk bumpJ at *
    simp only [Bool.and_eq_true, decide_eq_true_eq] at this ⊢
    exact ⟨this.1, by omega, by omega, hd⟩
  | j :: l, d :: ds, k + 1, h => by
    rw [List.modify_succ_cons]
    unfold jobsOk at h ⊢
    rw [Bool.and_eq_true] at h ⊢
    exact ⟨h.1, jobsOk_mod due hd k h.2⟩
/-- What may be may be behind an End. -/
theorem may_end {x : EntP} {d : Bytes} {l : List FaP} {due : Int} (h : mayN x = true) (he : (endN x d l due).2 = 0) : ∃ k, jobAt x.jobs d = some k ∧ (endN x d l due).1 = endX x k (waitsM x d) l due ∧ l.length = (waitsM x d).length ∧ clockB due = true ∧ mayN (endX x k (waitsM x d) l due) = true := by
  unfold endN at he ⊢
  cases hk : jobAt x.jobs d with
  | none => rw [hk] at he; simp at he
  | some k =>
    rw [hk] at he
    dsimp only at he ⊢
    by_cases h1 : waitsM x d = []
    · rw [if_pos h1] at he; simp at he
    · rw [if_neg h1] at he ⊢
      by_cases h2 : l.length ≠ (waitsM x d).length ∨ clockB due = false ∨ l.any wrongB = true
      · rw [if_pos h2] at he; simp at he
      · rw [if_neg h2]
        simp only [not_or, ne_eq, Decidable.not_not, Bool.not_eq_false, Bool.not_eq_true] at h2
        refine ⟨k, rfl, rfl, h2.1, h2.2.1, ?_⟩
        have hm := (mayN_iff x).1 h
        refine (mayN_iff _).2 ⟨hm.id, hm.idc, hm.at_, hm.mail, hm.plain, ?_, fun f hf => ?_, jobsOk_mod due h2.2.1 k hm.jobs⟩
        · show (putF x.fates (waitsM x d) l l.length).length = _
          rw [putF_len]; exact hm.len
        · rcases putF_mem _ _ _ _ _ hf with hf | hf
          · exact hm.fates f hf
          · have h4 := h2.2.2
            rw [List.any_eq_false] at h4
            simpa using h4 f hf
end Go.Proofs.YtdlpdpelhkgnlaaGreatDoor
