/- EntryGood: in plain Lean. -/
import Derived.Test.YtdlpdpelhkgnlaaGreatDoorEsum
import Derived.Test.YtdlpdpelhkgnlaaGreatDoorEmst
namespace Go.Proofs.YtdlpdpelhkgnlaaGreatDoor
open Go Go.Sort

theorem domsM_nodup (rs : List RcP) : (domsM rs).Nodup := by
  refine List.Pairwise.imp ?_ (show List.Pairwise (fun x y => cmpB x y < 0) (domsM rs) from domsM_asc rs)
  intro a b h e
  subst e
  rw [cmpB_self] at h
  omega
theorem jobsOk_in : ∀ {l : List JoP} {ds : List Bytes}, jobsOk l ds = true → ∀ j ∈ l, 0 ≤ j.tries ∧ j.tries ≤ 99 ∧ clockB j.due = true
  | [], _, _, j, hj => by cases hj
  | _ :: _, [], h, _, _ => by simp [jobsOk] at h
  | y :: l, d :: ds, h, j, hj => by
    unfold jobsOk jobOk at h
    simp only [Bool.and_eq_true, decide_eq_true_eq] at h
    rcases List.mem_cons.1 hj with rfl | hj
    · exact ⟨h.1.2.1, h.1.2.2.1, h.1.2.2.2⟩
    · exact jobsOk_in h.2 j hj
theorem mailB_four {m : MailP} {a b : Nat} (h : mailB m a b = 0) : m.rcpts.length ≤ a := by
  unfold mailB at h
  split at h
  · omega
  · rename_i h2
    omega
theorem wrong_lens {f : FaP} (h : wrongB f = false) : f.1 ≤ 2 ∧ f.2.length ≤ 128 := by
  unfold wrongB at h
  simp only [Bool.or_eq_false_iff, decide_eq_false_iff_not, Decidable.not_not] at h
  refine ⟨by omega, ?_⟩
  have h2 := h.2.1
  rw [← h2]
  unfold wordB
  rw [List.length_take]
  exact Nat.min_le_left _ _
/-- What may be is small. -/
structure FewX (x : EntP) : Prop where
  may : MayN x
  short : ShortE x
  fates : x.fates.length ≤ 4
  jobs : x.jobs.length ≤ 4
  pos : 0 < x.jobs.length
theorem few_may {x : EntP} (h : MayN x) (hm : ShortM x.mail) : FewX x := by
  have h4 := mailB_four h.mail
  have hd := jobsOk_dom h.jobs
  have hl : x.jobs.length = (domsM x.mail.rcpts).length := by rw [← hd, List.length_map]
  have hn := domsM_len x.mail.rcpts
  have hp := doms_pos domsM_mem (mailB_pos h.mail) (mailB_addr h.mail)
  have hf := h.len
  refine ⟨h, ⟨hm, by omega, by omega, fun f hf => ?_, fun f hf => ?_, fun j hj => ?_⟩, by omega, by omega, by omega⟩
  · have := (wrong_lens (h.fates f hf)).1; omega
  · have := (wrong_lens (h.fates f hf)).2; omega
  · have : j.dom ∈ domsM x.mail.rcpts := by rw [← hd]; exact List.mem_map.2 ⟨j, hj, rfl⟩
    have := doms_short this
    omega
theorem waits_le (x : EntP) (d : Bytes) : (waitsM x d).length ≤ x.fates.length := by
  unfold waitsM plcM
  refine Nat.le_trans (plcB_le _ _ _) ?_
  rw [List.length_zip]
  exact Nat.min_le_right _ _
/-- What End answers at a job's own domain. -/
theorem good_end {x : EntP} (h : MayN x) {k : Nat} {j : JoP} (hk : x.jobs[k]? = some j) {l : List FaP} {due : Int} (he : (endN x j.dom l due).2 = 0) :
    (endN x j.dom l due).1 = endX x k (waitsM x j.dom) l due ∧ l.length = (waitsM x j.dom).length ∧ mayN (endX x k (waitsM x j.dom) l due) = true := by
  obtain ⟨k', h1, h2, h3, -, h5⟩ := may_end ((mayN_iff x).2 h) he
  obtain ⟨hlt, rfl⟩ := List.getElem?_eq_some_iff.1 hk
  have := jobAt_self (by rw [jobsOk_dom h.jobs]; exact domsM_nodup _) hlt
  rw [h1] at this
  injection this with this
  subst this
  exact ⟨h2, h3, h5⟩
theorem want_succ {w : List Nat} {l : List FaP} {n p i : Nat} {v f : FaP} (h1 : w[p]? = some i) (h2 : l[p]? = some f) : wantP w l n v (p + 1) = if i = n then (f, 1) else wantP w l n v p := by
  simp [wantP, h1, h2]
theorem good_fate (x : EntP) (k : Nat) (w : List Nat) (l : List FaP) (due : Int) {n : Nat} {v : FaP} (hv : x.fates[n]? = some v) : (endX x k w l due).fates[n]? = some (wantP w l n v l.length).1 := by
  obtain ⟨hn, rfl⟩ := List.getElem?_eq_some_iff.1 hv
  exact putF_get _ _ _ _ hn _
theorem good_wait {x : EntP} {d : Bytes} {l : List FaP} {n p : Nat} {v : FaP} (hv : x.fates[n]? = some v) (h : (wantP (waitsM x d) l n v p).2 = 1) : v.1 = 0 := by
  obtain ⟨_, h2, h3, -⟩ := waits_mem (wantP_mem _ _ _ _ _ h)
  obtain ⟨hn, rfl⟩ := List.getElem?_eq_some_iff.1 hv
  simpa [waitB] using h3
theorem want_01 (w : List Nat) (l : List FaP) (n : Nat) (v : FaP) : ∀ p, (wantP w l n v p).2 = 0 ∨ (wantP w l n v p).2 = 1
  | 0 => .inl rfl
  | p + 1 => by
    unfold wantP
    split
    · split
      · exact .inr rfl
      · exact want_01 w l n v p
    · exact want_01 w l n v p
theorem good_job (x : EntP) (k : Nat) (w : List Nat) (l : List FaP) (due : Int) {n : Nat} {j : JoP} (hj : x.jobs[n]? = some j) : (endX x k w l due).jobs[n]? = some (if k = n then bumpJ j due else j) := by
  show (x.jobs.modify k _)[n]? = _
  rw [List.getElem?_modify, hj]
  split <;> rfl
theorem bump_tries {j : JoP} {due : Int} : (bumpJ j due).tries = min 99 (j.tries + 1) := by
  show min 98 j.tries + 1 = _
  omega
theorem end_lens (x : EntP) (k : Nat) (w : List Nat) (l : List FaP) (due : Int) : (endX x k w l due).mail = x.mail ∧ (endX x k w l due).fates.length = x.fates.length ∧ (endX x k w l due).jobs.length = x.jobs.length := ⟨rfl, putF_len _ _ _ _, List.length_modify _ _ _⟩
theorem sumN_le {α : Type} (f : α → Nat) (B : Nat) : ∀ {l : List α}, (∀ x ∈ l, f x ≤ B) → sumN f l ≤ l.length * B
  | [], _ => by simp [sumN]
  | y :: l, h => by
    have h1 := h y List.mem_cons_self
    have h2 := sumN_le f B (l := l) fun x hx => h x (List.mem_cons_of_mem _ hx)
    rw [sumN_cons, List.length_cons, Nat.succ_mul]
    omega
/-- Who waits of an entry's first jobs; how many first fates wait. -/
def waitsP (x : EntP) (n : Nat) : Nat := sumN (fun j : JoP => (waitsM x j.dom).length) (x.jobs.take n)
def allP (x : EntP) (n : Nat) : Nat := (x.fates.take n).countP waitB
theorem waitsP_succ {x : EntP} {n : Nat} {j : JoP} (h : x.jobs[n]? = some j) : waitsP x (n + 1) = waitsP x n + (waitsM x j.dom).length := by
  obtain ⟨hn, rfl⟩ := List.getElem?_eq_some_iff.1 h
  unfold waitsP
  rw [List.take_succ_eq_append_getElem hn, sumN_snoc]
theorem allP_succ {x : EntP} {n : Nat} {f : FaP} (h : x.fates[n]? = some f) : allP x (n + 1) = allP x n + if waitB f = true then 1 else 0 := by
  obtain ⟨hn, rfl⟩ := List.getElem?_eq_some_iff.1 h
  unfold allP
  rw [List.take_succ_eq_append_getElem hn, List.countP_append, List.countP_singleton]
theorem waitsP_le {x : EntP} (h : FewX x) (n : Nat) : waitsP x n ≤ 16 := by
  unfold waitsP
  refine Nat.le_trans (sumN_le _ 4 fun j _ => Nat.le_trans (waits_le x j.dom) h.fates) ?_
  rw [List.length_take]
  have := h.jobs
  omega
theorem allP_le {x : EntP} (h : FewX x) (n : Nat) : allP x n ≤ 4 := by
  unfold allP
  refine Nat.le_trans List.countP_le_length ?_
  rw [List.length_take]
  have := h.fates
  omega
theorem good_sum {x : EntP} (h : FewX x) : waitsP x x.jobs.length = allP x x.fates.length ∧ settledB x = decide (allP x x.fates.length = 0) := by
  unfold waitsP allP
  rw [List.take_length, List.take_length]
  exact ⟨waits_sum domsM_mem domsM_nodup h.may, settled_count x⟩
/-- What the law answers, where the entry may not be. -/
theorem good_not {id at_ : Int} {m : MailP} (h : mayN (makeN id at_ m) = false) : mailB m 4 4096 ≠ 0 ∨ id < 1 ∨ 1099511627776 < id ∨ at_ < 0 ∨ 1099511627776 < at_ := by
  rw [may_make] at h
  unfold clockB at h
  simp only [Bool.and_eq_false_iff, decide_eq_false_iff_not] at h
  omega
end Go.Proofs.YtdlpdpelhkgnlaaGreatDoor
