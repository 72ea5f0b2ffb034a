/- entry: who waits, all together: in plain Lean. -/
import Derived.Test.YtdlpdpelhkgnlaaGreatDoorEendp
import Derived.Test.YtdlpdpelhkgnlaaGreatDoorMc
namespace Go.Proofs.YtdlpdpelhkgnlaaGreatDoor
open Go
/-! ### Who waits, all together -/
def sumN {α : Type} (f : α → Nat) (l : List α) : Nat := (l.map f).foldr (· + ·) 0
theorem sumN_cons {α : Type} (f : α → Nat) (x : α) (l : List α) : sumN f (x :: l) = f x + sumN f l := rfl
theorem sumN_snoc {α : Type} (f : α → Nat) (l : List α) (x : α) : sumN f (l ++ [x]) = sumN f l + f x := by
  induction l with
  | nil => simp [sumN]
  | cons y l ih => rw [List.cons_append, sumN_cons, sumN_cons, ih]; omega
theorem sumN_add {α : Type} (f g : α → Nat) (l : List α) : sumN (fun x => f x + g x) l = sumN f l + sumN g l := by
  induction l with
  | nil => rfl
  | cons y l ih => rw [sumN_cons, sumN_cons, sumN_cons, ih]; omega
theorem sumN_congr {α : Type} {f g : α → Nat} : ∀ {l : List α}, (∀ x ∈ l, f x = g x) → sumN f l = sumN g l
  | [], _ => rfl
  | y :: l, h => by rw [sumN_cons, sumN_cons, h y List.mem_cons_self, sumN_congr fun x hx => h x (List.mem_cons_of_mem _ hx)]
theorem sumN_zero {α : Type} (f : α → Nat) : ∀ {l : List α}, (∀ x ∈ l, f x = 0) → sumN f l = 0
  | [], _ => rfl
  | y :: l, h => by rw [sumN_cons, h y List.mem_cons_self, sumN_zero f fun x hx => h x (List.mem_cons_of_mem _ hx)]
theorem sumN_one {α : Type} [DecidableEq α] (d : α) : ∀ {l : List α}, l.Nodup → d ∈ l → sumN (fun x => if d = x then 1 else 0) l = 1
  | [], _, h => by cases h
  | y :: l, hn, h => by
    rw [List.nodup_cons] at hn
    rw [sumN_cons]
    by_cases e : d = y
    · subst e
      rw [if_pos rfl, sumN_zero _ fun x hx => if_neg fun e => hn.1 (by rw [e]; exact hx)]
    · rw [if_neg e, sumN_one d hn.2 (by rcases List.mem_cons.1 h with h | h; exact absurd h e; exact h)]
theorem sum_count {β : Type} (ds : List Bytes) (hn : ds.Nodup) (W : β → Bool) (P : β → Option Bytes) : ∀ (l : List β), (∀ i ∈ l, ∃ d ∈ ds, P i = some d) →
    sumN (fun d => l.countP fun i => W i && decide (P i = some d)) ds = l.countP W
  | [], _ => by simp [sumN_zero]
  | i :: l, h => by
    have ih := sum_count ds hn W P l fun k hk => h k (List.mem_cons_of_mem _ hk)
    obtain ⟨d, hd, he⟩ := h i List.mem_cons_self
    rw [List.countP_cons, ← ih]
    have : sumN (fun e => (i :: l).countP fun i => W i && decide (P i = some e)) ds = sumN (fun e => (l.countP fun i => W i && decide (P i = some e)) + (if W i = true then (if d = e then 1 else 0) else 0)) ds := sumN_congr fun e _ => by
      rw [List.countP_cons, he]
      congr 1
      cases W i <;> simp
    rw [this, sumN_add]
    congr 1
    cases W i
    · simp [sumN_zero]
    · simp [sumN_one d hn hd]
theorem countP_range {α : Type} (f : α → Bool) : ∀ (l : List α), ((List.range l.length).countP fun i => match l[i]? with | some p => f p | none => false) = l.countP f := by
  intro l
  have key : ∀ n, n ≤ l.length → ((List.range n).countP fun i => match l[i]? with | some p => f p | none => false) = (l.take n).countP f := by
    intro n
    induction n with
    | zero => simp
    | succ n ih =>
      intro hn
      rw [List.range_succ, List.countP_append, ih (by omega), List.take_succ_eq_append_getElem (by omega), List.countP_append]
      congr 1
      simp [List.countP_cons, List.getElem?_eq_getElem (show n < l.length by omega)]
  rw [key _ (Nat.le_refl _), List.take_length]
theorem plcB_count (cnt : RcP → FaP → Bool) (l : List (RcP × FaP)) : (plcB cnt l l.length).length = l.countP fun p => cnt p.1 p.2 := by
  unfold plcB
  rw [← List.countP_eq_length_filter]
  rw [← countP_range (fun p : RcP × FaP => cnt p.1 p.2) l]
  congr 1
  funext i
  cases l[i]? <;> rfl
theorem rcptsB_addr : ∀ (l ahead : List Bytes), rcptsB ahead l = true → ∀ r ∈ l, addrB r = true
  | [], _, _, r, h => by cases h
  | a :: l, ahead, hr, r, h => by
    unfold rcptsB at hr
    simp only [Bool.and_eq_true] at hr
    rcases List.mem_cons.1 h with rfl | h
    · exact hr.1.1
    · exact rcptsB_addr l _ hr.2 r h
theorem mailB_addr {m : MailP} {a b : Nat} (h : mailB m a b = 0) : ∀ r ∈ m.rcpts, ∃ d, (parseB r.1).map (·.2) = some d := by
  unfold mailB at h
  split at h
  · omega
  · split at h
    · rename_i h2
      simp only [Bool.and_eq_true] at h2
      intro r hr
      have := rcptsB_addr _ _ h2.2 r.1 (List.mem_map.2 ⟨r, hr, rfl⟩)
      unfold addrB at this
      cases hp : parseB r.1 with
      | none => rw [hp] at this; cases this
      | some p => exact ⟨p.2, rfl⟩
    · omega
theorem mailB_pos {m : MailP} {a b : Nat} (h : mailB m a b = 0) : 0 < m.rcpts.length := by
  unfold mailB at h
  split at h
  · omega
  · split at h
    · rename_i h2
      simp only [Bool.and_eq_true, decide_eq_true_eq] at h2
      exact h2.1.1.1.1.2
    · omega
theorem countP_zip2 {α β : Type} (f : β → Bool) : ∀ (l : List α) (m : List β), m.length = l.length → ((l.zip m).countP fun p => f p.2) = m.countP f
  | [], [], _ => rfl
  | [], _ :: _, h => by simp at h
  | _ :: _, [], h => by simp at h
  | a :: l, b :: m, h => by
    rw [List.zip_cons_cons, List.countP_cons, List.countP_cons, countP_zip2 f l m (by simpa using h)]
/-- Each recipient that waits is of just one job's domain. -/
theorem waits_sum (hmem : ∀ (rs : List RcP) (y : Bytes), y ∈ domsM rs ↔ y ∈ domsOf rs) (hnd : ∀ rs, (domsM rs).Nodup) {x : EntP} (h : MayN x) : sumN (fun j : JoP => (waitsM x j.dom).length) x.jobs = x.fates.countP waitB := by
  have hd := jobsOk_dom h.jobs
  have e : sumN (fun j : JoP => (waitsM x j.dom).length) x.jobs = sumN (fun d => (waitsM x d).length) (domsM x.mail.rcpts) := by
    rw [← hd]; unfold sumN; rw [List.map_map]; rfl
  rw [e]
  have e2 : sumN (fun d => (waitsM x d).length) (domsM x.mail.rcpts) = sumN (fun d => (x.mail.rcpts.zip x.fates).countP fun p => waitB p.2 && decide ((parseB p.1.1).map (·.2) = some d)) (domsM x.mail.rcpts) := sumN_congr fun d _ => by
    unfold waitsM plcM
    rw [plcB_count]; rfl
  rw [e2, sum_count _ (hnd _) (fun p : RcP × FaP => waitB p.2) (fun p : RcP × FaP => (parseB p.1.1).map (·.2)) _ fun p hp => ?_, countP_zip2 waitB _ _ h.len]
  have hr := (List.of_mem_zip hp).1
  obtain ⟨d, hd⟩ := mailB_addr h.mail p.1 hr
  exact ⟨d, (hmem _ _).2 (by unfold domsOf; exact List.mem_filterMap.2 ⟨p.1, hr, hd⟩), hd⟩
theorem settled_count (x : EntP) : settledB x = decide (x.fates.countP waitB = 0) := by
  unfold settledB
  rw [Bool.eq_iff_iff]
  simp [List.countP_eq_zero]
/-- The place of a job among jobs of distinct domains. -/
theorem jobAt_self {js : List JoP} (hn : (js.map (·.dom)).Nodup) {k : Nat} (hk : k < js.length) : jobAt js js[k].dom = some k := by
  unfold jobAt
  rw [List.findIdx?_eq_some_iff_getElem]
  refine ⟨hk, by simp, fun i hi => ?_⟩
  simp only [Bool.not_eq_true, decide_eq_false_iff_not]
  intro e
  have h1 : i < (js.map (·.dom)).length := by simp; omega
  have h2 : k < (js.map (·.dom)).length := by simpa using hk
  have := (List.pairwise_iff_getElem.1 hn) i k h1 h2 hi
  simp at this
  exact this e
theorem doms_pos {rs : List RcP} (hmem : ∀ (rs : List RcP) (y : Bytes), y ∈ domsM rs ↔ y ∈ domsOf rs) (h : 0 < rs.length) (ha : ∀ r ∈ rs, ∃ d, (parseB r.1).map (·.2) = some d) : 0 < (domsM rs).length := by
  cases rs with
  | nil => simp at h
  | cons r rs =>
    obtain ⟨d, hd⟩ := ha r List.mem_cons_self
    have : d ∈ domsM (r :: rs) := (hmem _ _).2 (by unfold domsOf; exact List.mem_filterMap.2 ⟨r, List.mem_cons_self, hd⟩)
    exact List.length_pos_of_mem this
end Go.Proofs.YtdlpdpelhkgnlaaGreatDoor
