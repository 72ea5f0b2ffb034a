/- entry.Encode. -/
import Derived.Test.YtdlpdpelhkgnlaaGreatDoorEmaw
import Derived.Test.YtdlpdpelhkgnlaaGreatDoorEbst
namespace Go.Proofs.YtdlpdpelhkgnlaaGreatDoor
open Go Go.RowKit Go.Shelf Go.Sort
attribute [local go_sem] bneI

def rfB (p : RcP × FaP) : Bytes := txtB p.1.1 ++ (yesB p.1.2 ++ (numB p.2.1 ++ txtB p.2.2))
def joB (j : JoP) : Bytes := txtB j.dom ++ (numB j.tries ++ numB j.due)
def encB (x : EntP) : Bytes := numB x.id ++ (numB x.at_ ++ (txtB x.mail.sender ++ (yesB x.mail.req ++ (txtB x.mail.envid ++ (txtB x.mail.text ++ (numB x.fates.length ++ ((x.mail.rcpts.zip x.fates).flatMap rfB ++ (numB x.jobs.length ++ x.jobs.flatMap joB))))))))
/-- What stands ahead of the fates, of the jobs. -/
def encA (x : EntP) : Bytes := numB x.id ++ numB x.at_ ++ txtB x.mail.sender ++ yesB x.mail.req ++ txtB x.mail.envid ++ txtB x.mail.text ++ numB x.fates.length
def encC (x : EntP) (i : Nat) : Bytes := encA x ++ ((x.mail.rcpts.zip x.fates).take i).flatMap rfB
def encJ (x : EntP) : Bytes := encA x ++ (x.mail.rcpts.zip x.fates).flatMap rfB ++ numB x.jobs.length
def encK (x : EntP) (i : Nat) : Bytes := encJ x ++ (x.jobs.take i).flatMap joB
theorem encB_eq (x : EntP) : encB x = encJ x ++ x.jobs.flatMap joB := by unfold encB encJ encA; simp only [List.append_assoc]
theorem flat_take {α : Type} (f : α → Bytes) (l : List α) (i : Nat) : ((l.take i).flatMap f).length ≤ (l.flatMap f).length := by
  conv => rhs; rw [← List.take_append_drop i l, List.flatMap_append, List.length_append]
  omega
theorem encC_succ (x : EntP) (i : Nat) (h : i < (x.mail.rcpts.zip x.fates).length) : encC x (i + 1) = encC x i ++ rfB (x.mail.rcpts.zip x.fates)[i] := by
  unfold encC
  rw [List.take_succ_eq_append_getElem h, List.flatMap_append, List.append_assoc]
  simp
theorem encK_succ (x : EntP) (i : Nat) (h : i < x.jobs.length) : encK x (i + 1) = encK x i ++ joB x.jobs[i] := by
  unfold encK
  rw [List.take_succ_eq_append_getElem h, List.flatMap_append, List.append_assoc]
  simp
theorem encC_le (x : EntP) (i : Nat) : (encC x i).length ≤ (encB x).length := by
  have := flat_take rfB (x.mail.rcpts.zip x.fates) i
  unfold encC encB encA
  simp only [List.length_append]
  omega
theorem encK_le (x : EntP) (i : Nat) : (encK x i).length ≤ (encB x).length := by
  have := flat_take joB x.jobs i
  rw [encB_eq]
  unfold encK
  simp only [List.length_append]
  omega
theorem numB_len (n : Int) (h0 : 0 ≤ n) (h1 : n ≤ 1000000000000000) : (numB n).length ≤ 101 := by
  have := itoa_len n h0 h1
  unfold numB
  simp; omega
theorem flat_bound {α : Type} (f : α → Bytes) (k : Nat) : ∀ (l : List α), (∀ x ∈ l, (f x).length ≤ k) → (l.flatMap f).length ≤ l.length * k
  | [], _ => by simp
  | x :: l, h => by
    have h1 := h x List.mem_cons_self
    have h2 := flat_bound f k l fun y hy => h y (List.mem_cons_of_mem _ hy)
    rw [List.flatMap_cons, List.length_append, List.length_cons, Nat.add_mul]
    omega
theorem txtB_len (s : Bytes) (h : s.length ≤ 1000000) : (txtB s).length ≤ 1000101 := by
  have := numB_len (s.length : Int) (by omega) (by omega)
  unfold txtB
  rw [List.length_append]
  omega
theorem yesB_len (b : Bool) : (yesB b).length ≤ 101 := by
  unfold yesB
  cases b <;> exact numB_len _ (by decide) (by decide)
theorem insB_len (d : Bytes) : ∀ l : List Bytes, (insB d l).length ≤ l.length + 1
  | [] => by simp [insB]
  | x :: l => by
    unfold insB
    split
    · simp
    · split
      · simp
      · have := insB_len d l; simp; omega
theorem domsM_len (rs : List RcP) : (domsM rs).length ≤ rs.length := by
  refine Nat.le_trans ?_ (domsOf_le rs)
  unfold domsM
  induction domsOf rs with
  | nil => simp
  | cons d l ih => have := insB_len d (l.foldr insB []); simp; omega
structure MayN (x : EntP) : Prop where
  id : 1 ≤ x.id
  idc : clockB x.id = true
  at_ : clockB x.at_ = true
  mail : mailB x.mail 4 4096 = 0
  plain : x.plain = plainM x.mail
  len : x.fates.length = x.mail.rcpts.length
  fates : ∀ f ∈ x.fates, wrongB f = false
  jobs : jobsOk x.jobs (domsM x.mail.rcpts) = true
theorem mayN_iff (x : EntP) : mayN x = true ↔ MayN x := by
  unfold mayN
  simp only [Bool.and_eq_true, decide_eq_true_eq, beq_iff_eq, Bool.not_eq_true', List.any_eq_false]
  constructor
  · rintro ⟨h1, h2, h3, h4, h5, h6, h7, h8⟩
    exact ⟨h1, h2, h3, h4, h5, h6, fun f hf => by simpa using h7 f hf, h8⟩
  · rintro ⟨h1, h2, h3, h4, h5, h6, h7, h8⟩
    exact ⟨h1, h2, h3, h4, h5, h6, fun f hf => by simp [h7 f hf], h8⟩
theorem mailB_rc {m : MailP} {r most : Nat} (h : mailB m r most = 0) : m.rcpts.length ≤ r ∧ m.text.length ≤ most := by
  unfold mailB at h
  split at h
  · omega
  · omega
theorem MayN.rc {x : EntP} (h : MayN x) : x.mail.rcpts.length ≤ 4 := (mailB_rc h.mail).1
theorem jobsOk_mem {js : List JoP} {ds : List Bytes} (h : jobsOk js ds = true) : js.length = ds.length ∧ ∀ j ∈ js, 0 ≤ j.tries ∧ j.tries ≤ 99 ∧ clockB j.due = true := by
  have h := (jobsOk_iff js ds).1 h
  refine ⟨h.1, fun j hj => ?_⟩
  obtain ⟨i, hi, rfl⟩ := List.getElem_of_mem hj
  have := h.2 i hi (by omega)
  unfold jobOk at this
  simp only [Bool.and_eq_true, decide_eq_true_eq] at this
  exact this.2
theorem wrong_len {f : FaP} (h : wrongB f = false) : f.1 ≤ 2 ∧ f.2.length ≤ 128 := by
  obtain ⟨h1, h2, -⟩ := wrong_no f h
  refine ⟨by omega, ?_⟩
  rw [← h2]
  unfold wordB
  simp; omega
theorem clock_le {n : Int} (h : clockB n = true) : 0 ≤ n ∧ n ≤ 1099511627776 := by
  unfold clockB at h
  simpa using h
theorem enc_len {x : EntP} (h : MayN x) (hs : ShortE x) : (encB x).length ≤ 50000000 := by
  have h1 := clock_le h.idc
  have h2 := clock_le h.at_
  have h3 := numB_len x.id h1.1 (by omega)
  have h4 := numB_len x.at_ h2.1 (by omega)
  have h5 := txtB_len _ hs.mail.sender
  have h6 := txtB_len _ hs.mail.envid
  have h7 := txtB_len _ hs.mail.text
  have h8 := yesB_len x.mail.req
  have hrc := h.rc
  have h9 := numB_len (x.fates.length : Int) (by omega) (by have := h.len; omega)
  have hj := jobsOk_mem h.jobs
  have hdl := domsM_len x.mail.rcpts
  have h10 := numB_len (x.jobs.length : Int) (by omega) (by omega)
  have h11 := flat_bound rfB 2000505 (x.mail.rcpts.zip x.fates) fun p hp => by
    have hm := List.of_mem_zip hp
    have hf := wrong_len (h.fates _ hm.2)
    have k1 := txtB_len _ (hs.mail.tos _ hm.1)
    have k2 := yesB_len p.1.2
    have k3 := numB_len (p.2.1 : Int) (by omega) (by omega)
    have k4 := txtB_len _ (hs.texts _ hm.2)
    unfold rfB
    simp only [List.length_append]
    omega
  have h12 := flat_bound joB 1000303 x.jobs fun j hjm => by
    have hk := hj.2 j hjm
    have hc := clock_le hk.2.2
    have k1 := txtB_len _ (hs.doms j hjm)
    have k2 := numB_len j.tries hk.1 (by omega)
    have k3 := numB_len j.due hc.1 (by omega)
    unfold joB
    simp only [List.length_append]
    omega
  have hz : (x.mail.rcpts.zip x.fates).length ≤ 4 := by rw [List.length_zip]; omega
  have hjl : x.jobs.length ≤ 4 := by omega
  have h13 : (x.mail.rcpts.zip x.fates).length * 2000505 ≤ 4 * 2000505 := Nat.mul_le_mul_right _ hz
  have h14 : x.jobs.length * 1000303 ≤ 4 * 1000303 := Nat.mul_le_mul_right _ hjl
  unfold encB
  simp only [List.length_append]
  omega
/-- What Encode answers. -/
def EncPost (x : EntP) (e : Ending) : Prop := (mayN x = true ∧ e = .returned (.tuple #[.string ⟨(encB x).toArray⟩, .int .i64 0])) ∨ (mayN x = false ∧ e = .returned (.tuple #[.string ⟨#[]⟩, .int .i64 4]))
end Go.Proofs.YtdlpdpelhkgnlaaGreatDoor
