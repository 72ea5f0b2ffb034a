/- entry: Make, and the greatest entry of a mail: in plain Lean. -/
import Derived.Test.YtdlpdpelhkgnlaaGreatDoorEcod
namespace Go.Proofs.YtdlpdpelhkgnlaaGreatDoor
open Go
/-! ### Make -/
theorem jobsOk_map (t u : Int) (h0 : 0 ≤ t) (h1 : t ≤ 99) (hu : clockB u = true) : ∀ ds : List Bytes, jobsOk (ds.map fun d => (⟨d, t, u⟩ : JoP)) ds = true
  | [] => rfl
  | d :: ds => by
    rw [List.map_cons]
    unfold jobsOk jobOk
    rw [jobsOk_map t u h0 h1 hu ds]
    simp [h0, h1, hu]
/-- Every recipient with so long a fate, every job with so many tries. -/
def fullN (c : UInt8) (m : MailP) : EntP := { makeN 1099511627776 1099511627776 m with fates := List.replicate m.rcpts.length (2, List.replicate 128 c), jobs := (domsM m.rcpts).map fun d => ⟨d, 99, 1099511627776⟩ }
def mostN (m : MailP) : Nat := if mayN (fullN 119 m) then (encB (fullN 119 m)).length else 0
theorem wrong_full (c : UInt8) (hc : standsB c = true) : wrongB (2, List.replicate 128 c) = false := by
  unfold wrongB
  have : wordB (List.replicate 128 c) = List.replicate 128 c := by
    unfold wordB
    rw [List.filter_replicate, if_pos hc, List.take_replicate]; rfl
  generalize List.replicate 128 c = w at *
  simp [this]
theorem may_full (c : UInt8) (hc : standsB c = true) (m : MailP) : mayN (fullN c m) = decide (mailB m 4 4096 = 0) := by
  rw [Bool.eq_iff_iff, mayN_iff, decide_eq_true_eq]
  constructor
  · intro h; exact h.mail
  · intro h
    exact ⟨by show (1 : Int) ≤ 1099511627776; decide, rfl, rfl, h, rfl, by simp [fullN, makeN], fun f hf => by
      have := List.eq_of_mem_replicate hf
      rw [this]; exact wrong_full c hc, jobsOk_map 99 1099511627776 (by decide) (by decide) rfl _⟩
theorem may_make {id at_ : Int} {m : MailP} : mayN (makeN id at_ m) = (decide (1 ≤ id) && (clockB id && (clockB at_ && decide (mailB m 4 4096 = 0)))) := by
  rw [Bool.eq_iff_iff, mayN_iff]
  simp only [Bool.and_eq_true, decide_eq_true_eq]
  constructor
  · intro h; exact ⟨h.id, h.idc, h.at_, h.mail⟩
  · rintro ⟨h1, h2, h3, h4⟩
    refine ⟨h1, h2, h3, h4, rfl, by simp [makeN], fun f hf => ?_, jobsOk_map 0 at_ (by decide) (by decide) h3 _⟩
    rw [List.eq_of_mem_replicate hf]; rfl
/-! ### Lengths -/
inductive All2 {α β : Type} (R : α → β → Prop) : List α → List β → Prop where
  | nil : All2 R [] []
  | cons {a : α} {b : β} {l : List α} {m : List β} : R a b → All2 R l m → All2 R (a :: l) (b :: m)
theorem decDigits_mono : ∀ m n : Nat, n ≤ m → (Lib.decDigits n).length ≤ (Lib.decDigits m).length := by
  intro m
  induction m using Nat.strongRecOn with
  | _ m ih =>
    intro n h
    by_cases hn : n < 10
    · have h1 : (Lib.decDigits n).length = 1 := by rw [Lib.decDigits, dif_pos hn]; rfl
      have h2 := List.length_pos_iff.2 (decDigits_ne m)
      omega
    · have := ih (m / 10) (by omega) (n / 10) (by omega)
      rw [Lib.decDigits, dif_neg hn, Lib.decDigits.eq_def m, dif_neg (by omega), List.length_append, List.length_append]
      exact Nat.add_le_add_right this 1
theorem numB_mono {n m : Int} (h0 : 0 ≤ n) (h : n ≤ m) : (numB n).length ≤ (numB m).length := by
  obtain ⟨a, rfl⟩ := Int.eq_ofNat_of_zero_le h0
  obtain ⟨b, rfl⟩ := Int.eq_ofNat_of_zero_le (show 0 ≤ m by omega)
  unfold numB
  rw [itoa_nat, itoa_nat, List.length_append, List.length_append]
  have := decDigits_mono b a (by omega)
  omega
theorem txtB_mono {s t : Bytes} (h : s.length ≤ t.length) : (txtB s).length ≤ (txtB t).length := by
  unfold txtB
  rw [List.length_append, List.length_append]
  have := numB_mono (n := (s.length : Int)) (m := (t.length : Int)) (by omega) (by omega)
  omega
theorem flat_mono {α β : Type} (f : α → Bytes) (g : β → Bytes) (R : α → β → Prop) (hR : ∀ a b, R a b → (f a).length ≤ (g b).length) : ∀ {l : List α} {m : List β}, All2 R l m → (l.flatMap f).length ≤ (m.flatMap g).length
  | _, _, .nil => by simp
  | _, _, .cons h t => by
    rw [List.flatMap_cons, List.flatMap_cons, List.length_append, List.length_append]
    have := hR _ _ h
    have := flat_mono f g R hR t
    omega
theorem fates_all (c : UInt8) : ∀ (rs : List RcP) (fs : List FaP), fs.length = rs.length → (∀ f ∈ fs, wrongB f = false) →
    All2 (fun p q : RcP × FaP => p.1 = q.1 ∧ p.2.1 ≤ q.2.1 ∧ p.2.2.length ≤ q.2.2.length) (rs.zip fs) (rs.zip (List.replicate rs.length (2, List.replicate 128 c)))
  | [], [], _, _ => .nil
  | [], _ :: _, h, _ => by simp at h
  | _ :: _, [], h, _ => by simp at h
  | r :: rs, f :: fs, h, hw => by
    rw [List.length_cons, List.replicate_succ, List.zip_cons_cons, List.zip_cons_cons]
    have hf := wrong_len (hw f List.mem_cons_self)
    exact .cons ⟨rfl, hf.1, by show f.2.length ≤ (List.replicate 128 c).length; rw [List.length_replicate]; exact hf.2⟩ (fates_all c rs fs (by simpa using h) fun g hg => hw g (List.mem_cons_of_mem _ hg))
theorem jobs_all : ∀ (js : List JoP) (ds : List Bytes), jobsOk js ds = true → All2 (fun j k : JoP => j.dom = k.dom ∧ (0 ≤ j.tries ∧ j.tries ≤ k.tries) ∧ (0 ≤ j.due ∧ j.due ≤ k.due)) js (ds.map fun d => (⟨d, 99, 1099511627776⟩ : JoP))
  | [], [], _ => .nil
  | [], _ :: _, h => by simp [jobsOk] at h
  | _ :: _, [], h => by simp [jobsOk] at h
  | j :: js, d :: ds, h => by
    unfold jobsOk jobOk clockB at h
    simp only [Bool.and_eq_true, decide_eq_true_eq] at h
    rw [List.map_cons]
    exact .cons ⟨h.1.1, ⟨h.1.2.1, h.1.2.2.1⟩, h.1.2.2.2⟩ (jobs_all js ds h.2)
/-- What may be has no more bytes than the greatest. -/
theorem enc_most {x : EntP} (h : mayN x = true) (c : UInt8) : (encB x).length ≤ (encB (fullN c x.mail)).length := by
  have hm := (mayN_iff x).1 h
  have hid := hm.idc
  have hat := hm.at_
  unfold clockB at hid hat
  simp only [Bool.and_eq_true, decide_eq_true_eq] at hid hat
  have h1 := numB_mono hid.1 hid.2
  have h2 := numB_mono hat.1 hat.2
  have h3 := flat_mono rfB rfB _ (fun p q hR => by
    obtain ⟨⟨r, b⟩, f, t⟩ := p
    obtain ⟨⟨r2, b2⟩, f2, t2⟩ := q
    obtain ⟨e, e1, e2⟩ := hR
    dsimp only at e e1 e2
    cases e
    unfold rfB
    simp only [List.length_append]
    have := numB_mono (n := (f : Int)) (m := (f2 : Int)) (by omega) (by omega)
    have := txtB_mono e2
    omega) (fates_all c x.mail.rcpts x.fates hm.len hm.fates)
  have h4 := flat_mono joB joB _ (fun p q hR => by
    obtain ⟨e, e1, e2⟩ := hR
    unfold joB
    rw [e]
    simp only [List.length_append]
    have := numB_mono e1.1 e1.2
    have := numB_mono e2.1 e2.2
    omega) (jobs_all x.jobs _ hm.jobs)
  have h5 : (numB (x.fates.length : Int)).length = (numB ((List.replicate x.mail.rcpts.length ((2, List.replicate 128 c) : FaP)).length : Int)).length := by rw [hm.len]; simp
  have h6 : (numB (x.jobs.length : Int)).length = (numB (((domsM x.mail.rcpts).map fun d => (⟨d, 99, 1099511627776⟩ : JoP)).length : Int)).length := by rw [jobsOk_len hm.jobs]; simp
  unfold encB
  simp only [List.length_append]
  show _ ≤ (numB 1099511627776).length + ((numB 1099511627776).length + ((txtB x.mail.sender).length + ((yesB x.mail.req).length + ((txtB x.mail.envid).length + ((txtB x.mail.text).length + ((numB ((List.replicate x.mail.rcpts.length ((2, List.replicate 128 c) : FaP)).length : Int)).length + (((x.mail.rcpts.zip (List.replicate x.mail.rcpts.length ((2, List.replicate 128 c) : FaP))).flatMap rfB).length + ((numB (((domsM x.mail.rcpts).map fun d => (⟨d, 99, 1099511627776⟩ : JoP)).length : Int)).length + (((domsM x.mail.rcpts).map fun d => (⟨d, 99, 1099511627776⟩ : JoP)).flatMap joB).length))))))))
  omega
theorem encB_pos (x : EntP) : 0 < (encB x).length := by
  unfold encB numB
  simp only [List.length_append]
  have := decDigits_ne x.id.toNat
  simp; omega
theorem same_len (c d : UInt8) (m : MailP) : (encB (fullN c m)).length = (encB (fullN d m)).length := by
  have key : ∀ (a b : Bytes) (_ : a.length = b.length) (rs : List RcP) (n : Nat), ((rs.zip (List.replicate n ((2, a) : FaP))).flatMap rfB).length = ((rs.zip (List.replicate n ((2, b) : FaP))).flatMap rfB).length := by
    intro a b hab rs
    induction rs with
    | nil => intro n; simp
    | cons r rs ih =>
      intro n
      cases n with
      | zero => simp
      | succ n =>
        rw [List.replicate_succ, List.replicate_succ, List.zip_cons_cons, List.zip_cons_cons, List.flatMap_cons, List.flatMap_cons, List.length_append, List.length_append, ih n]
        congr 1
        simp [rfB, txtB, hab]
  unfold encB fullN makeN
  simp only [List.length_append, List.length_replicate]
  rw [key (List.replicate 128 c) (List.replicate 128 d) (by simp)]
end Go.Proofs.YtdlpdpelhkgnlaaGreatDoor
