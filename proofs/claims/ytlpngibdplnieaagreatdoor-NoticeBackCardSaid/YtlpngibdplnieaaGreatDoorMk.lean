/- Parts of the proof, joined: Eful, Eendp, Eenda, Eowp, Ntx. -/
import Derived.Test.YtlpngibdplnieaaGreatDoorMg
import Derived.Test.YtlpngibdplnieaaGreatDoorMf
import Derived.Test.YtlpngibdplnieaaGreatDoorEmay
import Derived.Test.YtlpngibdplnieaaGreatDoorMj
/- entry: Make, and the greatest entry of a mail: in plain Lean. -/
namespace Go.Proofs.YtlpngibdplnieaaGreatDoor
open Go
/-! ### Make -/
theorem jobsOk_map (t u : Int) (h0 : 0 ≤ t) (h1 : t ≤ 99) (hu : clockB u = true) : ∀ ds : List Bytes, jobsOk (ds.map fun d => (⟨d, t, u⟩ : JoP)) ds = true
  | [] => rfl
  | d :: ds => by
    rw [List.map_cons]
    unfold jobsOk jobOk
    rw [jobsOk_map t u h0 h1 hu ds]
    simp [h0, h1, hu]
/-- Every recipient with so long a fate, every job with so many tries. -/
def fullN (c : UInt8) (m : MailP) : EntP := { makeN 1099511627776 1099511627776 m with fates := List.replicate m.rcpts.length (2, List.replicate 128 c), jobs := (domsM m.rcpts).map fun d => ⟨d, 99, 1099511627776⟩ }
def mostN (m : MailP) : Nat := if mayN (fullN 119 m) then (encB (fullN 119 m)).length else 0
theorem wrong_full (c : UInt8) (hc : standsB c = true) : wrongB (2, List.replicate 128 c) = false := by
  unfold wrongB
  have : wordB (List.replicate 128 c) = List.replicate 128 c := by
    unfold wordB
    rw [List.filter_replicate, if_pos hc, List.take_replicate]; rfl
  generalize List.replicate 128 c = w at *
  simp [this]
theorem may_full (c : UInt8) (hc : standsB c = true) (m : MailP) : mayN (fullN c m) = decide (mailB m 4 4096 = 0) := by
  rw [Bool.eq_iff_iff, mayN_iff, decide_eq_true_eq]
  constructor
  · intro h; exact h.mail
  · intro h
    exact ⟨by show (1 : Int) ≤ 1099511627776; decide, rfl, rfl, h, rfl, by simp [fullN, makeN], fun f hf => by
      have := List.eq_of_mem_replicate hf
      rw [this]; exact wrong_full c hc, jobsOk_map 99 1099511627776 (by decide) (by decide) rfl _⟩
theorem may_make {id at_ : Int} {m : MailP} : mayN (makeN id at_ m) = (decide (1 ≤ id) && (clockB id && (clockB at_ && decide (mailB m 4 4096 = 0)))) := by
  rw [Bool.eq_iff_iff, mayN_iff]
  simp only [Bool.and_eq_true, decide_eq_true_eq]
  constructor
  · intro h; exact ⟨h.id, h.idc, h.at_, h.mail⟩
  · rintro ⟨h1, h2, h3, h4⟩
    refine ⟨h1, h2, h3, h4, rfl, by simp [makeN], fun f hf => ?_, jobsOk_map 0 at_ (by decide) (by decide) h3 _⟩
    rw [List.eq_of_mem_replicate hf]; rfl
/-! ### Lengths -/
inductive All2 {α β : Type} (R : α → β → Prop) : List α → List β → Prop where
  | nil : All2 R [] []
  | cons {a : α} {b : β} {l : List α} {m : List β} : R a b → All2 R l m → All2 R (a :: l) (b :: m)
theorem decDigits_mono : ∀ m n : Nat, n ≤ m → (Lib.decDigits n).length ≤ (Lib.decDigits m).length := by
  intro m
  induction m using Nat.strongRecOn with
  | _ m ih =>
    intro n h
    by_cases hn : n < 10
    · have h1 : (Lib.decDigits n).length = 1 := by rw [Lib.decDigits, dif_pos hn]; rfl
      have h2 := List.length_pos_iff.2 (decDigits_ne m)
      omega
    · have := ih (m / 10) (by omega) (n / 10) (by omega)
      rw [Lib.decDigits, dif_neg hn, Lib.decDigits.eq_def m, dif_neg (by omega), List.length_append, List.length_append]
      exact Nat.add_le_add_right this 1
theorem numB_mono {n m : Int} (h0 : 0 ≤ n) (h : n ≤ m) : (numB n).length ≤ (numB m).length := by
  obtain ⟨a, rfl⟩ := Int.eq_ofNat_of_zero_le h0
  obtain ⟨b, rfl⟩ := Int.eq_ofNat_of_zero_le (show 0 ≤ m by omega)
  unfold numB
  rw [itoa_nat, itoa_nat, List.length_append, List.length_append]
  have := decDigits_mono b a (by omega)
  omega
theorem txtB_mono {s t : Bytes} (h : s.length ≤ t.length) : (txtB s).length ≤ (txtB t).length := by
  unfold txtB
  rw [List.length_append, List.length_append]
  have := numB_mono (n := (s.length : Int)) (m := (t.length : Int)) (by omega) (by omega)
  omega
theorem flat_mono {α β : Type} (f : α → Bytes) (g : β → Bytes) (R : α → β → Prop) (hR : ∀ a b, R a b → (f a).length ≤ (g b).length) : ∀ {l : List α} {m : List β}, All2 R l m → (l.flatMap f).length ≤ (m.flatMap g).length
  | _, _, .nil => by simp
  | _, _, .cons h t => by
    rw [List.flatMap_cons, List.flatMap_cons, List.length_append, List.length_append]
    have := hR _ _ h
    have := flat_mono f g R hR t
    omega
theorem fates_all (c : UInt8) : ∀ (rs : List RcP) (fs : List FaP), fs.length = rs.length → (∀ f ∈ fs, wrongB f = false) →
    All2 (fun p q : RcP × FaP => p.1 = q.1 ∧ p.2.1 ≤ q.2.1 ∧ p.2.2.length ≤ q.2.2.length) (rs.zip fs) (rs.zip (List.replicate rs.length (2, List.replicate 128 c)))
  | [], [], _, _ => .nil
  | [], _ :: _, h, _ => by simp at h
  | _ :: _, [], h, _ => by simp at h
  | r :: rs, f :: fs, h, hw => by
    rw [List.length_cons, List.replicate_succ, List.zip_cons_cons, List.zip_cons_cons]
    have hf := wrong_len (hw f List.mem_cons_self)
    exact .cons ⟨rfl, hf.1, by show f.2.length ≤ (List.replicate 128 c).length; rw [List.length_replicate]; exact hf.2⟩ (fates_all c rs fs (by simpa using h) fun g hg => hw g (List.mem_cons_of_mem _ hg))
theorem jobs_all : ∀ (js : List JoP) (ds : List Bytes), jobsOk js ds = true → All2 (fun j k : JoP => j.dom = k.dom ∧ (0 ≤ j.tries ∧ j.tries ≤ k.tries) ∧ (0 ≤ j.due ∧ j.due ≤ k.due)) js (ds.map fun d => (⟨d, 99, 1099511627776⟩ : JoP))
  | [], [], _ => .nil
  | [], _ :: _, h => by simp [jobsOk] at h
  | _ :: _, [], h => by simp [jobsOk] at h
  | j :: js, d :: ds, h => by
    unfold jobsOk jobOk clockB at h
    simp only [Bool.and_eq_true, decide_eq_true_eq] at h
    rw [List.map_cons]
    exact .cons ⟨h.1.1, ⟨h.1.2.1, h.1.2.2.1⟩, h.1.2.2.2⟩ (jobs_all js ds h.2)
/-- What may be has no more bytes than the greatest. -/
theorem enc_most {x : EntP} (h : mayN x = true) (c : UInt8) : (encB x).length ≤ (encB (fullN c x.mail)).length := by
  have hm := (mayN_iff x).1 h
  have hid := hm.idc
  have hat := hm.at_
  unfold clockB at hid hat
  simp only [Bool.and_eq_true, decide_eq_true_eq] at hid hat
  have h1 := numB_mono hid.1 hid.2
  have h2 := numB_mono hat.1 hat.2
  have h3 := flat_mono rfB rfB _ (fun p q hR => by
    obtain ⟨⟨r, b⟩, f, t⟩ := p
    obtain ⟨⟨r2, b2⟩, f2, t2⟩ := q
    obtain ⟨e, e1, e2⟩ := hR
    dsimp only at e e1 e2
    cases e
    unfold rfB
    simp only [List.length_append]
    have := numB_mono (n := (f : Int)) (m := (f2 : Int)) (by omega) (by omega)
    have := txtB_mono e2
    omega) (fates_all c x.mail.rcpts x.fates hm.len hm.fates)
  have h4 := flat_mono joB joB _ (fun p q hR => by
    obtain ⟨e, e1, e2⟩ := hR
    unfold joB
    rw [e]
    simp only [List.length_append]
    have := numB_mono e1.1 e1.2
    have := numB_mono e2.1 e2.2
    omega) (jobs_all x.jobs _ hm.jobs)
  have h5 : (numB (x.fates.length : Int)).length = (numB ((List.replicate x.mail.rcpts.length ((2, List.replicate 128 c) : FaP)).length : Int)).length := by rw [hm.len]; simp
  have h6 : (numB (x.jobs.length : Int)).length = (numB (((domsM x.mail.rcpts).map fun d => (⟨d, 99, 1099511627776⟩ : JoP)).length : Int)).length := by rw [jobsOk_len hm.jobs]; simp
  unfold encB
  simp only [List.length_append]
  show _ ≤ (numB 1099511627776).length + ((numB 1099511627776).length + ((txtB x.mail.sender).length + ((yesB x.mail.req).length + ((txtB x.mail.envid).length + ((txtB x.mail.text).length + ((numB ((List.replicate x.mail.rcpts.length ((2, List.replicate 128 c) : FaP)).length : Int)).length + (((x.mail.rcpts.zip (List.replicate x.mail.rcpts.length ((2, List.replicate 128 c) : FaP))).flatMap rfB).length + ((numB (((domsM x.mail.rcpts).map fun d => (⟨d, 99, 1099511627776⟩ : JoP)).length : Int)).length + (((domsM x.mail.rcpts).map fun d => (⟨d, 99, 1099511627776⟩ : JoP)).flatMap joB).length))))))))
  omega
theorem encB_pos (x : EntP) : 0 < (encB x).length := by
  unfold encB numB
  simp only [List.length_append]
  have := decDigits_ne x.id.toNat
  simp; omega
theorem same_len (c d : UInt8) (m : MailP) : (encB (fullN c m)).length = (encB (fullN d m)).length := by
  have key : ∀ (a b : Bytes) (_ : a.length = b.length) (rs : List RcP) (n : Nat), ((rs.zip (List.replicate n ((2, a) : FaP))).flatMap rfB).length = ((rs.zip (List.replicate n ((2, b) : FaP))).flatMap rfB).length := by
    intro a b hab rs
    induction rs with
    | nil => intro n; simp
    | cons r rs ih =>
      intro n
      cases n with
      | zero => simp
      | succ n =>
        rw [List.replicate_succ, List.replicate_succ, List.zip_cons_cons, List.zip_cons_cons, List.flatMap_cons, List.flatMap_cons, List.length_append, List.length_append, ih n]
        congr 1
        simp [rfB, txtB, hab]
  unfold encB fullN makeN
  simp only [List.length_append, List.length_replicate]
  rw [key (List.replicate 128 c) (List.replicate 128 d) (by simp)]
end Go.Proofs.YtlpngibdplnieaaGreatDoor

/- entry: End, in plain Lean. -/
namespace Go.Proofs.YtlpngibdplnieaaGreatDoor
open Go
/-! ### End -/
def putF (fs : List FaP) (w : List Nat) (l : List FaP) : Nat → List FaP
  | 0 => fs
  | p + 1 => match w[p]?, l[p]? with
    | some i, some f => (putF fs w l p).set i f
    | _, _ => putF fs w l p
def jobAt (js : List JoP) (d : Bytes) : Option Nat := js.findIdx? fun j => decide (j.dom = d)
def bumpJ (j : JoP) (due : Int) : JoP := ⟨j.dom, min 98 j.tries + 1, due⟩
def zeroN : EntP := ⟨0, 0, ⟨[], [], false, [], []⟩, false, [], []⟩
def endX (x : EntP) (k : Nat) (w : List Nat) (l : List FaP) (due : Int) : EntP := { x with fates := putF x.fates w l l.length, jobs := x.jobs.modify k fun j => bumpJ j due }
def endN (x : EntP) (d : Bytes) (l : List FaP) (due : Int) : EntP × Nat := match jobAt x.jobs d with
  | none => (zeroN, 5)
  | some k => if waitsM x d = [] then (zeroN, 5) else if l.length ≠ (waitsM x d).length ∨ clockB due = false ∨ l.any wrongB = true then (zeroN, 4) else (endX x k (waitsM x d) l due, 0)
/-- What a fate is to be behind so many of the new ones; whether it is a new one. -/
def wantP (w : List Nat) (l : List FaP) (n : Nat) (v : FaP) : Nat → FaP × Nat
  | 0 => (v, 0)
  | p + 1 => match w[p]?, l[p]? with
    | some i, some f => if i = n then (f, 1) else wantP w l n v p
    | _, _ => wantP w l n v p
theorem putF_len (fs : List FaP) (w : List Nat) (l : List FaP) : ∀ p, (putF fs w l p).length = fs.length
  | 0 => rfl
  | p + 1 => by
    unfold putF
    split
    · rw [List.length_set, putF_len fs w l p]
    · exact putF_len fs w l p
theorem putF_get (fs : List FaP) (w : List Nat) (l : List FaP) (n : Nat) (hn : n < fs.length) : ∀ p, (putF fs w l p)[n]? = some (wantP w l n fs[n] p).1
  | 0 => by simp [putF, wantP]
  | p + 1 => by
    unfold putF wantP
    split
    · rename_i i f h1 h2
      rw [List.getElem?_set]
      by_cases h : i = n
      · subst h
        rw [if_pos rfl, if_pos rfl, if_pos (by rw [putF_len]; exact hn)]
      · rw [if_neg h, if_neg h, putF_get fs w l n hn p]
    · exact putF_get fs w l n hn p
theorem wantP_mem (w : List Nat) (l : List FaP) (n : Nat) (v : FaP) : ∀ p, (wantP w l n v p).2 = 1 → n ∈ w
  | 0, h => by simp [wantP] at h
  | p + 1, h => by
    unfold wantP at h
    split at h
    · rename_i i f h1 h2
      by_cases e : i = n
      · subst e; exact List.mem_of_getElem? h1
      · rw [if_neg e] at h; exact wantP_mem w l n v p h
    · exact wantP_mem w l n v p h
theorem putF_mem (fs : List FaP) (w : List Nat) (l : List FaP) : ∀ p, ∀ f ∈ putF fs w l p, f ∈ fs ∨ f ∈ l
  | 0, f, h => .inl h
  | p + 1, f, h => by
    unfold putF at h
    split at h
    · rename_i i g h1 h2
      rcases List.mem_or_eq_of_mem_set h with h | rfl
      · exact putF_mem fs w l p f h
      · exact .inr (List.mem_of_getElem? h2)
    · exact putF_mem fs w l p f h
theorem plcB_mem (cnt : RcP → FaP → Bool) (l : List (RcP × FaP)) (n i : Nat) : i ∈ plcB cnt l n ↔ i < n ∧ ∃ p, l[i]? = some p ∧ cnt p.1 p.2 = true := by
  unfold plcB
  rw [List.mem_filter, List.mem_range]
  constructor
  · rintro ⟨h1, h2⟩
    cases h : l[i]? with
    | none => rw [h] at h2; cases h2
    | some p => rw [h] at h2; exact ⟨h1, p, rfl, h2⟩
  · rintro ⟨h1, p, h2, h3⟩
    rw [h2]; exact ⟨h1, h3⟩
theorem waits_mem {x : EntP} {d : Bytes} {i : Nat} (h : i ∈ waitsM x d) : ∃ (h1 : i < x.mail.rcpts.length) (h2 : i < x.fates.length), waitB x.fates[i] = true ∧ ofB x.mail.rcpts[i] d = true := by
  unfold waitsM plcM at h
  rw [plcB_mem] at h
  obtain ⟨h1, p, h2, h3⟩ := h
  rw [List.length_zip] at h1
  have h4 : i < x.mail.rcpts.length := by omega
  have h5 : i < x.fates.length := by omega
  refine ⟨h4, h5, ?_⟩
  rw [List.getElem?_eq_getElem (by rw [List.length_zip]; omega), List.getElem_zip] at h2
  injection h2 with h2
  subst h2
  unfold waitOf at h3
  rw [Bool.and_eq_true] at h3
  exact h3
theorem jobsOk_dom : ∀ {l : List JoP} {ds : List Bytes}, jobsOk l ds = true → l.map (·.dom) = ds
  | [], [], _ => rfl
  | [], _ :: _, h => by simp [jobsOk] at h
  | _ :: _, [], h => by simp [jobsOk] at h
  | j :: l, d :: ds, h => by
    unfold jobsOk jobOk at h
    simp only [Bool.and_eq_true, decide_eq_true_eq] at h
    rw [List.map_cons, jobsOk_dom h.2, h.1.1]
theorem jobsOk_mod (due : Int) (hd : clockB due = true) : ∀ {l : List JoP} {ds : List Bytes} (k : Nat), jobsOk l ds = true → jobsOk (l.modify k fun j => bumpJ j due) ds = true
  | [], [], k, _ => by cases k <;> rfl
  | [], _ :: _, _, h => by simp [jobsOk] at h
  | _ :: _, [], _, h => by simp [jobsOk] at h
  | j :: l, d :: ds, 0, h => by
    rw [List.modify_zero_cons]
    unfold jobsOk at h ⊢
    rw [Bool.and_eq_true] at h ⊢
    refine ⟨?_, h.2⟩
    have := h.1
    unfold jobOk bumpJ at *
    simp only [Bool.and_eq_true, decide_eq_true_eq] at this ⊢
    exact ⟨this.1, by omega, by omega, hd⟩
  | j :: l, d :: ds, k + 1, h => by
    rw [List.modify_succ_cons]
    unfold jobsOk at h ⊢
    rw [Bool.and_eq_true] at h ⊢
    exact ⟨h.1, jobsOk_mod due hd k h.2⟩
/-- What may be may be behind an End. -/
theorem may_end {x : EntP} {d : Bytes} {l : List FaP} {due : Int} (h : mayN x = true) (he : (endN x d l due).2 = 0) : ∃ k, jobAt x.jobs d = some k ∧ (endN x d l due).1 = endX x k (waitsM x d) l due ∧ l.length = (waitsM x d).length ∧ clockB due = true ∧ mayN (endX x k (waitsM x d) l due) = true := by
  unfold endN at he ⊢
  cases hk : jobAt x.jobs d with
  | none => rw [hk] at he; simp at he
  | some k =>
    rw [hk] at he
    dsimp only at he ⊢
    by_cases h1 : waitsM x d = []
    · rw [if_pos h1] at he; simp at he
    · rw [if_neg h1] at he ⊢
      by_cases h2 : l.length ≠ (waitsM x d).length ∨ clockB due = false ∨ l.any wrongB = true
      · rw [if_pos h2] at he; simp at he
      · rw [if_neg h2]
        simp only [not_or, ne_eq, Decidable.not_not, Bool.not_eq_false, Bool.not_eq_true] at h2
        refine ⟨k, rfl, rfl, h2.1, h2.2.1, ?_⟩
        have hm := (mayN_iff x).1 h
        refine (mayN_iff _).2 ⟨hm.id, hm.idc, hm.at_, hm.mail, hm.plain, ?_, fun f hf => ?_, jobsOk_mod due h2.2.1 k hm.jobs⟩
        · show (putF x.fates (waitsM x d) l l.length).length = _
          rw [putF_len]; exact hm.len
        · rcases putF_mem _ _ _ _ _ hf with hf | hf
          · exact hm.fates f hf
          · have h4 := h2.2.2
            rw [List.any_eq_false] at h4
            simpa using h4 f hf
end Go.Proofs.YtlpngibdplnieaaGreatDoor

/- entry.End: its pieces. -/
namespace Go.Proofs.YtlpngibdplnieaaGreatDoor
open Go Go.RowKit Go.Shelf Go.Sort
attribute [local go_sem] bneI

theorem enterEnd : ∀ args w, (callFunc 69 args).run Tryz.prog w = .ok (.enter 69 args) w := enters_of Tryz.func69 (by kernel_rfl) rfl
set_option maxRecDepth 100000 in
theorem endEq_any (d : Bytes) (b : Nat) (j : JoP) (w : World) (hd : w.cell? ⟨b, 0, none⟩ = some (.string ⟨d.toArray⟩)) :
    Calls Tryz.prog 69 (#[.agg (joE j).toArray] ++ #[.pointer (some ⟨b, 0, none⟩)]) w fun e w' => e = .returned (.bool (decide (j.dom = d))) ∧ Below w.heap.size w w' := by
  obtain ⟨dm, tr, du⟩ := j
  unfold joE
  dsimp only
  show Calls Tryz.prog 69 #[.agg #[.string ⟨dm.toArray⟩, .int .i64 tr, .int .i64 du], .pointer (some ⟨b, 0, none⟩)] w _
  obtain ⟨W1, hW1⟩ : ∃ W1, W1 = (w.alloc (.cells #[.string ⟨dm.toArray⟩, .int .i64 tr, .int .i64 du] 71)) := ⟨_, rfl⟩
  have hB1 : Below w.heap.size w W1 := by rw [hW1]; exact (Below.refl _ w).alloc (Nat.le_refl _) _
  have hb1 : W1.heap[w.heap.size]? = some (.cells #[.string ⟨dm.toArray⟩, .int .i64 tr, .int .i64 du] 71 (0, 0)) := by rw [hW1]; exact ha_eq rfl
  obtain ⟨x0, x1, x2⟩ := jbox hb1
  have hd1 : W1.cell? ⟨b, 0, none⟩ = some (.string ⟨d.toArray⟩) := (hB1.cell (p := ⟨_, _, none⟩) (cell_lt hd)).trans hd
  have HB := Lib.hid hB1
  clear hB1 hb1 hd
  by_cases h1 : dm = d
  · subst h1
    go_enter Tryz.func69, Tryz.ntmps69
    go_upto_region 1 with (fail)
    rw [← hW1]
    clear hW1
    go_wp2
    refine bodyPost_ret (v := .bool true) (by simp [results, Tryz.results69, go_sem]) rfl ⟨by simp, HB.out⟩
  · have hne : (dm == d) = false := by simpa using h1
    go_enter Tryz.func69, Tryz.ntmps69
    go_upto_region 1 with (fail)
    rw [← hW1]
    clear hW1
    go_wp2
    refine bodyPost_ret (v := .bool false) (by simp [results, Tryz.results69, go_sem]) rfl ⟨by simp [h1], HB.out⟩
theorem ix_jobAt {js : List JoP} {d : Bytes} {e : Ending} (h : IxPost (fun j : JoP => decide (j.dom = d)) js e) : (e = .returned (.int .i64 (-1)) ∧ jobAt js d = none) ∨ ∃ i, i < js.length ∧ e = .returned (.int .i64 (i : Int)) ∧ jobAt js d = some i := by
  rcases h with ⟨rfl, h⟩ | ⟨i, hi, rfl, h1, h2⟩
  · refine .inl ⟨rfl, ?_⟩
    unfold jobAt
    rw [List.findIdx?_eq_none_iff]
    intro x hx
    obtain ⟨j, hj, rfl⟩ := List.getElem_of_mem hx
    exact h j hj
  · refine .inr ⟨i, hi, rfl, ?_⟩
    unfold jobAt
    rw [List.findIdx?_eq_some_iff_getElem]
    exact ⟨hi, h1, fun j hj => by have := h2 j (by omega) hj; dsimp only at this; rw [this]; simp⟩
theorem own_seta {W : World} {base g : Nat} {T : TypeId} {k n cap a : Nat} {ys : List Value} (h : W.ownsRow base T k (.slice (some ⟨g, 0, none⟩) n cap) n ys) (u : Value) : (W.setCell ⟨g, a, none⟩ u).ownsRow base T k (.slice (some ⟨g, 0, none⟩) n cap) n (ys.set a u) := by
  refine ⟨by rw [List.length_set]; exact h.1, ?_⟩
  rcases h.2 with ⟨e, _⟩ | ⟨g', cap', cur, e, hg, hc, h1, h2, h3, h4⟩
  · cases e
  · cases e
    refine .inr ⟨g, cap, cur.setIfInBounds a u, rfl, hg, heap_setE hc, h1, h2, by rw [Array.size_setIfInBounds]; exact h3, ?_⟩
    rw [Array.toList_setIfInBounds, List.take_set, h4]
theorem flat_set2 {α : Type} {enc : α → List Value} (he : ∀ x, ∃ a b, enc x = [a, b]) {x : α} {u0 u1 : Value} (hx : enc x = [u0, u1]) : ∀ (xs : List α) (i : Nat), ((xs.flatMap enc).set (i * 2) u0).set (i * 2 + 1) u1 = (xs.set i x).flatMap enc
  | [], i => by simp
  | y :: ys, 0 => by
    obtain ⟨a, b, h⟩ := he y
    simp [h, hx]
  | y :: ys, i + 1 => by
    obtain ⟨a, b, h⟩ := he y
    rw [show (i + 1) * 2 = i * 2 + 1 + 1 by omega]
    simp only [List.flatMap_cons, h, List.cons_append, List.nil_append, List.set_cons_succ]
    rw [flat_set2 he hx ys i]
theorem flat_bump (due : Int) : ∀ (js : List JoP) (k : Nat) (j : JoP), js[k]? = some j → ((js.flatMap joE).set (k * 3 + 1) (.int .i64 (min 98 j.tries + 1))).set (k * 3 + 2) (.int .i64 due) = (js.modify k fun j => bumpJ j due).flatMap joE
  | [], k, j, h => by simp at h
  | y :: ys, 0, j, h => by
    simp at h
    subst h
    simp [joE, bumpJ]
  | y :: ys, k + 1, j, h => by
    rw [show (k + 1) * 3 = k * 3 + 1 + 1 + 1 by omega]
    simp only [List.flatMap_cons, joE, List.cons_append, List.nil_append, List.set_cons_succ, List.modify_succ_cons]
    rw [← flat_bump due ys k j (by simpa using h)]
/-- The entry under way in End. -/
structure EndL (w : World) (x : EntP) (B : Nat) (ws : List Nat) (wv sv fv jv : Value) (wr : World) : Prop where
  below : Below w.heap.size w wr
  box : wr.heap[w.heap.size]? = some (.cells (entC x sv fv jv).toArray 28 (0, 0))
  own : OwnE wr B x sv fv jv
  idx : wr.ownsRow (w.heap.size + 3) 3 1 wv ws.length (ws.map natV)
  res : wr.heap[w.heap.size + 2]? = some (.cells zeroC 28 (0, 0))
  ge : w.heap.size + 3 ≤ B
theorem EndL.keep {w wr w3 : World} {x : EntP} {B : Nat} {ws : List Nat} {wv sv fv jv : Value} (h : EndL w x B ws wv sv fv jv wr) (hb : Below wr.heap.size wr w3) : EndL w x B ws wv sv fv jv w3 := by
  have hg := grownBy_of_below hb none
  exact ⟨h.below.trans (hb.mono h.below.size), (hb.block _ (lt_of_cells h.box)).trans h.box, ⟨h.own.rc.kept hg (Classical.em _), h.own.fa.kept hg (Classical.em _), h.own.jo.kept hg (Classical.em _)⟩, h.idx.kept hg (Classical.em _), (hb.block _ (lt_of_cells h.res)).trans h.res, h.ge⟩
theorem own_block {W : World} {base g : Nat} {T : TypeId} {k n cap : Nat} {ys : List Value} (h : W.ownsRow base T k (.slice (some ⟨g, 0, none⟩) n cap) n ys) : base ≤ g ∧ n ≤ cap ∧ ∃ cur, W.heap[g]? = some (.cells cur T (0, 0)) ∧ cur.size = cap * k ∧ cur.toList.take (n * k) = ys := by
  rcases h.2 with ⟨e, _⟩ | ⟨g', cap', cur, e, hg, hc, h1, h2, h3, h4⟩
  · cases e
  · cases e
    exact ⟨hg, h1, cur, hc, h3, h4⟩
theorem own_pos {W : World} {base : Nat} {T : TypeId} {k n : Nat} {v : Value} {ys : List Value} (h : W.ownsRow base T k v n ys) (hn : 0 < n) : ∃ g cap, v = .slice (some ⟨g, 0, none⟩) n cap := by
  rcases h.2 with ⟨_, e⟩ | ⟨g', cap', cur, e, _⟩
  · omega
  · exact ⟨_, _, e⟩
theorem faE_two : ∀ x : FaP, ∃ a b, faE x = [a, b] := fun _ => ⟨_, _, rfl⟩
theorem EndL.step {w wr : World} {x : EntP} {B g k cap : Nat} {ws : List Nat} {wv sv jv : Value} (h : EndL w x B ws wv sv (.slice (some ⟨g, 0, none⟩) x.fates.length cap) jv wr) (f : FaP) :
    EndL w { x with fates := x.fates.set k f } B ws wv sv (.slice (some ⟨g, 0, none⟩) x.fates.length cap) jv ((wr.setCell ⟨g, k * 2, none⟩ (.int .u8 (f.1 : Int))).setCell ⟨g, k * 2 + 1, none⟩ (.string ⟨f.2.toArray⟩)) := by
  have hf := own_seta h.own.fa (a := k * 2) (.int .u8 (f.1 : Int))
  have hf2 := own_seta hf (a := k * 2 + 1) (.string ⟨f.2.toArray⟩)
  obtain ⟨hg, -, cur, hc, -, -⟩ := own_block h.own.fa
  obtain ⟨-, -, cur2, hc2, -, -⟩ := own_block hf
  rw [flat_set2 faE_two (x := f) rfl] at hf2
  have hrc := own_set1 (u := .int .u8 (f.1 : Int)) (o := k * 2) h.own.rc hc (by decide)
  have hjo := own_set1 (u := .int .u8 (f.1 : Int)) (o := k * 2) h.own.jo hc (by decide)
  have hix := own_set1 (u := .int .u8 (f.1 : Int)) (o := k * 2) h.idx hc (by decide)
  have hne : ∀ (W : World) (cur : Array Value) (a : Nat) (u : Value) (b : Nat) (cs : Array Value), W.heap[g]? = some (Obj.cells cur 61 (0, 0)) → W.heap[b]? = some (Obj.cells cs 28 (0, 0)) → (W.setCell ⟨g, a, none⟩ u).heap[b]? = some (Obj.cells cs 28 (0, 0)) := by
    intro W cur a u b cs hc hb
    rw [Below.heap_setCell _ _ _ b (fun e => ?_)]
    · exact hb
    · have e2 : b = g := e
      subst e2
      rw [hc] at hb
      injection hb with hb
      injection hb with _ hb _
      exact absurd hb (by decide)
  have hge : w.heap.size ≤ g := by have := h.ge; omega
  refine ⟨(h.below.setCell (p := ⟨g, _, none⟩) hge _).setCell (p := ⟨g, _, none⟩) hge _, hne _ _ _ _ _ _ hc2 (hne _ _ _ _ _ _ hc h.box), ⟨own_set1 hrc hc2 (by decide), ?_, own_set1 hjo hc2 (by decide)⟩, own_set1 hix hc2 (by decide), hne _ _ _ _ _ _ hc2 (hne _ _ _ _ _ _ hc h.res), h.ge⟩
  show World.ownsRow _ _ _ _ _ (x.fates.set k f).length _
  rw [List.length_set]
  exact hf2
theorem EndL.bump {w wr : World} {x : EntP} {B g k cap : Nat} {ws : List Nat} {wv sv fv : Value} {j : JoP} (h : EndL w x B ws wv sv fv (.slice (some ⟨g, 0, none⟩) x.jobs.length cap) wr) (hj : x.jobs[k]? = some j) (due : Int) :
    EndL w { x with jobs := x.jobs.modify k fun j => bumpJ j due } B ws wv sv fv (.slice (some ⟨g, 0, none⟩) x.jobs.length cap) ((wr.setCell ⟨g, k * 3 + 1, none⟩ (.int .i64 (min 98 j.tries + 1))).setCell ⟨g, k * 3 + 2, none⟩ (.int .i64 due)) := by
  have hk : k < x.jobs.length := (List.getElem?_eq_some_iff.1 hj).1
  have hf := own_seta h.own.jo (a := k * 3 + 1) (.int .i64 (min 98 j.tries + 1))
  have hf2 := own_seta hf (a := k * 3 + 2) (.int .i64 due)
  obtain ⟨hg, -, cur, hc, -, -⟩ := own_block h.own.jo
  obtain ⟨-, -, cur2, hc2, -, -⟩ := own_block hf
  rw [flat_bump due x.jobs k j hj] at hf2
  have hrc := own_set1 (u := .int .i64 (min 98 j.tries + 1)) (o := k * 3 + 1) h.own.rc hc (by decide)
  have hfa := own_set1 (u := .int .i64 (min 98 j.tries + 1)) (o := k * 3 + 1) h.own.fa hc (by decide)
  have hix := own_set1 (u := .int .i64 (min 98 j.tries + 1)) (o := k * 3 + 1) h.idx hc (by decide)
  have hne : ∀ (W : World) (cur : Array Value) (a : Nat) (u : Value) (b : Nat) (cs : Array Value), W.heap[g]? = some (Obj.cells cur 71 (0, 0)) → W.heap[b]? = some (Obj.cells cs 28 (0, 0)) → (W.setCell ⟨g, a, none⟩ u).heap[b]? = some (Obj.cells cs 28 (0, 0)) := by
    intro W cur a u b cs hc hb
    rw [Below.heap_setCell _ _ _ b (fun e => ?_)]
    · exact hb
    · have e2 : b = g := e
      subst e2
      rw [hc] at hb
      injection hb with hb
      injection hb with _ hb _
      exact absurd hb (by decide)
  have hge : w.heap.size ≤ g := by have := h.ge; omega
  refine ⟨(h.below.setCell (p := ⟨g, _, none⟩) hge _).setCell (p := ⟨g, _, none⟩) hge _, hne _ _ _ _ _ _ hc2 (hne _ _ _ _ _ _ hc h.box), ⟨own_set1 hrc hc2 (by decide), own_set1 hfa hc2 (by decide), ?_⟩, own_set1 hix hc2 (by decide), hne _ _ _ _ _ _ hc2 (hne _ _ _ _ _ _ hc h.res), h.ge⟩
  show World.ownsRow _ _ _ _ _ (x.jobs.modify k fun j => bumpJ j due).length _
  rw [List.length_modify]
  exact hf2
end Go.Proofs.YtlpngibdplnieaaGreatDoor

/- Own rows are read. -/
namespace Go.Proofs.YtlpngibdplnieaaGreatDoor
open Go Go.RowKit Go.Shelf Go.Sort
attribute [local go_sem] bneI

theorem flat_at {α : Type} {k : Nat} {enc : α → List Value} (h : ∀ x, (enc x).length = k) : ∀ (xs : List α) (i : Nat) (hi : i < xs.length) (j : Nat) (u : Value), (enc xs[i])[j]? = some u → (xs.flatMap enc)[i * k + j]? = some u
  | [], i, hi, j, u, _ => by simp at hi
  | x :: xs, 0, _, j, u, hu => by
    have hj : j < (enc x).length := (List.getElem?_eq_some_iff.1 hu).1
    rw [List.flatMap_cons, Nat.zero_mul, Nat.zero_add, List.getElem?_append_left hj]
    exact hu
  | x :: xs, i + 1, hi, j, u, hu => by
    rw [List.flatMap_cons, List.getElem?_append_right (by rw [h, Nat.succ_mul]; omega), h, show (i + 1) * k + j - k = i * k + j by rw [Nat.succ_mul]; omega]
    exact flat_at h xs i (by simpa using hi) j u (by simpa using hu)
theorem own_rowK {α : Type} {k : Nat} {enc : α → List Value} (he : ∀ x, (enc x).length = k) {w : World} {base : Nat} {T : TypeId} {v : Value} {xs : List α} (h : w.ownsRow base T k v xs.length (xs.flatMap enc)) : RowK k enc w v xs := by
  rcases h.2 with ⟨rfl, h0⟩ | ⟨g, cap, cur, rfl, _, hc, hnc, _, hs, ht⟩
  · have : xs = [] := List.eq_nil_of_length_eq_zero h0
    subst this
    exact RowK.nil
  · refine ⟨some ⟨g, 0, none⟩, cap, rfl, hnc, fun _ => ⟨g, 0, rfl, fun i hi j u hu => ?_⟩⟩
    have h1 := flat_at he xs i hi j u hu
    rw [← ht, List.getElem?_take] at h1
    split at h1
    · simp only [World.cell?, hc, Nat.zero_add]
      rw [← Array.getElem?_toList, h1]
      rfl
    · cases h1
theorem OwnE.at {w : World} {base : Nat} {x : EntP} {sv fv jv : Value} (h : OwnE w base x sv fv jv) : EntAt w x sv fv jv := ⟨own_rowK (k := 2) (enc := rcE) (fun _ => rfl) h.rc, own_rowK (k := 2) (enc := faE) (fun _ => rfl) h.fa, own_rowK (k := 3) (enc := joE) (fun _ => rfl) h.jo⟩
def naE (n : Nat) : List Value := [natV n]
theorem flat_na : ∀ ws : List Nat, ws.flatMap naE = ws.map natV
  | [] => rfl
  | a :: l => by rw [List.flatMap_cons, flat_na l]; rfl
theorem own_nat {w : World} {base : Nat} {T : TypeId} {v : Value} {ws : List Nat} (h : w.ownsRow base T 1 v ws.length (ws.map natV)) : RowK 1 naE w v ws := by
  refine own_rowK (k := 1) (enc := naE) (base := base) (T := T) (fun _ => rfl) ?_
  rw [flat_na]
  exact h
end Go.Proofs.YtlpngibdplnieaaGreatDoor

/- notice.Text. -/
namespace Go.Proofs.YtlpngibdplnieaaGreatDoor
open Go Go.RowKit Go.Shelf Go.Sort
attribute [local go_sem] bneI

/-- A notice's text. -/
def textN (n : NotP) : Bytes := noteB n (Lib.itoa n.id) (Lib.itoa n.at_)
def TextPost (n : NotP) (e : Ending) : Prop := (mayNot n = true ∧ e = .returned (.tuple #[.string ⟨(textN n).toArray⟩, .int .i64 0])) ∨ (mayNot n = false ∧ e = .returned (.tuple #[.string ⟨#[]⟩, .int .i64 4]))
structure MayO (n : NotP) : Prop where
  id : 0 < n.id
  idc : clockB n.id = true
  at_ : clockB n.at_ = true
  host : mayB n.host = true
  dest : addrB n.dest = true
  envid : envidB n.envid = true
  pos : 0 < n.failed.length
  few : n.failed.length ≤ 4
  each : n.failed.any badFl = false
theorem mayNot_iff (n : NotP) : mayNot n = true ↔ MayO n := by
  unfold mayNot
  simp only [Bool.and_eq_true, decide_eq_true_eq, Bool.not_eq_true']
  exact ⟨fun ⟨h1, h2, h3, h4, h5, h6, h7, h8, h9⟩ => ⟨h1, h2, h3, h4, h5, h6, h7, h8, h9⟩, fun ⟨h1, h2, h3, h4, h5, h6, h7, h8, h9⟩ => ⟨h1, h2, h3, h4, h5, h6, h7, h8, h9⟩⟩
theorem clockN_le {n : Int} (h : clockB n = true) : 0 ≤ n ∧ n ≤ 1000000000000000 := by
  unfold clockB at h
  simp only [Bool.and_eq_true, decide_eq_true_eq] at h
  omega
theorem noteB_ne (n : NotP) (ids ats : Bytes) : noteB n ids ats ≠ [] := by
  unfold noteB pcZ lineB
  simp
/-- The rows of failures, as the lines want them. -/
theorem fl_rows {w : World} {base g c : Nat} {fs : List FlP} (h : w.ownsRow base 55 3 (.slice (some ⟨g, 0, none⟩) fs.length c) fs.length (fs.flatMap flE)) :
    ∃ cur, w.heap[g]? = some (.cells cur 55 (0, 0)) ∧ ∀ i f, fs[i]? = some f → cur[i * 3]? = some (.string ⟨f.dest.toArray⟩) ∧ cur[i * 3 + 1]? = some (.string ⟨f.status.toArray⟩) ∧ cur[i * 3 + 2]? = some (.string ⟨f.text.toArray⟩) := by
  obtain ⟨-, -, cur, hc, -, ht⟩ := own_block h
  refine ⟨cur, hc, fun i f hf => ?_⟩
  obtain ⟨hi, rfl⟩ := List.getElem?_eq_some_iff.1 hf
  have hR := own_rowK (k := 3) (enc := flE) (fun _ => rfl) h
  obtain ⟨b, o, e, hx⟩ := hR.at i hi
  cases e
  have y0 := hx i hi 0 _ rfl
  have y1 := hx i hi 1 _ rfl
  have y2 := hx i hi 2 _ rfl
  simp only [World.cell?, hc, Nat.zero_add, Nat.add_zero] at y0 y1 y2
  exact ⟨y0, y1, y2⟩
set_option maxRecDepth 1000000 in
set_option maxHeartbeats 16000000 in
theorem text_any (n : NotP) (fv : Value) (w : World) (hf : RowK 3 flE w fv n.failed) (hs : ShortN n) (hE : Env w) : Calls Tryz.prog 29 #[notV n fv] w fun e w' => TextPost n e ∧ Below w.heap.size w w' := by
  obtain ⟨p, c, rfl, -⟩ := hf.sh
  obtain ⟨W1, hW1⟩ : ∃ W1, W1 = (w.alloc (.cells (notC n (.slice p n.failed.length c)).toArray 34)) := ⟨_, rfl⟩
  have hB1 : Below w.heap.size w W1 := by rw [hW1]; exact (Below.refl _ w).alloc (Nat.le_refl _) _
  have hb1 : W1.heap[w.heap.size]? = some (.cells (notC n (.slice p n.failed.length c)).toArray 34 (0, 0)) := by rw [hW1]; exact ha_eq rfl
  have hMy := mayNot_any n _ W1 (hf.below hB1) hs (hE.keep hB1)
  have HX := Lib.hid (And.intro (hf.below hB1) (And.intro hs (And.intro (hE.keep hB1) (And.intro hB1 hb1))))
  have HEn := Lib.hid hE
  unfold notV at hMy ⊢
  unfold notC at hW1 hb1 hMy ⊢
  obtain ⟨x0, x1, x2, x3, x4, x5⟩ := nobox hb1
  clear hf hs hE hB1 hb1
  go_enter Tryz.func29, Tryz.ntmps29
  go_upto_region 1 with (fail)
  rw [← hW1]
  clear hW1
  go_wp2_with fail
  refine hMy.mono ?_
  rintro e w2 ⟨rfl, hb2⟩
  have H2 := Lib.hid hb2
  clear hMy hb2 x0 x1 x2 x3 x4 x5
  cases hm : mayNot n with
  | false =>
    have HM := Lib.hid hm
    clear hm
    go_wp2
    refine bodyPost_ret (v := .tuple #[.string ⟨#[]⟩, .int .i64 4]) (by simp [results, Tryz.results29, go_sem]) rfl ⟨.inr ⟨HM.out, rfl⟩, HX.out.2.2.2.1.trans (H2.out.mono HX.out.2.2.2.1.size)⟩
  | true =>
    have HM := Lib.hid (And.intro hm ((mayNot_iff n).1 hm))
    have hpos := HM.out.2.pos
    have hfew := HM.out.2.few
    have hho : n.host.length ≤ 1000000 := by
      have h := HM.out.2.host
      unfold mayB at h
      simp only [Bool.and_eq_true, decide_eq_true_eq] at h
      have := h.1.1
      omega
    have hCl := cloneFl_any n.failed _ w2 (HX.out.1.below H2.out) (by omega)
    have hbx := (H2.out.block _ (lt_of_cells HX.out.2.2.2.2)).trans HX.out.2.2.2.2
    unfold notC at hbx
    obtain ⟨x0, x1, x2, x3, x4, x5⟩ := nobox hbx
    obtain ⟨bn, hbn⟩ : ∃ bn, bn = w.heap.size := ⟨_, rfl⟩
    have HBN := Lib.hid hbn
    rw [← hbn] at hbx x0 x1 x2 x3 x4 x5 ⊢
    have HBX := Lib.hid hbx
    clear hm hbx hbn
    go_wp2_with fail
    refine hCl.mono ?_
    rintro e w3 ⟨v, rfl, hown, hb3⟩
    clear hCl
    obtain ⟨g, cap, rfl⟩ := own_pos hown hpos
    have hbx := (hb3.block _ (lt_of_cells HBX.out)).trans HBX.out
    have HBX3 := Lib.hid hbx
    have HO3 := Lib.hid (And.intro hown (H2.out.trans (hb3.mono H2.out.size)))
    clear x0 x1 x2 x3 x4 x5
    obtain ⟨-, -, -, -, -, x5⟩ := nobox hbx
    have f5 := efroz hbx 5
    clear hown hb3 hbx
    go_upto_region 4 with (fail)
    have hbx4 := heap_setE (off := 5) (v := .slice (some ⟨g, 0, none⟩) n.failed.length cap) HBX3.out
    simp only [List.setIfInBounds_toArray, List.set_cons_succ, List.set_cons_zero] at hbx4
    have hown4 := own_set1 (u := .slice (some ⟨g, 0, none⟩) n.failed.length cap) (o := 5) HO3.out.1 HBX3.out (by decide)
    have hB4 : Below w.heap.size w (w3.setCell ⟨bn, 5, none⟩ (.slice (some ⟨g, 0, none⟩) n.failed.length cap)) := (HX.out.2.2.2.1.trans (HO3.out.2.mono HX.out.2.2.2.1.size)).setCell (p := ⟨bn, 5, none⟩) (by rw [HBN.out]; exact Nat.le_refl _) _
    have hE4 := HEn.out.keep hB4
    generalize hw4 : w3.setCell ⟨bn, 5, none⟩ (.slice (some ⟨g, 0, none⟩) n.failed.length cap) = w4 at hbx4 hown4 hB4 hE4 ⊢
    have H4 := Lib.hid (And.intro hbx4 (And.intro hown4 (And.intro hB4 hE4)))
    clear hw4 hbx4 hown4 hB4 hE4 x5 f5
    go_upto_region 5 with (fail)
    have hbd0 : BdAt w4 w4.heap.size [] (w4.alloc (.cells #[.pointer none, .slice none 0 0] BT)) := ⟨(Below.refl _ _).alloc (Nat.le_refl _) _, Lib.fresh_isBuilder BT 5 w4⟩
    have hal5 : Below w4.heap.size w4 (w4.alloc (.cells #[.pointer none, .slice none 0 0] BT)) := (Below.refl _ _).alloc (Nat.le_refl _) _
    have hlt5 : w4.heap.size < (w4.alloc (.cells #[.pointer none, .slice none 0 0] BT)).heap.size := by simp
    generalize hw5 : w4.alloc (.cells #[.pointer none, .slice none 0 0] BT) = w5 at hbd0 hal5 hlt5 ⊢
    obtain ⟨bb, hbb⟩ : ∃ bb, bb = w4.heap.size := ⟨_, rfl⟩
    have HBB := Lib.hid hbb
    rw [← hbb] at hbd0 hlt5 ⊢
    have H5 := Lib.hid (And.intro hbd0 (And.intro hal5 hlt5))
    clear hw5 hbd0 hal5 hlt5 hbb
    have hbx5 := (H5.out.2.1.block _ (lt_of_cells H4.out.1)).trans H4.out.1
    refine textR5 _ _ n (.slice (some ⟨g, 0, none⟩) n.failed.length cap) bn w5 hbx5 (H4.out.2.2.2.keep H5.out.2.1) (clockN_le HM.out.2.idc) (clockN_le HM.out.2.at_) (fun _ _ _ _ _ h => h) ?_
    rintro v5 v6 v15 v16 v17 v18 v19 v20 w6 ⟨⟨b1, b2, rfl, rfl, h1, h2, hne, g1, g2⟩, hb6⟩
    have hbx6 := (hb6.block _ (lt_of_cells hbx5)).trans hbx5
    obtain ⟨-, -, -, -, -, x5⟩ := nobox hbx6
    have H6 := Lib.hid (And.intro hbx6 (And.intro h1 (And.intro h2 (And.intro hne (And.intro g1 (And.intro g2 hb6))))))
    clear hbx5 hbx6 h1 h2 hne g1 g2 hb6
    go_upto_region 7 with (fail)
    have hal7 : Below w6.heap.size w6 (w6.alloc (.cells #[.int .i64 (n.failed.length : Int)] 3)) := (Below.refl _ _).alloc (Nat.le_refl _) _
    have hx7 : (w6.alloc (.cells #[.int .i64 (n.failed.length : Int)] 3)).heap[w6.heap.size]? = some (.cells #[.int .i64 (n.failed.length : Int)] 3 (0, 0)) := ha_eq rfl
    have hsz7 : (w6.alloc (.cells #[.int .i64 (n.failed.length : Int)] 3)).heap.size = w6.heap.size + 1 := by simp
    generalize hw7 : w6.alloc (.cells #[.int .i64 (n.failed.length : Int)] 3) = w7 at hal7 hx7 hsz7 ⊢
    have hal8 : Below w7.heap.size w7 (w7.alloc (.cells #[sheetV bb] 172)) := (Below.refl _ _).alloc (Nat.le_refl _) _
    obtain ⟨k1, k2, k3, k4, k5, k6, k7⟩ := H6.out
    have hb57 := k7.trans (hal7.mono k7.size)
    have hb58 := hb57.trans (hal8.mono hb57.size)
    have hb48 := H5.out.2.1.trans (hb58.mono H5.out.2.1.size)
    have hb68 := hal7.trans (hal8.mono hal7.size)
    obtain ⟨cur, hg4, hrows⟩ := fl_rows H4.out.2.1
    have hbnlt := lt_of_cells H4.out.1
    have hglt := lt_of_cells hg4
    have hbbE := HBB.out
    have hlt5 := H5.out.2.2
    have hs56 := k7.size
    have hs45 := H5.out.2.1.size
    have hb1lt := lt_of_cells k2
    have hb2lt := lt_of_cells k3
    have hT : TxL w4 ⟨bb, bn, b1, b2, w6.heap.size, w7.heap.size, g⟩ n (.slice (some ⟨g, 0, none⟩) n.failed.length cap) (Lib.itoa n.id) (Lib.itoa n.at_) [] 0 (n.failed.length : Int) (w7.alloc (.cells #[sheetV bb] 172)) := by
      refine ⟨H5.out.1.keep hb58, (hb68.block _ (lt_of_cells k1)).trans k1, (hb68.block _ hb1lt).trans k2, (hb68.block _ hb2lt).trans k3, (hal8.block _ (lt_of_cells hx7)).trans hx7, ha_eq rfl, ⟨cur, (hb48.block _ hglt).trans hg4, hrows⟩, ?_, ?_, ?_, ?_⟩
      · dsimp only
        exact ⟨by omega, by omega, by omega, by omega, by omega, by omega⟩
      · dsimp only
        exact ⟨by omega, by omega, by omega, by omega, by omega⟩
      · dsimp only; omega
      · simp
    have hi1 := clockN_le HM.out.2.idc
    have hi2 := clockN_le HM.out.2.at_
    have hL := linesN_any w4 ⟨bb, bn, b1, b2, w6.heap.size, w7.heap.size, g⟩ n cap (Lib.itoa n.id) (Lib.itoa n.at_) w7 rfl hT HX.out.2.1 hho hfew (by have := itoa_len n.id hi1.1 hi1.2; omega) (by have := itoa_len n.at_ hi2.1 hi2.2; omega)
    unfold sheetV at hL
    dsimp only at hL
    clear hT hi1 hi2 hb57 hb58 hb48 hb68 hg4 hrows hbnlt hglt hbbE hlt5 hs56 hs45 hb1lt hb2lt k1 k2 k3 k4 k5 k6 k7 hal7 hal8 hx7 hsz7 hw7 x5
    go_wp2_with fail
    refine hL.mono ?_
    rintro e w8 ⟨rfl, left, hT⟩
    clear hL
    have hS := bstrN_any w4 bb (noteB n (Lib.itoa n.id) (Lib.itoa n.at_)) w8 hT.bd (noteB_ne _ _ _)
    clear hT
    go_wp2_with fail
    refine hS.mono ?_
    rintro e w9 ⟨rfl, hb9⟩
    have HZ := Lib.hid (H4.out.2.2.1.trans (hb9.mono H4.out.2.2.1.size))
    clear hS hb9
    have htx : textN n = noteB n (Lib.itoa n.id) (Lib.itoa n.at_) := rfl
    generalize noteB n (Lib.itoa n.id) (Lib.itoa n.at_) = tx at htx ⊢
    have HTX := Lib.hid htx
    clear htx
    go_wp2
    refine bodyPost_ret (v := .tuple #[.string ⟨tx.toArray⟩, .int .i64 0]) (by simp [results, Tryz.results29, go_sem]) rfl ⟨.inl ⟨HM.out.1, by rw [HTX.out]⟩, HZ.out⟩
end Go.Proofs.YtlpngibdplnieaaGreatDoor
