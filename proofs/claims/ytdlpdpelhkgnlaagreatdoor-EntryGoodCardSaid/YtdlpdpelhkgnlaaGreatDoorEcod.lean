/- entry: what may be, its bytes, and how they are read: in plain Lean, with what was encoded decoded as it was, and the other way. -/
import Derived.Test.YtdlpdpelhkgnlaaGreatDoorEbad
import Derived.Test.YtdlpdpelhkgnlaaGreatDoorEsm
import Derived.Test.YtdlpdpelhkgnlaaGreatDoorEcopy
import Derived.Test.YtdlpdpelhkgnlaaGreatDoorEenc
import Derived.Test.YtdlpdpelhkgnlaaGreatDoorEmj
import Derived.Lib.ItoaNum
import Derived.Lib.AtoiAll
namespace Go.Proofs.YtdlpdpelhkgnlaaGreatDoor
open Go
/-! ### What may be -/
/-! ### Numbers and texts -/
/-! ### Reading -/
def decV (s : Bytes) : Nat := s.foldl (fun n c => 10 * n + (c.toNat - 48)) 0
def numOk (s : Bytes) : Bool := !s.isEmpty && (!(decide (1 < s.length) && s.head? == some 48) && s.all isDig)
/-- A number so great at most, and the error's number. -/
def numC (s : Bytes) (most : Nat) : Nat × Nat := if numOk s = false then (0, 4) else if most < decV s then (0, 40) else (decV s, 0)
structure Rd where
  s : Bytes
  bad : Bool
  deriving DecidableEq
def rdNum (most : Nat) (r : Rd) : Nat × Rd := ((numC (Lib.cut r.s [58]).1 most).1, ⟨(Lib.cut r.s [58]).2.1, r.bad || (!(Lib.cut r.s [58]).2.2 || decide ((numC (Lib.cut r.s [58]).1 most).2 ≠ 0))⟩)
def rdText (r : Rd) : Bytes × Rd :=
  if (rdNum r.s.length r).2.s.length < (rdNum r.s.length r).1 then ([], ⟨(rdNum r.s.length r).2.s, true⟩)
  else ((rdNum r.s.length r).2.s.take (rdNum r.s.length r).1, ⟨(rdNum r.s.length r).2.s.drop (rdNum r.s.length r).1, (rdNum r.s.length r).2.bad⟩)
def rdYes (r : Rd) : Bool × Rd := (decide ((rdNum 1 r).1 = 1), (rdNum 1 r).2)
def rdRf (r : Rd) : (RcP × FaP) × Rd :=
  let a := rdText r
  let b := rdYes a.2
  let c := rdNum 2 b.2
  let d := rdText c.2
  (((a.1, b.1), (c.1, d.1)), d.2)
def rdJob (r : Rd) : JoP × Rd :=
  let a := rdText r
  let b := rdNum 99 a.2
  let c := rdNum 1099511627776 b.2
  (⟨a.1, b.1, c.1⟩, c.2)
def rdMany {α : Type} (one : Rd → α × Rd) : Nat → Rd → List α × Rd
  | 0, r => ([], r)
  | n + 1, r => ((one r).1 :: (rdMany one n (one r).2).1, (rdMany one n (one r).2).2)
def rdEach {α : Type} (one : Rd → α × Rd) (most : Nat) (r : Rd) : List α × Rd := rdMany one (rdNum most r).1 (rdNum most r).2
def rdEnt (r : Rd) : EntP × Rd :=
  let a := rdNum 1099511627776 r
  let b := rdNum 1099511627776 a.2
  let c := rdText b.2
  let d := rdYes c.2
  let e := rdText d.2
  let f := rdText e.2
  let g := rdEach rdRf 4 f.2
  let h := rdEach rdJob 4 g.2
  let m : MailP := ⟨c.1, g.1.map (·.1), d.1, e.1, f.1⟩
  (⟨a.1, b.1, m, plainM m, g.1.map (·.2), h.1⟩, h.2)
def decB (s : Bytes) : Option EntP :=
  if (rdEnt ⟨s, false⟩).2.bad = true ∨ (rdEnt ⟨s, false⟩).2.s ≠ [] ∨ mayN (rdEnt ⟨s, false⟩).1 = false then none else some (rdEnt ⟨s, false⟩).1
/-! ### Decimal numbers -/
theorem decV_snoc (s : Bytes) (c : UInt8) : decV (s ++ [c]) = 10 * decV s + (c.toNat - 48) := by simp [decV]
theorem ofNat_dig (k : Nat) (h : k < 10) : (UInt8.ofNat (48 + k)).toNat = 48 + k := by
  rw [UInt8.toNat_ofNat']; exact Nat.mod_eq_of_lt (by omega)
theorem isDig_of (k : Nat) (h : k < 10) : isDig (UInt8.ofNat (48 + k)) = true := by
  unfold isDig; rw [ofNat_dig k h]; simp; omega
theorem decDigits_all : ∀ n : Nat, (Lib.decDigits n).all isDig = true := by
  intro n
  induction n using Nat.strongRecOn with
  | _ n ih =>
    rw [Lib.decDigits]
    split
    · rename_i h
      rw [List.all_cons, isDig_of n h]; rfl
    · rename_i h
      rw [List.all_append, ih _ (by omega), List.all_cons, isDig_of (n % 10) (by omega)]; rfl
theorem decV_decDigits : ∀ n : Nat, decV (Lib.decDigits n) = n := by
  intro n
  induction n using Nat.strongRecOn with
  | _ n ih =>
    rw [Lib.decDigits]
    split
    · rename_i h; simp [decV]; have := ofNat_dig n h; simp at this; omega
    · rename_i h
      rw [decV_snoc, ih _ (by omega), ofNat_dig _ (by omega)]
      omega
theorem decDigits_ne (n : Nat) : Lib.decDigits n ≠ [] := by
  rw [Lib.decDigits]; split <;> simp
theorem decDigits_head : ∀ n : Nat, 0 < n → (Lib.decDigits n).head? ≠ some 48 := by
  intro n
  induction n using Nat.strongRecOn with
  | _ n ih =>
    intro hn
    rw [Lib.decDigits]
    split
    · rename_i h
      simp
      intro e
      have h2 := ofNat_dig n h
      have h3 := congrArg UInt8.toNat e
      simp at h2 h3
      omega
    · rename_i h
      rw [List.head?_append]
      have h1 := ih (n / 10) (by omega) (by omega)
      cases h2 : (Lib.decDigits (n / 10)).head? with
      | none => exact absurd (List.head?_eq_none_iff.1 h2) (decDigits_ne _)
      | some c => rw [h2] at h1; simpa using h1
theorem numOk_decDigits (n : Nat) : numOk (Lib.decDigits n) = true := by
  unfold numOk
  rw [decDigits_all]
  have h0 : (Lib.decDigits n).isEmpty = false := by simpa using decDigits_ne n
  rw [h0]
  by_cases hn : 0 < n
  · have h := decDigits_head n hn
    have h2 : ((Lib.decDigits n).head? == some 48) = false := by simpa using h
    rw [h2]; simp
  · have : n = 0 := by omega
    subst this
    rw [Lib.decDigits]; simp
/-- The text of a number is the only one. -/
theorem decDigits_decV : ∀ s : Bytes, numOk s = true → Lib.decDigits (decV s) = s := by
  intro s
  induction hn : s.length using Nat.strongRecOn generalizing s with
  | _ n ih =>
    intro h
    unfold numOk at h
    simp only [Bool.and_eq_true, Bool.not_eq_true', Bool.and_eq_false_iff, decide_eq_false_iff_not] at h
    obtain ⟨h0, h1, h2⟩ := h
    obtain ⟨t, c, rfl⟩ : ∃ t c, s = t ++ [c] := by
      have hne : s ≠ [] := by simpa using h0
      exact ⟨s.dropLast, s.getLast hne, (List.dropLast_concat_getLast hne).symm⟩
    rw [decV_snoc]
    rw [List.all_append] at h2
    simp only [Bool.and_eq_true, List.all_cons, List.all_nil, and_true] at h2
    obtain ⟨h2, h3⟩ := h2
    unfold isDig at h3
    simp at h3
    have hc : ∀ k, k = c.toNat - 48 → UInt8.ofNat (48 + k) = c := fun k hk => by
      rw [hk, show 48 + (c.toNat - 48) = c.toNat by omega]; simp
    by_cases ht : t = []
    · subst ht
      simp only [decV, List.foldl_nil, List.nil_append]
      rw [Lib.decDigits, dif_pos (by omega), hc (10 * 0 + (c.toNat - 48)) (by omega)]
    · have hl : 0 < t.length := List.length_pos_iff.2 ht
      have hh : (t.head? == some 48) = false := by
        rcases h1 with h1 | h1
        · exfalso
          rw [List.length_append, List.length_cons, List.length_nil] at h1
          omega
        · rw [List.head?_append] at h1
          cases h4 : t.head? with
          | none => exact absurd (List.head?_eq_none_iff.1 h4) ht
          | some b => rw [h4] at h1; simpa using h1
      have ht' : numOk t = true := by
        unfold numOk
        rw [hh, h2]
        simp [ht]
      have hi := ih t.length (by rw [← hn, List.length_append]; simp) t rfl ht'
      have hpos : 0 < decV t := by
        rcases Nat.eq_zero_or_pos (decV t) with h | h
        · rw [h] at hi
          rw [Lib.decDigits] at hi
          simp at hi
          rw [← hi] at hh
          simp at hh
        · exact h
      rw [Lib.decDigits, dif_neg (by omega)]
      rw [show (10 * decV t + (c.toNat - 48)) / 10 = decV t by omega, show (10 * decV t + (c.toNat - 48)) % 10 = c.toNat - 48 by omega, hi, hc _ rfl]
theorem itoa_nat (n : Nat) : Lib.itoa (n : Int) = Lib.decDigits n := by
  unfold Lib.itoa
  rw [if_neg (by omega)]; rfl
/-! ### One sign cut off -/
theorem cut_first (a t : Bytes) (b : UInt8) (h : b ∉ a) : Lib.cut (a ++ b :: t) [b] = (a, t, true) := by
  induction a with
  | nil => exact cut_cons_eq b t
  | cons c r ih =>
    have hc : c ≠ b := fun e => h (by rw [e]; exact List.mem_cons_self)
    rw [List.cons_append, cut_cons_ne b c _ hc, ih (fun hm => h (List.mem_cons_of_mem _ hm))]
theorem cut_true (s : Bytes) (b : UInt8) (h : (Lib.cut s [b]).2.2 = true) : s = (Lib.cut s [b]).1 ++ b :: (Lib.cut s [b]).2.1 := by
  induction s with
  | nil => simp [Lib.cut, Lib.index] at h
  | cons c r ih =>
    by_cases hc : c = b
    · subst hc; rw [cut_cons_eq]; rfl
    · rw [cut_cons_ne b c r hc] at h ⊢
      have := ih h
      simp only at this ⊢
      rw [List.cons_append, ← this]
theorem dig_no58 {s : Bytes} (h : s.all isDig = true) : (58 : UInt8) ∉ s := fun hm => by
  have := List.all_eq_true.1 h _ hm
  simp [isDig] at this
theorem numC_dec (n most : Nat) (h : n ≤ most) : numC (Lib.decDigits n) most = (n, 0) := by
  unfold numC
  rw [if_neg (by rw [numOk_decDigits]; simp), if_neg (by rw [decV_decDigits]; omega), decV_decDigits]
theorem rdNum_num (n most : Nat) (h : n ≤ most) (t : Bytes) (bad : Bool) : rdNum most ⟨numB n ++ t, bad⟩ = (n, ⟨t, bad⟩) := by
  unfold rdNum numB
  rw [itoa_nat]
  have hc := cut_first (Lib.decDigits n) t 58 (dig_no58 (decDigits_all n))
  simp only [List.append_assoc, List.singleton_append]
  rw [hc]
  simp only
  rw [numC_dec n most h]
  simp
theorem rdText_txt (s t : Bytes) (bad : Bool) : rdText ⟨txtB s ++ t, bad⟩ = (s, ⟨t, bad⟩) := by
  have h : rdNum (txtB s ++ t).length ⟨txtB s ++ t, bad⟩ = (s.length, ⟨s ++ t, bad⟩) := by
    have hl : s.length ≤ (txtB s ++ t).length := by simp [txtB]; omega
    have := rdNum_num s.length (txtB s ++ t).length hl (s ++ t) bad
    unfold txtB at this ⊢
    rw [List.append_assoc] at this ⊢
    exact this
  unfold rdText
  simp only [h]
  rw [if_neg (by simp)]
  simp
theorem rdYes_yes (b : Bool) (t : Bytes) (bad : Bool) : rdYes ⟨yesB b ++ t, bad⟩ = (b, ⟨t, bad⟩) := by
  unfold rdYes yesB
  cases b with
  | true => have := rdNum_num 1 1 (Nat.le_refl _) t bad; simp at this ⊢; rw [this]; simp
  | false => have := rdNum_num 0 1 (by omega) t bad; simp at this ⊢; rw [this]; simp
theorem rdRf_rf (p : RcP × FaP) (t : Bytes) (bad : Bool) (h : p.2.1 ≤ 2) : rdRf ⟨rfB p ++ t, bad⟩ = (p, ⟨t, bad⟩) := by
  unfold rdRf rfB
  simp only [List.append_assoc]
  rw [rdText_txt]
  simp only
  rw [rdYes_yes]
  simp only
  rw [rdNum_num _ _ h]
  simp only
  rw [rdText_txt]
theorem rdJob_job (j : JoP) (t : Bytes) (bad : Bool) (h0 : 0 ≤ j.tries) (h1 : j.tries ≤ 99) (h2 : clockB j.due = true) : rdJob ⟨joB j ++ t, bad⟩ = (j, ⟨t, bad⟩) := by
  unfold clockB at h2
  simp only [Bool.and_eq_true, decide_eq_true_eq] at h2
  obtain ⟨d, tr, du⟩ := j
  dsimp only at h0 h1 h2
  obtain ⟨n, rfl⟩ := Int.eq_ofNat_of_zero_le h0
  obtain ⟨m, rfl⟩ := Int.eq_ofNat_of_zero_le h2.1
  unfold rdJob joB
  simp only [List.append_assoc]
  rw [rdText_txt]
  simp only
  rw [rdNum_num _ _ (by omega)]
  simp only
  rw [rdNum_num _ _ (by omega)]
theorem rdMany_all {α : Type} (one : Rd → α × Rd) (enc : α → Bytes) (bad : Bool) : ∀ (l : List α) (t : Bytes), (∀ x ∈ l, ∀ t, one ⟨enc x ++ t, bad⟩ = (x, ⟨t, bad⟩)) → rdMany one l.length ⟨l.flatMap enc ++ t, bad⟩ = (l, ⟨t, bad⟩)
  | [], t, _ => rfl
  | x :: l, t, h => by
    have h1 := h x List.mem_cons_self (l.flatMap enc ++ t)
    have h2 := rdMany_all one enc bad l t fun y hy => h y (List.mem_cons_of_mem _ hy)
    rw [List.flatMap_cons, List.append_assoc, List.length_cons]
    unfold rdMany
    rw [h1]
    simp only [h2]
theorem rdEach_all {α : Type} (one : Rd → α × Rd) (enc : α → Bytes) (bad : Bool) (most : Nat) (l : List α) (t : Bytes) (hl : l.length ≤ most) (h : ∀ x ∈ l, ∀ t, one ⟨enc x ++ t, bad⟩ = (x, ⟨t, bad⟩)) : rdEach one most ⟨numB l.length ++ (l.flatMap enc ++ t), bad⟩ = (l, ⟨t, bad⟩) := by
  unfold rdEach
  rw [rdNum_num _ _ hl]
  exact rdMany_all one enc bad l t h
/-! ### The other way -/
/-- What was read well was written so. -/
def Well {α : Type} (one : Rd → α × Rd) (enc : α → Bytes) : Prop := ∀ r, (one r).2.bad = false → r.bad = false ∧ r.s = enc (one r).1 ++ (one r).2.s
theorem well_num (most : Nat) : Well (rdNum most) (fun n => numB (n : Int)) := by
  intro r h
  unfold rdNum at h ⊢
  simp only [Bool.or_eq_false_iff, Bool.not_eq_false', decide_eq_false_iff_not, Decidable.not_not] at h
  obtain ⟨h1, h2, h3⟩ := h
  refine ⟨h1, ?_⟩
  simp only
  have hc := cut_true r.s 58 h2
  unfold numC at h3
  split at h3
  · simp at h3
  · rename_i hok
    split at h3
    · simp at h3
    · rename_i hle
      unfold numC
      rw [if_neg hok, if_neg hle]
      simp only
      unfold numB
      rw [itoa_nat, decDigits_decV _ (by simpa using hok)]
      rw [List.append_assoc, List.singleton_append]
      exact hc
theorem num_le (most : Nat) (r : Rd) : (rdNum most r).1 ≤ most := by
  unfold rdNum numC
  dsimp only
  split
  · simp
  · split
    · simp
    · simp; omega
theorem well_text : Well rdText txtB := by
  intro r h
  unfold rdText at h ⊢
  split at h
  · simp at h
  · rename_i hlt
    rw [if_neg hlt]
    have hw := well_num r.s.length r h
    refine ⟨hw.1, ?_⟩
    dsimp only
    unfold txtB
    rw [List.append_assoc, List.take_append_drop]
    rw [show ((rdNum r.s.length r).2.s.take (rdNum r.s.length r).1).length = (rdNum r.s.length r).1 by simp; omega]
    exact hw.2
theorem well_yes : Well rdYes yesB := by
  intro r h
  unfold rdYes at h ⊢
  have hw := well_num 1 r h
  refine ⟨hw.1, ?_⟩
  dsimp only
  have hl := num_le 1 r
  unfold yesB
  have : (if decide ((rdNum 1 r).1 = 1) = true then (1 : Int) else 0) = ((rdNum 1 r).1 : Int) := by
    by_cases h : (rdNum 1 r).1 = 1
    · simp [h]
    · have : (rdNum 1 r).1 = 0 := by omega
      simp [this]
  rw [this]
  exact hw.2
theorem well_rf : Well rdRf rfB := by
  intro r h
  unfold rdRf at h ⊢
  dsimp only at h ⊢
  obtain ⟨h4, e4⟩ := well_text _ h
  obtain ⟨h3, e3⟩ := well_num 2 _ h4
  obtain ⟨h2, e2⟩ := well_yes _ h3
  obtain ⟨h1, e1⟩ := well_text _ h2
  refine ⟨h1, ?_⟩
  unfold rfB
  dsimp only
  simp only [List.append_assoc]
  rw [← e4, ← e3, ← e2, ← e1]
theorem well_job : Well rdJob joB := by
  intro r h
  unfold rdJob at h ⊢
  dsimp only at h ⊢
  obtain ⟨h3, e3⟩ := well_num _ _ h
  obtain ⟨h2, e2⟩ := well_num _ _ h3
  obtain ⟨h1, e1⟩ := well_text _ h2
  refine ⟨h1, ?_⟩
  unfold joB
  dsimp only
  simp only [List.append_assoc]
  rw [← e3, ← e2, ← e1]
theorem rdMany_len {α : Type} (one : Rd → α × Rd) : ∀ (n : Nat) (r : Rd), (rdMany one n r).1.length = n
  | 0, _ => rfl
  | n + 1, r => by unfold rdMany; rw [List.length_cons, rdMany_len one n]
theorem well_many {α : Type} {one : Rd → α × Rd} {enc : α → Bytes} (hw : Well one enc) : ∀ n, Well (rdMany one n) (fun l => l.flatMap enc)
  | 0 => fun r h => ⟨h, rfl⟩
  | n + 1 => fun r h => by
    unfold rdMany at h ⊢
    dsimp only at h ⊢
    obtain ⟨h2, e2⟩ := well_many hw n _ h
    obtain ⟨h1, e1⟩ := hw _ h2
    refine ⟨h1, ?_⟩
    rw [List.flatMap_cons, List.append_assoc, ← e2, ← e1]
theorem well_each {α : Type} {one : Rd → α × Rd} {enc : α → Bytes} (hw : Well one enc) (most : Nat) : Well (rdEach one most) (fun l => numB l.length ++ l.flatMap enc) := by
  intro r h
  unfold rdEach at h ⊢
  obtain ⟨h2, e2⟩ := well_many hw _ _ h
  obtain ⟨h1, e1⟩ := well_num most r h2
  refine ⟨h1, ?_⟩
  dsimp only at e1 e2 ⊢
  rw [rdMany_len, List.append_assoc, ← e2, ← e1]
theorem zip_maps {α β : Type} : ∀ l : List (α × β), (l.map (·.1)).zip (l.map (·.2)) = l
  | [] => rfl
  | x :: l => by simp [zip_maps l]
theorem well_ent : Well rdEnt encB := by
  intro r h
  unfold rdEnt at h ⊢
  dsimp only at h ⊢
  obtain ⟨h8, e8⟩ := well_each well_job 4 _ h
  obtain ⟨h7, e7⟩ := well_each well_rf 4 _ h8
  obtain ⟨h6, e6⟩ := well_text _ h7
  obtain ⟨h5, e5⟩ := well_text _ h6
  obtain ⟨h4, e4⟩ := well_yes _ h5
  obtain ⟨h3, e3⟩ := well_text _ h4
  obtain ⟨h2, e2⟩ := well_num _ _ h3
  obtain ⟨h1, e1⟩ := well_num _ _ h2
  refine ⟨h1, ?_⟩
  unfold encB
  dsimp only
  rw [zip_maps, List.length_map]
  simp only [List.append_assoc] at *
  rw [← e8, ← e7, ← e6, ← e5, ← e4, ← e3, ← e2, ← e1]
theorem dec_back {s : Bytes} {x : EntP} (h : decB s = some x) : mayN x = true ∧ encB x = s := by
  unfold decB at h
  split at h
  · cases h
  · rename_i hn
    injection h with h
    simp only [not_or, Bool.not_eq_true, Bool.not_eq_false, ne_eq, Decidable.not_not] at hn
    obtain ⟨h1, h2, h3⟩ := hn
    subst h
    refine ⟨h3, ?_⟩
    have := (well_ent _ h1).2
    rw [h2, List.append_nil] at this
    exact this.symm
theorem jobsOk_len : ∀ {l : List JoP} {ds : List Bytes}, jobsOk l ds = true → l.length = ds.length
  | [], [], _ => rfl
  | [], _ :: _, h => by simp [jobsOk] at h
  | _ :: _, [], h => by simp [jobsOk] at h
  | j :: l, d :: ds, h => by
    unfold jobsOk at h
    rw [Bool.and_eq_true] at h
    simp [jobsOk_len h.2]
theorem map_zip1 {α β : Type} : ∀ (l : List α) (m : List β), l.length = m.length → (l.zip m).map (·.1) = l ∧ (l.zip m).map (·.2) = m
  | [], [], _ => ⟨rfl, rfl⟩
  | [], _ :: _, h => by simp at h
  | _ :: _, [], h => by simp at h
  | a :: l, b :: m, h => by
    have := map_zip1 l m (by simpa using h)
    simp [this.1, this.2]
/-- What was written is read as it was. -/
theorem dec_enc {x : EntP} (h : mayN x = true) : decB (encB x) = some x := by
  have hm := (mayN_iff x).1 h
  have hrc := hm.rc
  have hz : (x.mail.rcpts.zip x.fates).length = x.fates.length := by rw [List.length_zip, hm.len]; simp
  have hjl := jobsOk_len hm.jobs
  have hdl := domsM_len x.mail.rcpts
  have hst : ∀ p ∈ x.mail.rcpts.zip x.fates, p.2.1 ≤ 2 := fun p hp => by
    have := hm.fates p.2 (List.of_mem_zip hp).2
    unfold wrongB at this
    simp only [Bool.or_eq_false_iff, decide_eq_false_iff_not] at this
    omega
  have hjm := jobsOk_mem hm.jobs
  have hid := hm.idc
  have hat := hm.at_
  unfold clockB at hid hat
  simp only [Bool.and_eq_true, decide_eq_true_eq] at hid hat
  have he : rdEnt ⟨encB x, false⟩ = (x, ⟨[], false⟩) := by
    have hp := hm.plain
    have hmz := map_zip1 x.mail.rcpts x.fates hm.len.symm
    have hlen := hm.len
    clear h hm
    obtain ⟨id, at_, ⟨s, rc, rq, ev, tx⟩, pl, fa, jo⟩ := x
    dsimp only at *
    obtain ⟨n, rfl⟩ := Int.eq_ofNat_of_zero_le hid.1
    obtain ⟨k, rfl⟩ := Int.eq_ofNat_of_zero_le hat.1
    unfold rdEnt encB
    dsimp only
    rw [rdNum_num _ _ (by omega)]
    dsimp only
    rw [rdNum_num _ _ (by omega)]
    dsimp only
    rw [rdText_txt]
    dsimp only
    rw [rdYes_yes]
    dsimp only
    rw [rdText_txt]
    dsimp only
    rw [rdText_txt]
    dsimp only
    have h1 := rdEach_all rdRf rfB false 4 (rc.zip fa) (numB jo.length ++ jo.flatMap joB) (by omega) fun p hp t => rdRf_rf p t false (hst p hp)
    rw [hz] at h1
    rw [h1]
    dsimp only
    have h2 := rdEach_all rdJob joB false 4 jo [] (by omega) fun j hj t => rdJob_job j t false (hjm.2 j hj).1 (hjm.2 j hj).2.1 (hjm.2 j hj).2.2
    rw [List.append_nil] at h2
    rw [h2]
    dsimp only
    rw [hmz.1, hmz.2, ← hp]
  unfold decB
  rw [he]
  simp [h]
end Go.Proofs.YtdlpdpelhkgnlaaGreatDoor
