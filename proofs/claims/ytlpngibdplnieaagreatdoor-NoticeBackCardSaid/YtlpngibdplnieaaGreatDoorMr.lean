/- Parts of the proof, joined: Nmyp, Nrt, Nbkp, Nlng, Nbw. -/
import Derived.Test.YtlpngibdplnieaaGreatDoorMn
import Derived.Test.YtlpngibdplnieaaGreatDoorMp
import Derived.Test.YtlpngibdplnieaaGreatDoorMq
import Derived.Test.YtlpngibdplnieaaGreatDoorMh
import Derived.Test.YtlpngibdplnieaaGreatDoorMo
import Derived.Deep.CutRange
import Derived.Deep.Cut
/- NoticeMay: what its functions answer, in plain Lean. -/
namespace Go.Proofs.YtlpngibdplnieaaGreatDoor
open Go

/-! ### A notice is not plain -/
theorem field_step {now : Option (Bytes × Bytes)} {nm v : Bytes} {r : List Bytes} (h1 : (58 : UInt8) ∉ nm) (h2 : namedB nm = true) (h3 : (nm ++ 58 :: v).head?.any blankB = false) : fieldsF now ((nm ++ 58 :: v) :: r) = tellB now ++ fieldsF (some (nm, v)) r := by
  rw [fieldsF.eq_2]
  have hg : goesOn now (nm ++ 58 :: v) = false := by
    unfold goesOn
    rw [h3, Bool.and_false]
  have hb : beginsB (nm ++ 58 :: v) = some (nm, v) := by
    unfold beginsB
    rw [cut_first nm v 58 h1]
    dsimp only
    rw [h2]
    rfl
  rw [hg, if_neg (by decide), hb]
theorem field_end (now : Option (Bytes × Bytes)) (r : List Bytes) : fieldsF now ([] :: r) = tellB now := by
  rw [fieldsF.eq_2]
  have hg : goesOn now [] = false := by
    unfold goesOn
    simp
  have hb : beginsB [] = none := by decide
  rw [hg, if_neg (by decide), hb, List.append_nil]
theorem lines_line {l r : Bytes} (h : ∀ c ∈ l, okC c = true) : (linesB (l ++ 13 :: 10 :: r)).1 = l :: (linesB r).1 := by
  rw [linesB_cut (cut_crlf r l fun hm => okC_13 (h _ hm) rfl)]
theorem line_app (a t b r : Bytes) : lineB a t b ++ r = (a ++ t ++ b) ++ 13 :: 10 :: r := by
  unfold lineB
  simp only [List.append_assoc, List.cons_append, List.nil_append]
theorem lines_of {a t b r : Bytes} (ha : a.all okC = true) (ht : ∀ c ∈ t, okC c = true) (hb : b.all okC = true) : (linesB (lineB a t b ++ r)).1 = (a ++ t ++ b) :: (linesB r).1 := by
  rw [line_app]
  refine lines_line fun c hc => ?_
  rcases List.mem_append.1 hc with hc | hc
  · rcases List.mem_append.1 hc with hc | hc
    · exact List.all_eq_true.1 ha c hc
    · exact ht c hc
  · exact List.all_eq_true.1 hb c hc
theorem bar_app (s : Bytes) (ls : List Bytes) (r : Bytes) : barB (s :: ls) ++ r = lineB s [] [] ++ (barB ls ++ r) := by
  unfold barB
  rw [List.flatMap_cons, List.append_assoc]
theorem like_no {n : Bytes} {v : Bytes} (h : likeB n reqName = false) (l : List (Bytes × Bytes)) : ((n, v) :: l).filter (fun f => likeB f.1 reqName) = l.filter (fun f => likeB f.1 reqName) := by
  rw [List.filter_cons_of_neg]
  dsimp only
  rw [h]
  decide
set_option maxRecDepth 100000 in
theorem plain_no {n : NotP} (h : MayO n) : plainB (textN n) = false := by
  have hi := clockN_le h.idc
  have o1 := itoa_ok hi.1
  have oh := mayB_ok h.host
  have od := addrB_ok h.dest
  obtain ⟨rest, hrest⟩ : ∃ rest, textN n = pc0 n ++ (pc1 n ++ (pc2 ++ (pc3 (Lib.itoa n.id) ++ (pc4 ++ rest)))) := by
    have hh : ∃ t, head2B n (Lib.itoa n.id) = headB n (Lib.itoa n.id) ++ t := by
      unfold head2B
      split
      · exact ⟨[], by rw [List.append_nil]⟩
      · exact ⟨_, rfl⟩
    obtain ⟨t, ht⟩ := hh
    unfold textN noteB head3B
    rw [ht]
    unfold headB
    simp only [List.nil_append, List.append_assoc]
    exact ⟨_, rfl⟩
  have nol : ∀ c ∈ ([] : Bytes), okC c = true := fun c hc => by cases hc
  have hf : ∃ v1 v2 v3 v4 v5 v6, fieldsB (textN n) = [([70, 114, 111, 109], v1), ([84, 111], v2), ([83, 117, 98, 106, 101, 99, 116], v3), ([65, 117, 116, 111, 45, 83, 117, 98, 109, 105, 116, 116, 101, 100], v4), ([77, 73, 77, 69, 45, 86, 101, 114, 115, 105, 111, 110], v5), ([67, 111, 110, 116, 101, 110, 116, 45, 84, 121, 112, 101], v6)] := by
    unfold fieldsB
    rw [hrest]
    unfold pc0 pc1 pc2 pc3 pc4
    rw [lines_of (by decide +kernel) oh (by decide +kernel), lines_of (by decide +kernel) od (by decide +kernel), bar_app, lines_of (by decide +kernel) nol (by decide +kernel), bar_app, lines_of (by decide +kernel) nol (by decide +kernel), bar_app, lines_of (by decide +kernel) nol (by decide +kernel), barB_nil, List.nil_append, lines_of (by decide +kernel) o1 (by decide +kernel), bar_app, lines_of (by decide +kernel) nol (by decide +kernel)]
    generalize (linesB (barB [] ++ rest)).1 = rl
    obtain ⟨v1, h1⟩ : ∃ v, ∀ (now : Option (Bytes × Bytes)) (r : List Bytes), fieldsF now (([70, 114, 111, 109, 58, 32, 60, 112, 111, 115, 116, 109, 97, 115, 116, 101, 114, 64] ++ n.host ++ [62]) :: r) = tellB now ++ fieldsF (some ([70, 114, 111, 109], v)) r := ⟨_, fun now r => field_step (nm := [70, 114, 111, 109]) (by decide) (by decide) rfl⟩
    obtain ⟨v2, h2⟩ : ∃ v, ∀ (now : Option (Bytes × Bytes)) (r : List Bytes), fieldsF now (([84, 111, 58, 32, 60] ++ n.dest ++ [62]) :: r) = tellB now ++ fieldsF (some ([84, 111], v)) r := ⟨_, fun now r => field_step (nm := [84, 111]) (by decide) (by decide) rfl⟩
    obtain ⟨v3, h3⟩ : ∃ v, ∀ (now : Option (Bytes × Bytes)) (r : List Bytes), fieldsF now (([83, 117, 98, 106, 101, 99, 116, 58, 32, 85, 110, 100, 101, 108, 105, 118, 101, 114, 101, 100, 32, 109, 97, 105, 108] ++ [] ++ []) :: r) = tellB now ++ fieldsF (some ([83, 117, 98, 106, 101, 99, 116], v)) r := ⟨_, fun now r => field_step (nm := [83, 117, 98, 106, 101, 99, 116]) (by decide) (by decide) rfl⟩
    obtain ⟨v4, h4⟩ : ∃ v, ∀ (now : Option (Bytes × Bytes)) (r : List Bytes), fieldsF now (([65, 117, 116, 111, 45, 83, 117, 98, 109, 105, 116, 116, 101, 100, 58, 32, 97, 117, 116, 111, 45, 114, 101, 112, 108, 105, 101, 100] ++ [] ++ []) :: r) = tellB now ++ fieldsF (some ([65, 117, 116, 111, 45, 83, 117, 98, 109, 105, 116, 116, 101, 100], v)) r := ⟨_, fun now r => field_step (nm := [65, 117, 116, 111, 45, 83, 117, 98, 109, 105, 116, 116, 101, 100]) (by decide) (by decide) rfl⟩
    obtain ⟨v5, h5⟩ : ∃ v, ∀ (now : Option (Bytes × Bytes)) (r : List Bytes), fieldsF now (([77, 73, 77, 69, 45, 86, 101, 114, 115, 105, 111, 110, 58, 32, 49, 46, 48] ++ [] ++ []) :: r) = tellB now ++ fieldsF (some ([77, 73, 77, 69, 45, 86, 101, 114, 115, 105, 111, 110], v)) r := ⟨_, fun now r => field_step (nm := [77, 73, 77, 69, 45, 86, 101, 114, 115, 105, 111, 110]) (by decide) (by decide) rfl⟩
    obtain ⟨v6, h6⟩ : ∃ v, ∀ (now : Option (Bytes × Bytes)) (r : List Bytes), fieldsF now (([67, 111, 110, 116, 101, 110, 116, 45, 84, 121, 112, 101, 58, 32, 109, 117, 108, 116, 105, 112, 97, 114, 116, 47, 114, 101, 112, 111, 114, 116, 59, 32, 114, 101, 112, 111, 114, 116, 45, 116, 121, 112, 101, 61, 100, 101, 108, 105, 118, 101, 114, 121, 45, 115, 116, 97, 116, 117, 115, 59, 32, 98, 111, 117, 110, 100, 97, 114, 121, 61, 34, 110, 45] ++ Lib.itoa n.id ++ [34]) :: r) = tellB now ++ fieldsF (some ([67, 111, 110, 116, 101, 110, 116, 45, 84, 121, 112, 101], v)) r := ⟨_, fun now r => field_step (nm := [67, 111, 110, 116, 101, 110, 116, 45, 84, 121, 112, 101]) (by decide) (by decide) rfl⟩
    refine ⟨trimB v1, trimB v2, trimB v3, trimB v4, trimB v5, trimB v6, ?_⟩
    refine (h1 none _).trans ?_
    refine (congrArg _ (h2 _ _)).trans ?_
    refine (congrArg _ (congrArg _ (h3 _ _))).trans ?_
    refine (congrArg _ (congrArg _ (congrArg _ (h4 _ _)))).trans ?_
    refine (congrArg _ (congrArg _ (congrArg _ (congrArg _ (h5 _ _))))).trans ?_
    refine (congrArg _ (congrArg _ (congrArg _ (congrArg _ (congrArg _ (h6 _ _)))))).trans ?_
    refine (congrArg _ (congrArg _ (congrArg _ (congrArg _ (congrArg _ (congrArg _ (field_end _ _))))))).trans ?_
    rfl
  obtain ⟨v1, v2, v3, v4, v5, v6, hf⟩ := hf
  unfold plainB getB
  rw [hf, like_no (by decide), like_no (by decide), like_no (by decide), like_no (by decide), like_no (by decide), like_no (by decide)]
  rfl
/-! ### The notice of an entry is no longer than at worst -/
theorem failB_size (f : FlP) : (failB f).length = f.dest.length + f.status.length + f.text.length + (failB ⟨[], [], []⟩).length := by
  unfold failB pc11 pc13 pc14
  simp only [List.length_append, lineB_len, List.length_nil]
  omega
def flAt (x : EntP) (i : Nat) : Bytes := match x.mail.rcpts[i]?, x.fates[i]? with
  | some r, some f => failB ⟨r.1, statusOf f.2, f.2⟩
  | _, _ => []
theorem fails_flat (x : EntP) : ∀ l : List Nat, (failsOf x l).flatMap failB = l.flatMap (flAt x)
  | [] => rfl
  | i :: l => by
    have ih := fails_flat x l
    unfold failsOf at ih ⊢
    rw [List.filterMap_cons, List.flatMap_cons]
    unfold flAt at ih ⊢
    cases hr : x.mail.rcpts[i]? with
    | none => simpa [hr] using ih
    | some r =>
      cases hf : x.fates[i]? with
      | none => simpa [hr, hf] using ih
      | some f => simpa [hr, hf] using ih
theorem filter_le {α : Type} (p q : α → Bool) (f g : α → Bytes) : ∀ l : List α, (∀ a ∈ l, p a = true → q a = true ∧ (f a).length ≤ (g a).length) → ((l.filter p).flatMap f).length ≤ ((l.filter q).flatMap g).length
  | [], _ => by simp
  | a :: l, h => by
    have ih := filter_le p q f g l fun b hb => h b (List.mem_cons_of_mem _ hb)
    cases hp : p a with
    | true =>
      obtain ⟨h1, h2⟩ := h a List.mem_cons_self hp
      rw [List.filter_cons_of_pos hp, List.filter_cons_of_pos h1, List.flatMap_cons, List.flatMap_cons, List.length_append, List.length_append]
      omega
    | false =>
      rw [List.filter_cons_of_neg (by rw [hp]; decide)]
      cases hq : q a with
      | true =>
        rw [List.filter_cons_of_pos hq, List.flatMap_cons, List.length_append]
        omega
      | false =>
        rw [List.filter_cons_of_neg (by rw [hq]; decide)]
        exact ih
theorem wide_stat : (statusOf wideT).length = 9 := by decide +kernel
theorem wide_len : wideT.length = 128 := by unfold wideT; simp
theorem fails_le {x : EntP} (h : MayN x) : ((failsOf x (badM x)).flatMap failB).length ≤ ((failsOf (wideX x.mail) (badM (wideX x.mail))).flatMap failB).length := by
  rw [fails_flat, fails_flat]
  have hl : (x.mail.rcpts.zip x.fates).length = ((wideX x.mail).mail.rcpts.zip (wideX x.mail).fates).length := by
    rw [List.length_zip, List.length_zip, wide_fates, List.length_replicate, h.len]
    rfl
  unfold badM plcM plcB
  rw [hl]
  refine filter_le _ _ _ _ _ fun i hi hp => ?_
  split at hp
  · rename_i p he
    rw [List.getElem?_zip_eq_some] at he
    obtain ⟨h1, h2⟩ := he
    have hi2 := (List.getElem?_eq_some_iff.1 h1).1
    have w2 : (wideX x.mail).fates[i]? = some (2, wideT) := by rw [wide_fates, List.getElem?_replicate, if_pos hi2]
    have w1 : (wideX x.mail).mail.rcpts[i]? = some p.1 := h1
    have w3 : ((wideX x.mail).mail.rcpts.zip (wideX x.mail).fates)[i]? = some (p.1, (2, wideT)) := by rw [List.getElem?_zip_eq_some]; exact ⟨w1, w2⟩
    rw [w3]
    unfold badOf at hp
    rw [Bool.and_eq_true] at hp
    refine ⟨?_, ?_⟩
    · show badOf p.1 (2, wideT) = true
      unfold badOf
      rw [hp.2]
      rfl
    · unfold flAt
      rw [h1, h2, w1, w2]
      dsimp only
      rw [failB_size, failB_size ⟨_, statusOf wideT, wideT⟩]
      dsimp only
      have s1 := statusB_len (stat_of p.2.2)
      have s2 := (wrong_lens (h.fates _ (List.mem_of_getElem? h2))).2
      rw [wide_stat, wide_len]
      omega
  · cases hp
theorem itoa_mono {n m : Int} (h0 : 0 ≤ n) (h : n ≤ m) : (Lib.itoa n).length ≤ (Lib.itoa m).length := by
  obtain ⟨a, rfl⟩ := Int.eq_ofNat_of_zero_le h0
  obtain ⟨b, rfl⟩ := Int.eq_ofNat_of_zero_le (show 0 ≤ m by omega)
  rw [itoa_nat, itoa_nat]
  exact decDigits_mono b a (by omega)
theorem clock_max {n : Int} (h : clockB n = true) : 0 ≤ n ∧ n ≤ 1099511627776 := by
  unfold clockB at h
  simpa using h
theorem most_le (m k : MailP) (hm : mailB m 4 4096 = 0) (hk : mailB k 4 4096 = 0) (h1 : m.sender = k.sender) (h2 : m.rcpts = k.rcpts) (h3 : m.req = k.req) (h4 : m.envid = k.envid) (h5 : m.text.length ≤ k.text.length) : mostN m ≤ mostN k := by
  have e1 : mayN (fullN 119 m) = true := by rw [may_full 119 rfl, hm]; rfl
  have e2 : mayN (fullN 119 k) = true := by rw [may_full 119 rfl, hk]; rfl
  unfold mostN
  rw [if_pos e1, if_pos e2]
  have h6 := txtB_mono h5
  unfold encB fullN makeN
  dsimp only
  rw [h1, h2, h3, h4]
  simp only [List.length_append]
  omega
/-- An entry's notice's entry, and what becomes of it, has so many bytes at most. -/
theorem most_enc {x : EntP} (h : mayN x = true) : (encB x).length ≤ mostN x.mail := by
  have hm := ((mayN_iff x).1 h).mail
  have e1 : mayN (fullN 119 x.mail) = true := by rw [may_full 119 rfl, hm]; rfl
  unfold mostN
  rw [if_pos e1]
  exact enc_most h 119
/-- What NoticeMay asks of an entry that has a notice. -/
structure MadeP (host : Bytes) (x : EntP) (id : Int) : Prop where
  may : MayN x
  not : MayO (notOf host x id)
  made : madeN host x id = (notOf host x id, true)
  wide : (madeN host (wideX x.mail) 1099511627776).2 = true
  fails : (notOf host x id).failed.length = (badM x).length
theorem made_parts {host : Bytes} {x : EntP} {id : Int} (h : (madeN host x id).2 = true) : MadeP host x id := by
  obtain ⟨h1, h2, h3, h4, h5, h6, h7⟩ := (made_iff host x id).1 h
  have hm := (mayN_iff x).1 h1
  have hmm := made_may h
  refine ⟨hm, (mayNot_iff _).1 (by rw [← hmm.1]; exact hmm.2), Prod.ext hmm.1 h, (made_wide host x.mail).2 ⟨hm.mail, h3, ?_, h5⟩, fails_all _ fun _ h => h⟩
  obtain ⟨i, l, he⟩ := List.exists_cons_of_ne_nil h4
  obtain ⟨r, f, g1, -, g3⟩ := bad_mem.1 (show i ∈ badM x by rw [he]; exact List.mem_cons_self)
  unfold badOf at g3
  rw [Bool.and_eq_true, Bool.not_eq_true'] at g3
  exact ⟨r, List.mem_of_getElem? g1, g3.2⟩
theorem mostNo_of {host : Bytes} {x : EntP} {id : Int} (h : (madeN host x id).2 = true) : mostNo host x.mail ≠ 0 ∧ mostN (tellM (notOf host x id) x.mail.req) ≤ mostNo host x.mail := by
  have hp := made_parts h
  have hw := made_may hp.wide
  have hwo := (mayNot_iff _).1 hw.2
  rw [mostNo_yes hp.wide]
  refine ⟨fun e => (mostN_pos _).1 e (tell_mail hwo _), ?_⟩
  refine most_le _ _ (tell_mail hp.not _) (tell_mail hwo _) rfl ?_ rfl rfl ?_
  · rw [hw.1]; rfl
  · show (textN _).length ≤ (textN _).length
    rw [hw.1]
    have hid := clock_max hp.not.idc
    have hat := clock_max hp.not.at_
    exact textN_le (itoa_mono hid.1 hid.2) (Nat.le_refl _) rfl rfl (itoa_mono hat.1 hat.2) (fails_le hp.may)
/-- The notice's entry. -/
theorem tell_may {host : Bytes} {x : EntP} {id now : Int} (h : (madeN host x id).2 = true) (hn : clockB now = true) : mayN (makeN id now (tellM (notOf host x id) x.mail.req)) = true := by
  have hp := made_parts h
  have hi := hp.not.id
  have hc := hp.not.idc
  rw [may_make, tell_mail hp.not, hn]
  have h1 : (notOf host x id).id = id := rfl
  rw [h1] at hi hc
  rw [hc, decide_eq_true (show (1 : Int) ≤ id by omega)]
  rfl
theorem tell_plain {host : Bytes} {x : EntP} {id now : Int} (h : (madeN host x id).2 = true) : (makeN id now (tellM (notOf host x id) x.mail.req)).plain = false := by
  show plainM (tellM (notOf host x id) x.mail.req) = false
  unfold plainM
  have : (tellM (notOf host x id) x.mail.req).text = textN (notOf host x id) := rfl
  rw [this, plain_no (made_parts h).not]
  rfl
theorem tell_jobs {host : Bytes} {x : EntP} {id now : Int} (h : (madeN host x id).2 = true) : ∃ d, (makeN id now (tellM (notOf host x id) x.mail.req)).jobs = [⟨d, 0, now⟩] := by
  have hp := made_parts h
  have hd := hp.not.dest
  unfold addrB at hd
  cases he : parseB (notOf host x id).dest with
  | none => rw [he] at hd; cases hd
  | some p =>
    refine ⟨p.2, ?_⟩
    show (domsM [((notOf host x id).dest, false)]).map _ = _
    have : domsM [((notOf host x id).dest, false)] = [p.2] := by
      unfold domsM domsOf
      simp [he, insB]
    rw [this]
    rfl
/-- What has no sender has no notice. -/
theorem made_nobody {host : Bytes} {x : EntP} {id : Int} (h : x.mail.sender = []) : (madeN host x id).2 = false := by
  cases hm : (madeN host x id).2 with
  | false => rfl
  | true => exact absurd h ((made_iff host x id).1 hm).2.2.1
end Go.Proofs.YtlpngibdplnieaaGreatDoor

/- notice.read of a notice's own text, in plain Lean. -/
namespace Go.Proofs.YtlpngibdplnieaaGreatDoor
open Go

theorem pre_app (a s : Bytes) : Lib.hasPrefix (a ++ s) a = true := by
  unfold Lib.hasPrefix
  rw [List.isPrefixOf_iff_prefix]
  exact List.prefix_append a s
theorem suf_app (s b : Bytes) : Lib.hasSuffix (s ++ b) b = true := by
  unfold Lib.hasSuffix
  rw [List.isSuffixOf_iff_suffix]
  exact List.suffix_append s b
theorem trimP_app (a s : Bytes) : Lib.trimPrefix (a ++ s) a = s := by
  unfold Lib.trimPrefix
  rw [pre_app]
  simp
theorem trimS_app (s b : Bytes) : Lib.trimSuffix (s ++ b) b = s := by
  unfold Lib.trimSuffix
  rw [suf_app]
  simp
/-- A line that was written is read. -/
theorem lineR_line {a t b r : Bytes} (h : (13 : UInt8) ∉ a ++ (t ++ b)) : lineR a b (lineB a t b ++ r) = some (t, r) := by
  have e : lineB a t b ++ r = (a ++ (t ++ b)) ++ 13 :: 10 :: r := by
    unfold lineB
    simp only [List.append_assoc, List.cons_append, List.nil_append]
  unfold lineR
  rw [e, cut_crlf r _ h]
  dsimp only
  rw [pre_app, trimP_app, suf_app, trimS_app, if_pos ⟨rfl, rfl, rfl⟩]
theorem no13 {a t b : Bytes} (ha : a.all okC = true) (ht : ∀ c ∈ t, okC c = true) (hb : b.all okC = true) : (13 : UInt8) ∉ a ++ (t ++ b) := by
  intro h
  rcases List.mem_append.1 h with h | h
  · exact okC_13 (List.all_eq_true.1 ha _ h) rfl
  · rcases List.mem_append.1 h with h | h
    · exact okC_13 (ht _ h) rfl
    · exact okC_13 (List.all_eq_true.1 hb _ h) rfl
theorem barsR_bar (ls : List Bytes) (r : Bytes) (h : ls.all (fun s => s.all okC) = true) : barsR ls (barB ls ++ r) = some r := by
  induction ls with
  | nil => rfl
  | cons s ls ih =>
    rw [List.all_cons, Bool.and_eq_true] at h
    have e : barB (s :: ls) ++ r = lineB s [] [] ++ (barB ls ++ r) := by
      unfold barB
      rw [List.flatMap_cons, List.append_assoc]
    unfold barsR barR
    rw [e, lineR_line (no13 h.1 (fun c hc => by cases hc) rfl)]
    exact ih h.2
theorem run_sh {a b t r : Bytes} {f : Nat} {st : RdS} (hs : st.rest = lineB a t b ++ r) (ha : a.all okC = true) (ht : ∀ c ∈ t, okC c = true) (hb : b.all okC = true) : runP (.sh a b f) st = some (setR st f t r) := by
  show (lineR a b st.rest).map (fun p => setR st f p.1 p.2) = _
  rw [hs, lineR_line (no13 ha ht hb)]
  rfl
theorem run_ba {ls : List Bytes} {r : Bytes} {st : RdS} (hs : st.rest = barB ls ++ r) (h : ls.all (fun s => s.all okC) = true) : runP (.ba ls) st = some { st with rest := r } := by
  show (barsR ls st.rest).map (fun r => { st with rest := r }) = _
  rw [hs, barsR_bar ls r h]
  rfl
theorem runL_sh {a b t r : Bytes} {f : Nat} {l : List PcR} {st : RdS} (hs : st.rest = lineB a t b ++ r) (ha : a.all okC = true) (ht : ∀ c ∈ t, okC c = true) (hb : b.all okC = true) : runL (.sh a b f :: l) st = runL l (setR st f t r) := by
  rw [show runL (.sh a b f :: l) st = match runP (.sh a b f) st with | some st => runL l st | none => none from rfl, run_sh hs ha ht hb]
theorem runL_ba {ls : List Bytes} {r : Bytes} {l : List PcR} {st : RdS} (hs : st.rest = barB ls ++ r) (h : ls.all (fun s => s.all okC) = true) : runL (.ba ls :: l) st = runL l { st with rest := r } := by
  rw [show runL (.ba ls :: l) st = match runP (.ba ls) st with | some st => runL l st | none => none from rfl, run_ba hs h]
/-- The lines of the failures. -/
theorem loop_text {z : Bytes} (hz : moreR [] z = false) : ∀ (fs : List FlP) (k : Nat) (st : RdS), st.rest = fs.flatMap failB ++ z → fs.any badFl = false → fs.length ≤ k → loopR k st = some { st with n := { st.n with failed := st.n.failed ++ fs }, rest := z }
  | [], k, st, hs, _, _ => by
    have hm : moreR [] st.rest = false := by rw [hs]; exact hz
    have e : st = { st with n := { st.n with failed := st.n.failed ++ [] }, rest := z } := by
      rw [List.append_nil]
      obtain ⟨n, i, a, r⟩ := st
      have : r = z := by simpa using hs
      subst this
      rfl
    rw [← e]
    cases k with
    | zero => rfl
    | succ k => rw [show loopR (k + 1) st = if moreR [] st.rest = true then match runL failP (moreF st) with | some st => loopR k st | none => none else some st from rfl, if_neg (by rw [hm]; decide)]
  | f :: fs, 0, st, _, _, hk => by simp at hk
  | f :: fs, k + 1, st, hs, hb, hk => by
    rw [List.any_cons, Bool.or_eq_false_iff] at hb
    have hbf := hb.1
    unfold badFl at hbf
    simp only [Bool.or_eq_false_iff, Bool.not_eq_false', decide_eq_false_iff_not, ne_eq, Decidable.not_not] at hbf
    have o1 := addrB_ok hbf.1
    have o2 := statusB_ok hbf.2.1
    have o3 := wordB_ok hbf.2.2
    obtain ⟨rr, hrr⟩ : ∃ rr, rr = fs.flatMap failB ++ z := ⟨_, rfl⟩
    have hs2 : st.rest = pc10 ++ (pc11 f ++ (pc12 ++ (pc13 f ++ (pc14 f ++ rr)))) := by
      rw [hs, List.flatMap_cons, hrr]
      unfold failB
      simp only [List.append_assoc]
    have hm : moreR [] st.rest = true := by
      rw [hs2]
      unfold moreR pc10 barB lineB
      rw [if_pos rfl]
      exact pre_app [13, 10] _
    have key : runL failP (moreF st) = some { st with n := { st.n with failed := st.n.failed ++ [f] }, rest := rr } := by
      unfold failP
      rw [runL_ba (st := moreF st) (show (moreF st).rest = _ from hs2) (by decide)]
      rw [runL_sh (t := f.dest) (by show pc11 f ++ _ = _; rfl) (by decide) o1 (by decide)]
      rw [runL_ba (show pc12 ++ _ = _ from rfl) (by decide)]
      rw [runL_sh (t := f.status) (by show pc13 f ++ _ = _; rfl) (by decide) o2 (by decide)]
      rw [runL_sh (t := f.text) (by show pc14 f ++ _ = _; rfl) (by decide) o3 (by decide)]
      show some ({ st with n := { st.n with failed := setLast (setLast (setLast (st.n.failed ++ [emptyF]) fun g => { g with dest := f.dest }) fun g => { g with status := f.status }) fun g => { g with text := f.text } }, rest := rr } : RdS) = _
      rw [setLast_snoc, setLast_snoc, setLast_snoc]
    rw [show loopR (k + 1) st = if moreR [] st.rest = true then match runL failP (moreF st) with | some st => loopR k st | none => none else some st from rfl, if_pos hm, key]
    have ih := loop_text hz fs k { st with n := { st.n with failed := st.n.failed ++ [f] }, rest := rr } hrr hb.2 (by simpa using hk)
    refine ih.trans ?_
    dsimp only
    rw [List.append_assoc]
    rfl
theorem kL_of {k : Nat} {st st' : RdS} (h : loopR k st = some st') : kL k st = kZ st' := by
  unfold kL
  rw [h]
theorem lines_text {n : NotP} (h : MayO n) : linesR (textN n) = some ⟨{ n with id := 0, at_ := 0 }, Lib.itoa n.id, Lib.itoa n.at_, []⟩ := by
  have hev := h.envid
  unfold envidB at hev
  rw [Bool.and_eq_true, decide_eq_true_eq] at hev
  have hi := clockN_le h.idc
  have ha := clockN_le h.at_
  have o1 := itoa_ok hi.1
  have o2 := itoa_ok ha.1
  have oh := mayB_ok h.host
  have od := addrB_ok h.dest
  have oe := envB_ok hev.1
  obtain ⟨ids, hids⟩ : ∃ ids, ids = Lib.itoa n.id := ⟨_, rfl⟩
  obtain ⟨ats, hats⟩ : ∃ ats, ats = Lib.itoa n.at_ := ⟨_, rfl⟩
  rw [← hids] at o1 ⊢
  rw [← hats] at o2 ⊢
  have hz : moreR [] (pcZ ids) = false := rfl
  obtain ⟨r3, hr3⟩ : ∃ r3, r3 = n.failed.flatMap failB ++ pcZ ids := ⟨_, rfl⟩
  obtain ⟨r2, hr2⟩ : ∃ r2, r2 = (if n.envid = [] then [] else pcE n) ++ (pcA ats ++ r3) := ⟨_, rfl⟩
  have ht : textN n = pc0 n ++ (pc1 n ++ (pc2 ++ (pc3 ids ++ (pc4 ++ (pc5 ids ++ (pc6 ++ (pc7 ids ++ (pc8 ++ (pc9 n ++ r2))))))))) := by
    unfold textN noteB head3B head2B
    rw [← hids, ← hats, hr2, hr3]
    split
    · unfold headB
      simp only [List.nil_append, List.append_assoc]
    · unfold headB
      simp only [List.nil_append, List.append_assoc]
  have hhead : runL headP (startR (textN n)) = some ⟨{ noNot with host := n.host, dest := n.dest }, ids, [], r2⟩ := by
    unfold headP
    rw [runL_sh (st := startR (textN n)) (t := n.host) (show (startR (textN n)).rest = _ from ht) (by decide +kernel) oh (by decide +kernel)]
    rw [runL_sh (t := n.dest) (by show pc1 n ++ _ = _; rfl) (by decide +kernel) od (by decide +kernel)]
    rw [runL_ba (show pc2 ++ _ = _ from rfl) (by decide +kernel)]
    rw [runL_sh (t := ids) (by show pc3 ids ++ _ = _; rfl) (by decide +kernel) o1 (by decide +kernel)]
    rw [runL_ba (show pc4 ++ _ = _ from rfl) (by decide +kernel)]
    rw [runL_sh (t := ids) (by show pc5 ids ++ _ = _; rfl) (by decide +kernel) o1 (by decide +kernel)]
    rw [runL_ba (show pc6 ++ _ = _ from rfl) (by decide +kernel)]
    rw [runL_sh (t := ids) (by show pc7 ids ++ _ = _; rfl) (by decide +kernel) o1 (by decide +kernel)]
    rw [runL_ba (show pc8 ++ _ = _ from rfl) (by decide +kernel)]
    rw [runL_sh (t := n.host) (by show pc9 n ++ _ = _; rfl) (by decide +kernel) oh (by decide +kernel)]
    rfl
  have hlast : kL r3.length ⟨{ noNot with host := n.host, dest := n.dest, envid := n.envid }, ids, ats, r3⟩ = some ⟨{ n with id := 0, at_ := 0 }, ids, ats, []⟩ := by
    have hfl : n.failed.length ≤ r3.length := by
      have key : ∀ fs : List FlP, fs.length ≤ (fs.flatMap failB).length := by
        intro fs
        induction fs with
        | nil => simp
        | cons f fs ih =>
          rw [List.flatMap_cons, List.length_append, List.length_cons, failB_size]
          have : 1 ≤ (failB ⟨[], [], []⟩).length := by decide +kernel
          omega
      have := key n.failed
      rw [hr3, List.length_append]
      omega
    have hl := loop_text hz n.failed r3.length ⟨{ noNot with host := n.host, dest := n.dest, envid := n.envid }, ids, ats, r3⟩ hr3 h.each hfl
    have hkl : kL r3.length ⟨{ noNot with host := n.host, dest := n.dest, envid := n.envid }, ids, ats, r3⟩ = kZ _ := kL_of hl
    rw [hkl]
    unfold kZ
    rw [run_sh (t := ids) (r := []) (by show pcZ ids = _; unfold pcZ; rw [List.append_nil]) (by decide +kernel) o1 (by decide +kernel)]
    rfl
  unfold linesR kH
  rw [hhead]
  show kE _ = _
  by_cases he : n.envid = []
  · have hm : moreR [79, 114, 105, 103, 105, 110, 97, 108, 45, 69, 110, 118, 101, 108, 111, 112, 101, 45, 73, 100, 58, 32] r2 = false := by
      rw [hr2, if_pos he]
      rfl
    rw [kE_no hm, kA_some (run_sh (t := ats) (r := r3) (by show r2 = _; rw [hr2, if_pos he]; rfl) (by decide +kernel) o2 (by decide +kernel))]
    refine Eq.trans ?_ hlast
    show kL r3.length _ = _
    rw [he]
    rfl
  · have hm : moreR [79, 114, 105, 103, 105, 110, 97, 108, 45, 69, 110, 118, 101, 108, 111, 112, 101, 45, 73, 100, 58, 32] r2 = true := by
      rw [hr2, if_neg he]
      unfold moreR pcE lineB
      rw [if_neg (by decide), List.append_assoc]
      exact pre_app _ _
    rw [kE_yes hm (run_sh (t := n.envid) (r := pcA ats ++ r3) (by show r2 = _; rw [hr2, if_neg he]; rfl) (by decide +kernel) oe (by decide +kernel)), kA_some (run_sh (t := ats) (r := r3) (by show pcA ats ++ r3 = _; rfl) (by decide +kernel) o2 (by decide +kernel))]
    exact hlast
end Go.Proofs.YtlpngibdplnieaaGreatDoor

/- NoticeBack: what its functions answer, in plain Lean. -/
namespace Go.Proofs.YtlpngibdplnieaaGreatDoor
open Go

/-- What is read, written, is the text. -/
theorem readN_spec {s : Bytes} {m : NotP} (h : readN s = some m) : mayNot m = true ∧ textN m = s := by
  unfold readN at h
  split at h
  · split at h
    · rename_i hc
      injection h with h
      subst h
      exact ⟨hc.2.2.1, hc.2.2.2⟩
    · cases h
  · cases h
/-- What was written is read as it was. -/
theorem readN_text {n : NotP} (h : mayNot n = true) : readN (textN n) = some n := by
  have ho := (mayNot_iff n).1 h
  have hl := lines_text ho
  have hi := clock_max ho.idc
  have ha := clock_max ho.at_
  obtain ⟨i, hi2⟩ := Int.eq_ofNat_of_zero_le hi.1
  obtain ⟨a, ha2⟩ := Int.eq_ofNat_of_zero_le ha.1
  have hf : readF (textN n) = some ⟨{ n with id := 0, at_ := 0 }, Lib.itoa n.id, Lib.itoa n.at_, []⟩ := by
    unfold readF
    rw [hl]
    rfl
  have h1 : numC (Lib.itoa n.id) 1099511627776 = (i, 0) := by
    rw [hi2]
    rw [show (Lib.itoa (i : Int)) = Lib.decDigits i from itoa_nat i]
    exact numC_dec i _ (by omega)
  have h2 : numC (Lib.itoa n.at_) 1099511627776 = (a, 0) := by
    rw [ha2]
    rw [show (Lib.itoa (a : Int)) = Lib.decDigits a from itoa_nat a]
    exact numC_dec a _ (by omega)
  have hm : readM ⟨{ n with id := 0, at_ := 0 }, Lib.itoa n.id, Lib.itoa n.at_, []⟩ = n := by
    unfold readM
    dsimp only
    rw [h1, h2]
    obtain ⟨id, host, dest, envid, at_, failed⟩ := n
    dsimp only at hi2 ha2 ⊢
    rw [hi2, ha2]
  unfold readN
  rw [hf]
  dsimp only
  rw [hm, h1, h2, if_pos ⟨rfl, rfl, h, rfl⟩]
end Go.Proofs.YtlpngibdplnieaaGreatDoor

/- The laws' own helper: long. -/
namespace Go.Proofs.YtlpngibdplnieaaGreatDoor
open Go Go.RowKit Go.Shelf Go.Sort
attribute [local go_sem] bneI

/-- What a notice that is not long has. -/
structure SmallN (n : NotP) : Prop where
  host : n.host.length < 9000
  dest : n.dest.length < 9000
  envid : n.envid.length < 9000
  failed : n.failed.length < 1800
  each : ∀ f ∈ n.failed, f.dest.length < 9000 ∧ f.status.length < 9000 ∧ f.text.length < 9000
theorem SmallN.short {n : NotP} (h : SmallN n) : ShortN n := ⟨by have := h.host; unfold maxLen; omega, by have := h.dest; omega, by have := h.envid; omega, by have := h.failed; omega, fun f hf => ⟨by have := h.each f hf; omega, by have := h.each f hf; omega, by have := h.each f hf; omega⟩⟩
theorem lng_w3 {n a b c : Nat} (h : n < 9000) : wrap64 ((n : Int) + 10 + min 9000 (a : Int) + min 9000 (b : Int)) = (n : Int) + 10 + min 9000 (a : Int) + min 9000 (b : Int) ∧ wrap64 ((n : Int) + 10 + min 9000 (a : Int) + min 9000 (b : Int) + min 9000 (c : Int)) = (n : Int) + 10 + min 9000 (a : Int) + min 9000 (b : Int) + min 9000 (c : Int) := by unfold wrap64; omega
theorem lng_rel (n a b c : Nat) : (n : Int) + 10 + min 9000 (a : Int) + min 9000 (b : Int) + min 9000 (c : Int) = ((n + 10 + min 9000 a + min 9000 b + min 9000 c : Nat) : Int) := by omega
theorem lng_b {n0 i n a b c : Nat} (h : n0 + 5 * i ≤ n) : n0 + 5 * (i + 1) ≤ n + 10 + min 9000 a + min 9000 b + min 9000 c := by omega
theorem lng_c {n a b c : Nat} (h : n < 9000) : n + 10 + min 9000 a + min 9000 b + min 9000 c ≤ 40000 := by omega
theorem lng_n {n a b c : Nat} (h : n + 10 + min 9000 a + min 9000 b + min 9000 c < 9000) : n < 9000 ∧ a < 9000 ∧ b < 9000 ∧ c < 9000 := by omega
theorem lng_k {a k n : Nat} (h : a + 5 * k ≤ n) (hn : n ≤ 40000) : k < 30000 := by omega
def LongPost22 (n : NotP) (e : Ending) : Prop := ∃ v, e = .returned (.bool v) ∧ (v = false → SmallN n)
set_option linter.unusedSimpArgs false in
set_option maxRecDepth 100000 in
set_option maxHeartbeats 8000000 in
theorem long22_any (x : NotP) (fv : Value) (w : World) (hx : RowK 3 flE w fv x.failed) :
    Calls Tryz.prog 28 #[notV x fv] w fun e w' => LongPost22 x e ∧ Below w.heap.size w w' := by
  obtain ⟨p, c, rfl, -⟩ := hx.sh
  obtain ⟨W1, hW1⟩ : ∃ W1, W1 = w.alloc (.cells (notC x (.slice p x.failed.length c)).toArray 34) := ⟨_, rfl⟩
  have hB1 : Below w.heap.size w W1 := by rw [hW1]; exact (Below.refl _ w).alloc (Nat.le_refl _) _
  have hb1 : W1.heap[w.heap.size]? = some (.cells (notC x (.slice p x.failed.length c)).toArray 34 (0, 0)) := by rw [hW1]; exact ha_eq rfl
  have HX := Lib.hid (And.intro (hx.below hB1) (And.intro hB1 hb1))
  unfold notV
  unfold notC at hW1 hb1 ⊢
  obtain ⟨x0, x1, x2, x3, x4, x5⟩ := nobox hb1
  obtain ⟨bx, hbx⟩ : ∃ bx, bx = w.heap.size := ⟨_, rfl⟩
  clear hx hB1 hb1
  have a1 : wrap64 (min 9000 (x.host.length : Int) + min 9000 (x.dest.length : Int)) = min 9000 (x.host.length : Int) + min 9000 (x.dest.length : Int) := by unfold wrap64; omega
  have a2 : wrap64 (min 9000 (x.host.length : Int) + min 9000 (x.dest.length : Int) + min 9000 (x.envid.length : Int)) = min 9000 (x.host.length : Int) + min 9000 (x.dest.length : Int) + min 9000 (x.envid.length : Int) := by unfold wrap64; omega
  go_enter Tryz.func28, Tryz.ntmps28
  go_upto_region 1 with (fail)
  rw [← hW1]
  rw [← hbx] at x0 x1 x2 x3 x4 x5 ⊢
  clear hW1
  have HBX := Lib.hid hbx
  clear hbx
  go_wp2_with fail
  obtain ⟨n0, hn0⟩ : ∃ n0 : Nat, min 9000 (x.host.length : Int) + min 9000 (x.dest.length : Int) + min 9000 (x.envid.length : Int) = (n0 : Int) := ⟨(min 9000 (x.host.length : Int) + min 9000 (x.dest.length : Int) + min 9000 (x.envid.length : Int)).toNat, by omega⟩
  rw [hn0]
  have HN := Lib.hid (show n0 ≤ 40000 ∧ (n0 < 9000 → x.host.length < 9000 ∧ x.dest.length < 9000 ∧ x.envid.length < 9000) by constructor <;> omega)
  have HC := Lib.hid x5
  clear hn0 a1 a2 x0 x1 x2 x3 x4 x5
  go_loopw [3, 4] (fun s3 s4 wr => ∃ (i n : Nat), s3 = .int .i64 (n : Int) ∧ s4 = .int .i64 (i : Int) ∧ i ≤ x.failed.length ∧ n0 + 5 * i ≤ n ∧ n ≤ 40000 ∧ (n < 9000 → ∀ y ∈ x.failed.take i, y.dest.length < 9000 ∧ y.status.length < 9000 ∧ y.text.length < 9000) ∧ Below W1.heap.size W1 wr) (fun _ s4 _ => x.failed.length - natI s4)
  case atStart => exact ⟨0, n0, rfl, rfl, Nat.zero_le _, Nat.le_refl _, HN.out.1, by simp, Below.refl _ _⟩
  case round =>
    obtain ⟨i, n, rfl, rfl, hi, hin, hn, hts, hB⟩ := hrel
    have c8 := (hB.cell (p := ⟨_, _, none⟩) (cell_lt HC.out)).trans HC.out
    have HR := Lib.hid (And.intro hin (And.intro hts hB))
    have HK := Lib.hid (And.intro (lng_k hin hn) hn)
    clear hin hts hB hn
    go_upto_region 3 with (fail)
    go_cut [28] from 20 to 52 (fun s28 w' => s28 = .bool (decide (i < x.failed.length ∧ n < 9000)) ∧ w' = wr)
    case first =>
      by_cases hkl : i < x.failed.length
      · have hkli : (i : Int) < (x.failed.length : Int) := by omega
        by_cases hsm2 : n < 9000
        · have hsi2 : (n : Int) < 9000 := by omega
          go_wp2
          go_meet
          case rel => exact ⟨by simp [hkl, hsm2], rfl⟩
        · have hsi2 : ¬ (n : Int) < 9000 := by omega
          go_wp2
          go_meet
          case rel => exact ⟨by simp [hkl, hsm2], rfl⟩
      · have hkli : ¬ (i : Int) < (x.failed.length : Int) := by omega
        go_wp2
        go_meet
        case rel => exact ⟨by simp [hkl], rfl⟩
    case rest =>
      obtain ⟨rfl, rfl⟩ := hcut
      by_cases hg : i < x.failed.length ∧ n < 9000
      · rw [decide_eq_true hg]
        obtain ⟨hkl, hsm2⟩ := hg
        have hkli : (i : Int) < (x.failed.length : Int) := by omega
        obtain ⟨b2, o2, rfl, hc⟩ := (HX.out.1.below HR.out.2.2).at i hkl
        have htk : x.failed.take (i + 1) = x.failed.take i ++ [x.failed[i]] := List.take_succ_eq_append_getElem hkl
        replace hc := hc i hkl
        obtain ⟨f, hf⟩ : ∃ f, f = x.failed[i] := ⟨_, rfl⟩
        rw [← hf] at hc htk
        have y0 : wc.cell? ⟨b2, o2 + i * 3, none⟩ = some (.string ⟨f.dest.toArray⟩) := hc 0 _ rfl
        have y1 : wc.cell? ⟨b2, o2 + i * 3 + 1, none⟩ = some (.string ⟨f.status.toArray⟩) := hc 1 _ rfl
        have y2 : wc.cell? ⟨b2, o2 + i * 3 + 2, none⟩ = some (.string ⟨f.text.toArray⟩) := hc 2 _ rfl
        clear hf hc
        have hw1 := lgr_wr1 HK.out.1
        have a1 := lgr_wr10 hsm2
        have a2 := lgr_wr10m (l := f.dest.length) hsm2
        obtain ⟨a3, a4⟩ := lng_w3 (a := f.dest.length) (b := f.status.length) (c := f.text.length) hsm2
        have hnx : n + 10 + min 9000 f.dest.length + min 9000 f.status.length + min 9000 f.text.length < 9000 → ∀ y ∈ x.failed.take (i + 1), y.dest.length < 9000 ∧ y.status.length < 9000 ∧ y.text.length < 9000 := by
          intro hlt y hy
          rw [htk] at hy
          rcases List.mem_append.1 hy with hy | hy
          · exact HR.out.2.1 (lng_n hlt).1 y hy
          · have : y = f := by simpa using hy
            subst this
            exact (lng_n hlt).2
        have HNX := Lib.hid hnx
        clear hnx htk
        have hal : ∀ o, Below W1.heap.size W1 (wc.alloc o) := fun o => HR.out.2.2.trans (((Below.refl _ wc).alloc (Nat.le_refl _) o).mono HR.out.2.2.size)
        have HAL := Lib.hid hal
        clear hal
        go_wp2
        go_roundw
        case rel => exact ⟨i + 1, n + 10 + min 9000 f.dest.length + min 9000 f.status.length + min 9000 f.text.length, congrArg (Value.int .i64) (lng_rel _ _ _ _), congrArg (Value.int .i64) (hw1.trans (lgr_s _)), hkl, lng_b HR.out.1, lng_c hsm2, HNX.out, HAL.out _⟩
        case measure => (simp [natI, hw1]; omega)
      · rw [decide_eq_false hg]
        have hS : n < 9000 → SmallN x := fun h => ⟨(HN.out.2 (lgr_a HR.out.1 h)).1, (HN.out.2 (lgr_a HR.out.1 h)).2.1, (HN.out.2 (lgr_a HR.out.1 h)).2.2, lgr_len HR.out.1 h (lgr_of_g hg h), fun y hy => HR.out.2.1 h y (by rw [List.take_of_length_le (lgr_of_g hg h)]; exact hy)⟩
        have hfin : decide (9000 ≤ (n : Int)) = false → SmallN x := fun h => hS (by have h3 := of_decide_eq_false h; omega)
        have HF := Lib.hid hfin
        have HBL := Lib.hid HR.out.2.2
        clear hfin hS hg hi HR HK c8
        go_wp2
        refine bodyPost_ret (v := .bool (decide (9000 ≤ (n : Int)))) (by simp [results, Tryz.results28, go_sem]) rfl ⟨⟨_, rfl, HF.out⟩, HX.out.2.1.trans (HBL.out.mono HX.out.2.1.size)⟩
end Go.Proofs.YtlpngibdplnieaaGreatDoor

/- NoticeBack: the walk. -/
namespace Go.Proofs.YtlpngibdplnieaaGreatDoor
open Go Go.RowKit Go.Shelf Go.Sort
attribute [local go_sem] bneI

set_option linter.unusedSimpArgs false in
set_option linter.unusedVariables false in
set_option maxRecDepth 1000000 in
set_option maxHeartbeats 16000000 in
theorem noticeBack_any (n : NotP) (s : Bytes) (fv : Value) (w : World) (hn : RowK 3 flE w fv n.failed) (hE : Env8 w) :
    Calls Tryz.prog 7 #[notV n fv, .string ⟨s.toArray⟩] w fun e w' => e = .returned (.bool true) ∧ Below w.heap.size w w' := by
  obtain ⟨p, c, rfl, -⟩ := hn.sh
  obtain ⟨W1, hW1⟩ : ∃ W1, W1 = w.alloc (.cells (notC n (.slice p n.failed.length c)).toArray 34) := ⟨_, rfl⟩
  have hB1 : Below w.heap.size w W1 := by rw [hW1]; exact (Below.refl _ w).alloc (Nat.le_refl _) _
  have hb1 : W1.heap[w.heap.size]? = some (.cells (notC n (.slice p n.failed.length c)).toArray 34 (0, 0)) := by rw [hW1]; exact ha_eq rfl
  obtain ⟨bx, hbx⟩ : ∃ bx, bx = w.heap.size := ⟨_, rfl⟩
  rw [← hbx] at hb1
  have HX := Lib.hid (And.intro (hn.below hB1) (And.intro (hE.keep hB1) (And.intro hB1 hb1)))
  have hWk := works22_any W1 (hE.keep hB1).env
  unfold notV
  unfold notC at hW1 ⊢
  clear hn hE hB1 hb1
  go_enter Tryz.func7, Tryz.ntmps7
  go_upto_region 1 with (fail)
  rw [← hW1, ← hbx]
  clear hW1 hbx
  go_wp2_with fail
  refine hWk.mono ?_
  rintro e w2 ⟨rfl, hb2⟩
  have H2 := Lib.hid (And.intro hb2 ((hb2.block _ (lt_of_cells HX.out.2.2.2)).trans HX.out.2.2.2))
  have hLg := long22_any n _ w2 (HX.out.1.below hb2)
  unfold notV notC at hLg
  have hx := H2.out.2
  unfold notC at hx
  obtain ⟨x0, x1, x2, x3, x4, x5⟩ := nobox hx
  clear hx
  clear hWk hb2
  go_wp2_with fail
  refine hLg.mono ?_
  rintro e w3 ⟨⟨v, rfl, hsm⟩, hb3⟩
  have H3 := Lib.hid (And.intro (H2.out.1.trans (hb3.mono H2.out.1.size)) ((hb3.block _ (lt_of_cells H2.out.2)).trans H2.out.2))
  clear hLg hb3 x0 x1 x2 x3 x4 x5
  have hWk := works22_any w3 (HX.out.2.1.keep H3.out.1).env
  have HB3 := Lib.hid (HX.out.2.2.1.trans (H3.out.1.mono HX.out.2.2.1.size))
  cases v with
  | true =>
    clear hsm
    go_wp2_with fail
    refine hWk.mono ?_
    rintro e w5 ⟨rfl, hb5⟩
    have HFIN := Lib.hid (HB3.out.trans (hb5.mono HB3.out.size))
    clear hWk hb5
    go_wp2
    refine bodyPost_ret (v := .bool true) (by simp [results, Tryz.results7, go_sem]) rfl ⟨rfl, HFIN.out⟩
  | false =>
    have HS := Lib.hid (hsm rfl).short
    clear hsm
    by_cases hlong : (9000 : Int) < (s.length : Int)
    · go_wp2_with fail
      refine hWk.mono ?_
      rintro e w5 ⟨rfl, hb5⟩
      have HFIN := Lib.hid (HB3.out.trans (hb5.mono HB3.out.size))
      clear hWk hb5
      go_wp2
      refine bodyPost_ret (v := .bool true) (by simp [results, Tryz.results7, go_sem]) rfl ⟨rfl, HFIN.out⟩
    · have HL := Lib.hid (show s.length ≤ 9000 by omega)
      clear hWk
      have hTx := text_any n _ w3 (HX.out.1.below H3.out.1) HS.out (HX.out.2.1.keep H3.out.1).env
      unfold notV notC at hTx
      have hx := H3.out.2
      unfold notC at hx
      obtain ⟨x0, x1, x2, x3, x4, x5⟩ := nobox hx
      clear hx
      go_upto_region 3 with (fail)
      clear hlong
      go_wp2_with fail
      refine hTx.mono ?_
      rintro e w4 ⟨hp, hb4⟩
      have H4 := Lib.hid (And.intro (H3.out.1.trans (hb4.mono H3.out.1.size)) ((hb4.block _ (lt_of_cells H3.out.2)).trans H3.out.2))
      have HB4 := Lib.hid (HX.out.2.2.1.trans (H4.out.1.mono HX.out.2.2.1.size))
      clear hTx hb4 x0 x1 x2 x3 x4 x5 HB3
      obtain ⟨tx, er, rfl, htx⟩ : ∃ (tx : Bytes) (er : Nat), e = .returned (.tuple #[.string ⟨tx.toArray⟩, .int .i64 (er : Int)]) ∧ ((mayNot n = true ∧ tx = textN n ∧ er = 0) ∨ (mayNot n = false ∧ tx = [] ∧ er = 4)) := by
        rcases hp with ⟨h, rfl⟩ | ⟨h, rfl⟩
        · exact ⟨_, 0, rfl, .inl ⟨h, rfl, rfl⟩⟩
        · exact ⟨[], 4, rfl, .inr ⟨h, rfl, rfl⟩⟩
      have HTX := Lib.hid htx
      clear hp htx
      go_upto_region 4 with (fail)
      go_cut [39] (fun s39 w' => s39 = .bool false ∧ Below w4.heap.size w4 w')
      case first =>
        have hMy := mayNot_any n _ w4 (HX.out.1.below H4.out.1) HS.out (HX.out.2.1.keep H4.out.1).env
        unfold notV notC at hMy
        have hx := H4.out.2
        unfold notC at hx
        obtain ⟨x0, x1, x2, x3, x4, x5⟩ := nobox hx
        clear hx
        go_wp2_with fail
        refine hMy.mono ?_
        rintro e w5 ⟨rfl, hb5⟩
        have H5 := Lib.hid hb5
        clear hMy hb5 x0 x1 x2 x3 x4 x5
        rcases HTX.out with ⟨hmy, htx, rfl⟩ | ⟨hmy, rfl, rfl⟩
        · have hle := textN_len ((mayNot_iff n).1 hmy)
          rw [← htx] at hle
          have e1 : ¬ (4096 : Int) < (tx.length : Int) := by omega
          rw [hmy]
          clear hmy htx hle
          go_wp2
          go_meet
          case rel => exact ⟨by simp [e1], H5.out⟩
        · rw [hmy]
          clear hmy
          go_wp2
          go_meet
          case rel => exact ⟨rfl, H5.out⟩
      case rest =>
        obtain ⟨rfl, hc⟩ := hcut
        have H6 := Lib.hid (And.intro (H4.out.1.trans (hc.mono H4.out.1.size)) ((hc.block _ (lt_of_cells H4.out.2)).trans H4.out.2))
        clear hc H4 HB4 H3 H2
        generalize hww : wc = w6 at *
        clear hww
        go_upto_if 41 with (fail)
        go_cut [] (fun w' => Below w6.heap.size w6 w')
        case first =>
          rcases HTX.out with ⟨hmy, htx, rfl⟩ | ⟨hmy, rfl, rfl⟩
          · have hle := textN_len ((mayNot_iff n).1 hmy)
            have hrt := readN_text hmy
            rw [← htx] at hle hrt
            have hRd := readN_any tx w6 (by omega) (HX.out.2.1.keep H6.out.1)
            have HRT := Lib.hid hrt
            clear hmy htx hle hrt
            go_wp2_with fail
            refine hRd.mono ?_
            rintro e w7 ⟨⟨m, fv, er, rfl, hm, hsm, hor⟩, hb7⟩
            have hmn : er = 0 ∧ m = n := by
              rcases hor with ⟨h1, h2⟩ | ⟨_, h2⟩
              · rw [HRT.out] at h2; exact ⟨h1, (Option.some.inj h2).symm⟩
              · rw [HRT.out] at h2; cases h2
            obtain ⟨rfl, rfl⟩ := hmn
            obtain ⟨pp, cc, rfl, -⟩ := hm.sh
            have hal : Below w7.heap.size w7 (w7.alloc (.cells (notC m (.slice pp m.failed.length cc)).toArray 34)) := (Below.refl _ _).alloc (Nat.le_refl _) _
            have hx8 : (w7.alloc (.cells (notC m (.slice pp m.failed.length cc)).toArray 34)).heap[w7.heap.size]? = some (.cells (notC m (.slice pp m.failed.length cc)).toArray 34 (0, 0)) := ha_eq rfl
            have h8 := hb7.trans (hal.mono hb7.size)
            have hm8 := hm.below hal
            have hn8 := (HX.out.1.below H6.out.1).below h8
            have hbx8 := (h8.block _ (lt_of_cells H6.out.2)).trans H6.out.2
            obtain ⟨w8, hw8⟩ : ∃ w8, w8 = w7.alloc (.cells (notC m (.slice pp m.failed.length cc)).toArray 34) := ⟨_, rfl⟩
            rw [← hw8] at hx8 h8 hm8 hn8 hbx8
            have hSa := sameNot_any m _ _ w8 hm8 hn8 HS.out.failed
            obtain ⟨b7, hb7e⟩ : ∃ b7, b7 = w7.heap.size := ⟨_, rfl⟩
            rw [← hb7e] at hx8
            have H8 := Lib.hid h8
            unfold notC at hw8 hx8 hbx8
            unfold notV notC at hSa ⊢
            obtain ⟨x0, x1, x2, x3, x4, x5⟩ := nobox hx8
            obtain ⟨y0, y1, y2, y3, y4, y5⟩ := nobox hbx8
            clear hRd hor hm hsm hal hx8 h8 hm8 hn8 hbx8 hb7
            go_upto_region 8 with (fail)
            rw [← hw8, ← hb7e]
            clear hw8 hb7e
            go_wp2_with fail
            refine hSa.mono ?_
            rintro e w9 ⟨rfl, hb9⟩
            have H9 := Lib.hid (H8.out.trans (hb9.mono H8.out.size))
            clear hSa hb9 x0 x1 x2 x3 x4 x5 y0 y1 y2 y3 y4 y5
            go_wp2
            go_meet
            case rel => exact H9.out
          · clear hmy
            go_wp2
            go_meet
            case rel => exact Below.refl _ _
        case rest =>
          have H10 := Lib.hid (H6.out.1.trans (hcut.mono H6.out.1.size))
          clear hcut H6 HTX
          generalize hww : wc = w10 at *
          clear hww
          have HFIN := Lib.hid (HX.out.2.2.1.trans (H10.out.mono HX.out.2.2.1.size))
          have hRd := readN_any s w10 (by have := HL.out; omega) (HX.out.2.1.keep H10.out)
          go_upto_region 10 with (fail)
          go_wp2_with fail
          refine hRd.mono ?_
          rintro e w11 ⟨⟨m, fv, er, rfl, hm, hsm, hor⟩, hb11⟩
          obtain ⟨pp, cc, rfl, -⟩ := hm.sh
          have hal : Below w11.heap.size w11 (w11.alloc (.cells (notC m (.slice pp m.failed.length cc)).toArray 34)) := (Below.refl _ _).alloc (Nat.le_refl _) _
          have hx12 : (w11.alloc (.cells (notC m (.slice pp m.failed.length cc)).toArray 34)).heap[w11.heap.size]? = some (.cells (notC m (.slice pp m.failed.length cc)).toArray 34 (0, 0)) := ha_eq rfl
          obtain ⟨w12, hw12⟩ : ∃ w12, w12 = w11.alloc (.cells (notC m (.slice pp m.failed.length cc)).toArray 34) := ⟨_, rfl⟩
          rw [← hw12] at hal hx12
          have h12 := H10.out.trans ((hb11.trans (hal.mono hb11.size)).mono H10.out.size)
          obtain ⟨b9, hb9e⟩ : ∃ b9, b9 = w11.heap.size := ⟨_, rfl⟩
          rw [← hb9e] at hx12
          have H12 := Lib.hid (And.intro h12 (And.intro hx12 (And.intro (hm.below hal) hsm)))
          have HB12 := Lib.hid (HX.out.2.2.1.trans (h12.mono HX.out.2.2.1.size))
          unfold notC at hw12
          unfold notV notC
          clear hRd hm hsm hal hx12 h12 hb11 HFIN
          have HFIN := HB12
          go_upto_region 11 with (fail)
          rw [← hw12, ← hb9e]
          clear hw12 hb9e
          rcases hor with ⟨rfl, hrd⟩ | ⟨rfl, -⟩
          · obtain ⟨hmy, hts⟩ := readN_spec hrd
            have hTx := text_any m _ w12 H12.out.2.2.1 H12.out.2.2.2 (HX.out.2.1.keep H12.out.1).env
            have HMY := Lib.hid (And.intro hmy hts)
            unfold notV notC at hTx
            have hx := H12.out.2.1
            unfold notC at hx
            obtain ⟨x0, x1, x2, x3, x4, x5⟩ := nobox hx
            clear hx
            clear hrd hmy hts
            go_upto_region 13 with (fail)
            go_wp2_with fail
            refine hTx.mono ?_
            rintro e w13 ⟨hp, hb13⟩
            obtain rfl : e = .returned (.tuple #[.string ⟨s.toArray⟩, .int .i64 0]) := by
              rcases hp with ⟨-, h⟩ | ⟨h, -⟩
              · rw [h, HMY.out.2]
              · rw [HMY.out.1] at h; cases h
            have H13 := Lib.hid (And.intro (H12.out.1.trans (hb13.mono H12.out.1.size)) (And.intro ((hb13.block _ (lt_of_cells H12.out.2.1)).trans H12.out.2.1) (H12.out.2.2.1.below hb13)))
            clear hTx hp hb13 x0 x1 x2 x3 x4 x5
            have hMy := mayNot_any m _ w13 H13.out.2.2 H12.out.2.2.2 (HX.out.2.1.keep H13.out.1).env
            rw [HMY.out.1] at hMy
            unfold notV notC at hMy
            have hx := H13.out.2.1
            unfold notC at hx
            obtain ⟨x0, x1, x2, x3, x4, x5⟩ := nobox hx
            clear hx
            go_wp2_with fail
            refine hMy.mono ?_
            rintro e w14 ⟨rfl, hb14⟩
            have HFIN := Lib.hid (HX.out.2.2.1.trans ((H13.out.1.trans (hb14.mono H13.out.1.size)).mono HX.out.2.2.1.size))
            clear hMy hb14 x0 x1 x2 x3 x4 x5
            go_wp2
            refine bodyPost_ret (v := .bool true) (by simp [results, Tryz.results7, go_sem]) rfl ⟨rfl, HFIN.out⟩
          · go_wp2
            refine bodyPost_ret (v := .bool true) (by simp [results, Tryz.results7, go_sem]) rfl ⟨rfl, HFIN.out⟩
end Go.Proofs.YtlpngibdplnieaaGreatDoor
