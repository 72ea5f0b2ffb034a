/- Parts of the proof, joined: Nmyp, Nmyg, Nmya, Nmyb, Nmyw. -/
import Derived.Test.YtlpngibdplnieaaGreatDoorMn
import Derived.Test.YtlpngibdplnieaaGreatDoorMo
import Derived.Deep.RegionHeld3
import Derived.Deep.RegionLaw
import Derived.Deep.Cut
/- NoticeMay: what its functions answer, in plain Lean. -/
namespace Go.Proofs.YtlpngibdplnieaaGreatDoor
open Go

/-! ### A notice is not plain -/
theorem field_step {now : Option (Bytes × Bytes)} {nm v : Bytes} {r : List Bytes} (h1 : (58 : UInt8) ∉ nm) (h2 : namedB nm = true) (h3 : (nm ++ 58 :: v).head?.any blankB = false) : fieldsF now ((nm ++ 58 :: v) :: r) = tellB now ++ fieldsF (some (nm, v)) r := by
  rw [fieldsF.eq_2]
  have hg : goesOn now (nm ++ 58 :: v) = false := by
    unfold goesOn
    rw [h3, Bool.and_false]
  have hb : beginsB (nm ++ 58 :: v) = some (nm, v) := by
    unfold beginsB
    rw [cut_first nm v 58 h1]
    dsimp only
    rw [h2]
    rfl
  rw [hg, if_neg (by decide), hb]
theorem field_end (now : Option (Bytes × Bytes)) (r : List Bytes) : fieldsF now ([] :: r) = tellB now := by
  rw [fieldsF.eq_2]
  have hg : goesOn now [] = false := by
    unfold goesOn
    simp
  have hb : beginsB [] = none := by decide
  rw [hg, if_neg (by decide), hb, List.append_nil]
theorem lines_line {l r : Bytes} (h : ∀ c ∈ l, okC c = true) : (linesB (l ++ 13 :: 10 :: r)).1 = l :: (linesB r).1 := by
  rw [linesB_cut (cut_crlf r l fun hm => okC_13 (h _ hm) rfl)]
theorem line_app (a t b r : Bytes) : lineB a t b ++ r = (a ++ t ++ b) ++ 13 :: 10 :: r := by
  unfold lineB
  simp only [List.append_assoc, List.cons_append, List.nil_append]
theorem lines_of {a t b r : Bytes} (ha : a.all okC = true) (ht : ∀ c ∈ t, okC c = true) (hb : b.all okC = true) : (linesB (lineB a t b ++ r)).1 = (a ++ t ++ b) :: (linesB r).1 := by
  rw [line_app]
  refine lines_line fun c hc => ?_
  rcases List.mem_append.1 hc with hc | hc
  · rcases List.mem_append.1 hc with hc | hc
    · exact List.all_eq_true.1 ha c hc
    · exact ht c hc
  · exact List.all_eq_true.1 hb c hc
theorem bar_app (s : Bytes) (ls : List Bytes) (r : Bytes) : barB (s :: ls) ++ r = lineB s [] [] ++ (barB ls ++ r) := by
  unfold barB
  rw [List.flatMap_cons, List.append_assoc]
theorem like_no {n : Bytes} {v : Bytes} (h : likeB n reqName = false) (l : List (Bytes × Bytes)) : ((n, v) :: l).filter (fun f => likeB f.1 reqName) = l.filter (fun f => likeB f.1 reqName) := by
  rw [List.filter_cons_of_neg]
  dsimp only
  rw [h]
  decide
set_option maxRecDepth 100000 in
theorem plain_no {n : NotP} (h : MayO n) : plainB (textN n) = false := by
  have hi := clockN_le h.idc
  have o1 := itoa_ok hi.1
  have oh := mayB_ok h.host
  have od := addrB_ok h.dest
  obtain ⟨rest, hrest⟩ : ∃ rest, textN n = pc0 n ++ (pc1 n ++ (pc2 ++ (pc3 (Lib.itoa n.id) ++ (pc4 ++ rest)))) := by
    have hh : ∃ t, head2B n (Lib.itoa n.id) = headB n (Lib.itoa n.id) ++ t := by
      unfold head2B
      split
      · exact ⟨[], by rw [List.append_nil]⟩
      · exact ⟨_, rfl⟩
    obtain ⟨t, ht⟩ := hh
    unfold textN noteB head3B
    rw [ht]
    unfold headB
    simp only [List.nil_append, List.append_assoc]
    exact ⟨_, rfl⟩
  have nol : ∀ c ∈ ([] : Bytes), okC c = true := fun c hc => by cases hc
  have hf : ∃ v1 v2 v3 v4 v5 v6, fieldsB (textN n) = [([70, 114, 111, 109], v1), ([84, 111], v2), ([83, 117, 98, 106, 101, 99, 116], v3), ([65, 117, 116, 111, 45, 83, 117, 98, 109, 105, 116, 116, 101, 100], v4), ([77, 73, 77, 69, 45, 86, 101, 114, 115, 105, 111, 110], v5), ([67, 111, 110, 116, 101, 110, 116, 45, 84, 121, 112, 101], v6)] := by
    unfold fieldsB
    rw [hrest]
    unfold pc0 pc1 pc2 pc3 pc4
    rw [lines_of (by decide +kernel) oh (by decide +kernel), lines_of (by decide +kernel) od (by decide +kernel), bar_app, lines_of (by decide +kernel) nol (by decide +kernel), bar_app, lines_of (by decide +kernel) nol (by decide +kernel), bar_app, lines_of (by decide +kernel) nol (by decide +kernel), barB_nil, List.nil_append, lines_of (by decide +kernel) o1 (by decide +kernel), bar_app, lines_of (by decide +kernel) nol (by decide +kernel)]
    generalize (linesB (barB [] ++ rest)).1 = rl
    obtain ⟨v1, h1⟩ : ∃ v, ∀ (now : Option (Bytes × Bytes)) (r : List Bytes), fieldsF now (([70, 114, 111, 109, 58, 32, 60, 112, 111, 115, 116, 109, 97, 115, 116, 101, 114, 64] ++ n.host ++ [62]) :: r) = tellB now ++ fieldsF (some ([70, 114, 111, 109], v)) r := ⟨_, fun now r => field_step (nm := [70, 114, 111, 109]) (by decide) (by decide) rfl⟩
    obtain ⟨v2, h2⟩ : ∃ v, ∀ (now : Option (Bytes × Bytes)) (r : List Bytes), fieldsF now (([84, 111, 58, 32, 60] ++ n.dest ++ [62]) :: r) = tellB now ++ fieldsF (some ([84, 111], v)) r := ⟨_, fun now r => field_step (nm := [84, 111]) (by decide) (by decide) rfl⟩
    obtain ⟨v3, h3⟩ : ∃ v, ∀ (now : Option (Bytes × Bytes)) (r : List Bytes), fieldsF now (([83, 117, 98, 106, 101, 99, 116, 58, 32, 85, 110, 100, 101, 108, 105, 118, 101, 114, 101, 100, 32, 109, 97, 105, 108] ++ [] ++ []) :: r) = tellB now ++ fieldsF (some ([83, 117, 98, 106, 101, 99, 116], v)) r := ⟨_, fun now r => field_step (nm := [83, 117, 98, 106, 101, 99, 116]) (by decide) (by decide) rfl⟩
    obtain ⟨v4, h4⟩ : ∃ v, ∀ (now : Option (Bytes × Bytes)) (r : List Bytes), fieldsF now (([65, 117, 116, 111, 45, 83, 117, 98, 109, 105, 116, 116, 101, 100, 58, 32, 97, 117, 116, 111, 45, 114, 101, 112, 108, 105, 101, 100] ++ [] ++ []) :: r) = tellB now ++ fieldsF (some ([65, 117, 116, 111, 45, 83, 117, 98, 109, 105, 116, 116, 101, 100], v)) r := ⟨_, fun now r => field_step (nm := [65, 117, 116, 111, 45, 83, 117, 98, 109, 105, 116, 116, 101, 100]) (by decide) (by decide) rfl⟩
    obtain ⟨v5, h5⟩ : ∃ v, ∀ (now : Option (Bytes × Bytes)) (r : List Bytes), fieldsF now (([77, 73, 77, 69, 45, 86, 101, 114, 115, 105, 111, 110, 58, 32, 49, 46, 48] ++ [] ++ []) :: r) = tellB now ++ fieldsF (some ([77, 73, 77, 69, 45, 86, 101, 114, 115, 105, 111, 110], v)) r := ⟨_, fun now r => field_step (nm := [77, 73, 77, 69, 45, 86, 101, 114, 115, 105, 111, 110]) (by decide) (by decide) rfl⟩
    obtain ⟨v6, h6⟩ : ∃ v, ∀ (now : Option (Bytes × Bytes)) (r : List Bytes), fieldsF now (([67, 111, 110, 116, 101, 110, 116, 45, 84, 121, 112, 101, 58, 32, 109, 117, 108, 116, 105, 112, 97, 114, 116, 47, 114, 101, 112, 111, 114, 116, 59, 32, 114, 101, 112, 111, 114, 116, 45, 116, 121, 112, 101, 61, 100, 101, 108, 105, 118, 101, 114, 121, 45, 115, 116, 97, 116, 117, 115, 59, 32, 98, 111, 117, 110, 100, 97, 114, 121, 61, 34, 110, 45] ++ Lib.itoa n.id ++ [34]) :: r) = tellB now ++ fieldsF (some ([67, 111, 110, 116, 101, 110, 116, 45, 84, 121, 112, 101], v)) r := ⟨_, fun now r => field_step (nm := [67, 111, 110, 116, 101, 110, 116, 45, 84, 121, 112, 101]) (by decide) (by decide) rfl⟩
    refine ⟨trimB v1, trimB v2, trimB v3, trimB v4, trimB v5, trimB v6, ?_⟩
    refine (h1 none _).trans ?_
    refine (congrArg _ (h2 _ _)).trans ?_
    refine (congrArg _ (congrArg _ (h3 _ _))).trans ?_
    refine (congrArg _ (congrArg _ (congrArg _ (h4 _ _)))).trans ?_
    refine (congrArg _ (congrArg _ (congrArg _ (congrArg _ (h5 _ _))))).trans ?_
    refine (congrArg _ (congrArg _ (congrArg _ (congrArg _ (congrArg _ (h6 _ _)))))).trans ?_
    refine (congrArg _ (congrArg _ (congrArg _ (congrArg _ (congrArg _ (congrArg _ (field_end _ _))))))).trans ?_
    rfl
  obtain ⟨v1, v2, v3, v4, v5, v6, hf⟩ := hf
  unfold plainB getB
  rw [hf, like_no (by decide), like_no (by decide), like_no (by decide), like_no (by decide), like_no (by decide), like_no (by decide)]
  rfl
/-! ### The notice of an entry is no longer than at worst -/
theorem failB_size (f : FlP) : (failB f).length = f.dest.length + f.status.length + f.text.length + (failB ⟨[], [], []⟩).length := by
  unfold failB pc11 pc13 pc14
  simp only [List.length_append, lineB_len, List.length_nil]
  omega
def flAt (x : EntP) (i : Nat) : Bytes := match x.mail.rcpts[i]?, x.fates[i]? with
  | some r, some f => failB ⟨r.1, statusOf f.2, f.2⟩
  | _, _ => []
theorem fails_flat (x : EntP) : ∀ l : List Nat, (failsOf x l).flatMap failB = l.flatMap (flAt x)
  | [] => rfl
  | i :: l => by
    have ih := fails_flat x l
    unfold failsOf at ih ⊢
    rw [List.filterMap_cons, List.flatMap_cons]
    unfold flAt at ih ⊢
    cases hr : x.mail.rcpts[i]? with
    | none => simpa [hr] using ih
    | some r =>
      cases hf : x.fates[i]? with
      | none => simpa [hr, hf] using ih
      | some f => simpa [hr, hf] using ih
theorem filter_le {α : Type} (p q : α → Bool) (f g : α → Bytes) : ∀ l : List α, (∀ a ∈ l, p a = true → q a = true ∧ (f a).length ≤ (g a).length) → ((l.filter p).flatMap f).length ≤ ((l.filter q).flatMap g).length
  | [], _ => by simp
  | a :: l, h => by
    have ih := filter_le p q f g l fun b hb => h b (List.mem_cons_of_mem _ hb)
    cases hp : p a with
    | true =>
      obtain ⟨h1, h2⟩ := h a List.mem_cons_self hp
      rw [List.filter_cons_of_pos hp, List.filter_cons_of_pos h1, List.flatMap_cons, List.flatMap_cons, List.length_append, List.length_append]
      omega
    | false =>
      rw [List.filter_cons_of_neg (by rw [hp]; decide)]
      cases hq : q a with
      | true =>
        rw [List.filter_cons_of_pos hq, List.flatMap_cons, List.length_append]
        omega
      | false =>
        rw [List.filter_cons_of_neg (by rw [hq]; decide)]
        exact ih
theorem wide_stat : (statusOf wideT).length = 9 := by decide +kernel
theorem wide_len : wideT.length = 128 := by unfold wideT; simp
theorem fails_le {x : EntP} (h : MayN x) : ((failsOf x (badM x)).flatMap failB).length ≤ ((failsOf (wideX x.mail) (badM (wideX x.mail))).flatMap failB).length := by
  rw [fails_flat, fails_flat]
  have hl : (x.mail.rcpts.zip x.fates).length = ((wideX x.mail).mail.rcpts.zip (wideX x.mail).fates).length := by
    rw [List.length_zip, List.length_zip, wide_fates, List.length_replicate, h.len]
    rfl
  unfold badM plcM plcB
  rw [hl]
  refine filter_le _ _ _ _ _ fun i hi hp => ?_
  split at hp
  · rename_i p he
    rw [List.getElem?_zip_eq_some] at he
    obtain ⟨h1, h2⟩ := he
    have hi2 := (List.getElem?_eq_some_iff.1 h1).1
    have w2 : (wideX x.mail).fates[i]? = some (2, wideT) := by rw [wide_fates, List.getElem?_replicate, if_pos hi2]
    have w1 : (wideX x.mail).mail.rcpts[i]? = some p.1 := h1
    have w3 : ((wideX x.mail).mail.rcpts.zip (wideX x.mail).fates)[i]? = some (p.1, (2, wideT)) := by rw [List.getElem?_zip_eq_some]; exact ⟨w1, w2⟩
    rw [w3]
    unfold badOf at hp
    rw [Bool.and_eq_true] at hp
    refine ⟨?_, ?_⟩
    · show badOf p.1 (2, wideT) = true
      unfold badOf
      rw [hp.2]
      rfl
    · unfold flAt
      rw [h1, h2, w1, w2]
      dsimp only
      rw [failB_size, failB_size ⟨_, statusOf wideT, wideT⟩]
      dsimp only
      have s1 := statusB_len (stat_of p.2.2)
      have s2 := (wrong_lens (h.fates _ (List.mem_of_getElem? h2))).2
      rw [wide_stat, wide_len]
      omega
  · cases hp
theorem itoa_mono {n m : Int} (h0 : 0 ≤ n) (h : n ≤ m) : (Lib.itoa n).length ≤ (Lib.itoa m).length := by
  obtain ⟨a, rfl⟩ := Int.eq_ofNat_of_zero_le h0
  obtain ⟨b, rfl⟩ := Int.eq_ofNat_of_zero_le (show 0 ≤ m by omega)
  rw [itoa_nat, itoa_nat]
  exact decDigits_mono b a (by omega)
theorem clock_max {n : Int} (h : clockB n = true) : 0 ≤ n ∧ n ≤ 1099511627776 := by
  unfold clockB at h
  simpa using h
theorem most_le (m k : MailP) (hm : mailB m 4 4096 = 0) (hk : mailB k 4 4096 = 0) (h1 : m.sender = k.sender) (h2 : m.rcpts = k.rcpts) (h3 : m.req = k.req) (h4 : m.envid = k.envid) (h5 : m.text.length ≤ k.text.length) : mostN m ≤ mostN k := by
  have e1 : mayN (fullN 119 m) = true := by rw [may_full 119 rfl, hm]; rfl
  have e2 : mayN (fullN 119 k) = true := by rw [may_full 119 rfl, hk]; rfl
  unfold mostN
  rw [if_pos e1, if_pos e2]
  have h6 := txtB_mono h5
  unfold encB fullN makeN
  dsimp only
  rw [h1, h2, h3, h4]
  simp only [List.length_append]
  omega
/-- An entry's notice's entry, and what becomes of it, has so many bytes at most. -/
theorem most_enc {x : EntP} (h : mayN x = true) : (encB x).length ≤ mostN x.mail := by
  have hm := ((mayN_iff x).1 h).mail
  have e1 : mayN (fullN 119 x.mail) = true := by rw [may_full 119 rfl, hm]; rfl
  unfold mostN
  rw [if_pos e1]
  exact enc_most h 119
/-- What NoticeMay asks of an entry that has a notice. -/
structure MadeP (host : Bytes) (x : EntP) (id : Int) : Prop where
  may : MayN x
  not : MayO (notOf host x id)
  made : madeN host x id = (notOf host x id, true)
  wide : (madeN host (wideX x.mail) 1099511627776).2 = true
  fails : (notOf host x id).failed.length = (badM x).length
theorem made_parts {host : Bytes} {x : EntP} {id : Int} (h : (madeN host x id).2 = true) : MadeP host x id := by
  obtain ⟨h1, h2, h3, h4, h5, h6, h7⟩ := (made_iff host x id).1 h
  have hm := (mayN_iff x).1 h1
  have hmm := made_may h
  refine ⟨hm, (mayNot_iff _).1 (by rw [← hmm.1]; exact hmm.2), Prod.ext hmm.1 h, (made_wide host x.mail).2 ⟨hm.mail, h3, ?_, h5⟩, fails_all _ fun _ h => h⟩
  obtain ⟨i, l, he⟩ := List.exists_cons_of_ne_nil h4
  obtain ⟨r, f, g1, -, g3⟩ := bad_mem.1 (show i ∈ badM x by rw [he]; exact List.mem_cons_self)
  unfold badOf at g3
  rw [Bool.and_eq_true, Bool.not_eq_true'] at g3
  exact ⟨r, List.mem_of_getElem? g1, g3.2⟩
theorem mostNo_of {host : Bytes} {x : EntP} {id : Int} (h : (madeN host x id).2 = true) : mostNo host x.mail ≠ 0 ∧ mostN (tellM (notOf host x id) x.mail.req) ≤ mostNo host x.mail := by
  have hp := made_parts h
  have hw := made_may hp.wide
  have hwo := (mayNot_iff _).1 hw.2
  rw [mostNo_yes hp.wide]
  refine ⟨fun e => (mostN_pos _).1 e (tell_mail hwo _), ?_⟩
  refine most_le _ _ (tell_mail hp.not _) (tell_mail hwo _) rfl ?_ rfl rfl ?_
  · rw [hw.1]; rfl
  · show (textN _).length ≤ (textN _).length
    rw [hw.1]
    have hid := clock_max hp.not.idc
    have hat := clock_max hp.not.at_
    exact textN_le (itoa_mono hid.1 hid.2) (Nat.le_refl _) rfl rfl (itoa_mono hat.1 hat.2) (fails_le hp.may)
/-- The notice's entry. -/
theorem tell_may {host : Bytes} {x : EntP} {id now : Int} (h : (madeN host x id).2 = true) (hn : clockB now = true) : mayN (makeN id now (tellM (notOf host x id) x.mail.req)) = true := by
  have hp := made_parts h
  have hi := hp.not.id
  have hc := hp.not.idc
  rw [may_make, tell_mail hp.not, hn]
  have h1 : (notOf host x id).id = id := rfl
  rw [h1] at hi hc
  rw [hc, decide_eq_true (show (1 : Int) ≤ id by omega)]
  rfl
theorem tell_plain {host : Bytes} {x : EntP} {id now : Int} (h : (madeN host x id).2 = true) : (makeN id now (tellM (notOf host x id) x.mail.req)).plain = false := by
  show plainM (tellM (notOf host x id) x.mail.req) = false
  unfold plainM
  have : (tellM (notOf host x id) x.mail.req).text = textN (notOf host x id) := rfl
  rw [this, plain_no (made_parts h).not]
  rfl
theorem tell_jobs {host : Bytes} {x : EntP} {id now : Int} (h : (madeN host x id).2 = true) : ∃ d, (makeN id now (tellM (notOf host x id) x.mail.req)).jobs = [⟨d, 0, now⟩] := by
  have hp := made_parts h
  have hd := hp.not.dest
  unfold addrB at hd
  cases he : parseB (notOf host x id).dest with
  | none => rw [he] at hd; cases hd
  | some p =>
    refine ⟨p.2, ?_⟩
    show (domsM [((notOf host x id).dest, false)]).map _ = _
    have : domsM [((notOf host x id).dest, false)] = [p.2] := by
      unfold domsM domsOf
      simp [he, insB]
    rw [this]
    rfl
/-- What has no sender has no notice. -/
theorem made_nobody {host : Bytes} {x : EntP} {id : Int} (h : x.mail.sender = []) : (madeN host x id).2 = false := by
  cases hm : (madeN host x id).2 with
  | false => rfl
  | true => exact absurd h ((made_iff host x id).1 hm).2.2.1
end Go.Proofs.YtlpngibdplnieaaGreatDoor

/- NoticeMay: End is called: its drawn region. -/
namespace Go.Proofs.YtlpngibdplnieaaGreatDoor
open Go Go.RowKit Go.Shelf Go.Sort
attribute [local go_sem] bneI

def nA : Code → Code
  | .seq a _ => a
  | .block _ a => a
  | .loop a => a
  | .cond _ a _ => a
  | c => c
def nB : Code → Code
  | .seq _ b => b
  | .cond _ _ b => b
  | c => c
def nBody (f : Func) : Code := match f.body with
  | some c => c
  | none => .skip
/-- The region of End. -/
def codeMG (f : Func) : Code := nA (nB (nB (nB (nB (nB (nB (nB (nB (nB (nB (nB (nBody f))))))))))))
theorem pushB {n : Nat} {w : World} (o : Obj) (h : n ≤ w.heap.size) : n ≤ (w.alloc o).heap.size := by show n ≤ (w.heap.push o).size; rw [Array.size_push]; omega
theorem pushS (w : World) (o : Obj) : (w.alloc o).heap.size = w.heap.size + 1 := Array.size_push _
theorem sz1 (W : World) (o : Obj) : (W.drew.alloc o).heap.size = W.heap.size + 1 := pushS _ _
theorem sz2 (W : World) (o o' : Obj) : ((W.drew.alloc o).alloc o').heap.size = W.heap.size + 2 := by rw [pushS, sz1]
theorem setAll_lessO {w : World} {a b : Nat} {x : EntP} {s f j : Value} (h : OwnE w b x s f j) (hab : a ≤ b) : OwnE w a x s f j := ⟨ownsRow_less h.rc hab, ownsRow_less h.fa hab, ownsRow_less h.jo hab⟩
set_option linter.unusedSimpArgs false in
set_option maxRecDepth 1000000 in
set_option maxHeartbeats 16000000 in
theorem mayG {u0 u1 u2 u3 u4 u6 u7 u8 u9 u11 u12 u14 u15 u16 u17 u18 u19 u20 u21 u22 u23 u24 u25 u26 u27 u28 u29 u30 u31 u32 u33 u34 u35 u36 u37 u38 u39 u40 u41 u42 u43 u44 u45 u46 u47 u48 u49 u50 u51 u52 u53 u54 u55 u56 u57 u58 u59 u60 u61 u62 u63 u64 u65 u66 u67 u68 u69 u70 u71 u72 u73 u74 u75 u76 u77 u78 u79 u80 u81 u82 u83 u84 u85 u86 u87 u88 u89 u90 u91 u92 u93 u94 u95 u96 u97 u98 u99 u100 u101 u102 u103 u104 u105 u106 u107 u108 u109 u110 u111 u112 u113 u114 u115 u116 u117 u118 u119 u120 u121 u122 u123 u124 u125 u126 u127 u128 u129 u130 u131 u132 u133 u134 u135 u136 u137 u138 u139 u140 u141 u142 u143 u144 u145 u146 u147 u148 u149 u150 u151 u152 u153 u154 u155 u156 u157 u158 u159 u160 u161 u162 u163 u164 u165 u166 u167 u168 u169 u170 u171 u172 u173 u174 u175 u176 u177 u178 u179 u180 u181 u182 u183 u184 u185 u186 u187 u188 u189 u190 u191 u192 u193 u194 u195 u196 u197 u198 u199 u200 u201 u202 u203 : Value} {ds : List Deferred} (K' : Act → World → Prop) (Q' : Exit → Act → World → Prop) (x : EntP) (j : JoP) (f : FaP) (due : Int) (bx bf : Nat) (sv fv jv : Value) (W : World)
    (hb : W.heap[bx]? = some (.cells (entC x sv fv jv).toArray 28 (0, 0))) (hx : EntAt W x sv fv jv) (hs : ShortE x) (hj : x.jobs[0]? = some j) (hbf : W.heap[bf]? = some (.cells #[.int .u8 (f.1 : Int), .string ⟨f.2.toArray⟩] 61 (0, 0))) (hft : f.2.length ≤ 1000000) (htr : ∀ j ∈ x.jobs, -9223372036854775808 ≤ j.tries ∧ j.tries ≤ 9223372036854775807) (hE : Env W)
    (hP : ∀ (c : List PanicEntry) (a : Act) (d : Tmp) (v : Value) (w : World), Q' (.panic c) (a.put (some d) v) w → Q' (.panic c) a w)
    (hK : ∀ (v21 v22 v163 v164 v165 v166 v167 v168 v169 v170 v171 v172 v173 v174 v175 : Value) (W' : World), ((∃ by_ s2 f2 j2, v21 = .pointer (some ⟨by_, 0, none⟩) ∧ v22 = .int .i64 ((endN x j.dom [f] due).2 : Int) ∧ W'.heap[by_]? = some (.cells (entC (endN x j.dom [f] due).1 s2 f2 j2).toArray 28 (0, 0)) ∧ OwnE W' W.heap.size (endN x j.dom [f] due).1 s2 f2 j2) ∧ Below W.heap.size W W') → K' ⟨(u0 :: u1 :: u2 :: u3 :: u4 :: .int .i64 due :: u6 :: u7 :: u8 :: u9 :: .pointer (some ⟨bf, 0, none⟩) :: u11 :: u12 :: .pointer (some ⟨bx, 0, none⟩) :: u14 :: u15 :: u16 :: u17 :: u18 :: u19 :: u20 :: v21 :: v22 :: u23 :: u24 :: u25 :: u26 :: u27 :: u28 :: u29 :: u30 :: u31 :: u32 :: u33 :: u34 :: u35 :: u36 :: u37 :: u38 :: u39 :: u40 :: u41 :: u42 :: u43 :: u44 :: u45 :: u46 :: u47 :: u48 :: u49 :: u50 :: u51 :: u52 :: u53 :: u54 :: u55 :: u56 :: u57 :: u58 :: u59 :: u60 :: u61 :: u62 :: u63 :: u64 :: u65 :: u66 :: u67 :: u68 :: u69 :: u70 :: u71 :: u72 :: u73 :: u74 :: u75 :: u76 :: u77 :: u78 :: u79 :: u80 :: u81 :: u82 :: u83 :: u84 :: u85 :: u86 :: u87 :: u88 :: u89 :: u90 :: u91 :: u92 :: u93 :: u94 :: u95 :: u96 :: u97 :: u98 :: u99 :: u100 :: u101 :: u102 :: u103 :: u104 :: u105 :: u106 :: u107 :: u108 :: u109 :: u110 :: u111 :: u112 :: u113 :: u114 :: u115 :: u116 :: u117 :: u118 :: u119 :: u120 :: u121 :: u122 :: u123 :: u124 :: u125 :: u126 :: u127 :: u128 :: u129 :: u130 :: u131 :: u132 :: u133 :: u134 :: u135 :: u136 :: u137 :: u138 :: u139 :: u140 :: u141 :: u142 :: u143 :: u144 :: u145 :: u146 :: u147 :: u148 :: u149 :: u150 :: u151 :: u152 :: u153 :: u154 :: u155 :: u156 :: u157 :: u158 :: u159 :: u160 :: u161 :: u162 :: v163 :: v164 :: v165 :: v166 :: v167 :: v168 :: v169 :: v170 :: v171 :: v172 :: v173 :: v174 :: v175 :: u176 :: u177 :: u178 :: u179 :: u180 :: u181 :: u182 :: u183 :: u184 :: u185 :: u186 :: u187 :: u188 :: u189 :: u190 :: u191 :: u192 :: u193 :: u194 :: u195 :: u196 :: u197 :: u198 :: u199 :: u200 :: u201 :: u202 :: u203 :: []).toArray, ds⟩ W') :
    (codeMG Tryz.f4).wp Tryz.prog (Exit.then K' Q') ⟨(u0 :: u1 :: u2 :: u3 :: u4 :: .int .i64 due :: u6 :: u7 :: u8 :: u9 :: .pointer (some ⟨bf, 0, none⟩) :: u11 :: u12 :: .pointer (some ⟨bx, 0, none⟩) :: u14 :: u15 :: u16 :: u17 :: u18 :: u19 :: u20 :: u21 :: u22 :: u23 :: u24 :: u25 :: u26 :: u27 :: u28 :: u29 :: u30 :: u31 :: u32 :: u33 :: u34 :: u35 :: u36 :: u37 :: u38 :: u39 :: u40 :: u41 :: u42 :: u43 :: u44 :: u45 :: u46 :: u47 :: u48 :: u49 :: u50 :: u51 :: u52 :: u53 :: u54 :: u55 :: u56 :: u57 :: u58 :: u59 :: u60 :: u61 :: u62 :: u63 :: u64 :: u65 :: u66 :: u67 :: u68 :: u69 :: u70 :: u71 :: u72 :: u73 :: u74 :: u75 :: u76 :: u77 :: u78 :: u79 :: u80 :: u81 :: u82 :: u83 :: u84 :: u85 :: u86 :: u87 :: u88 :: u89 :: u90 :: u91 :: u92 :: u93 :: u94 :: u95 :: u96 :: u97 :: u98 :: u99 :: u100 :: u101 :: u102 :: u103 :: u104 :: u105 :: u106 :: u107 :: u108 :: u109 :: u110 :: u111 :: u112 :: u113 :: u114 :: u115 :: u116 :: u117 :: u118 :: u119 :: u120 :: u121 :: u122 :: u123 :: u124 :: u125 :: u126 :: u127 :: u128 :: u129 :: u130 :: u131 :: u132 :: u133 :: u134 :: u135 :: u136 :: u137 :: u138 :: u139 :: u140 :: u141 :: u142 :: u143 :: u144 :: u145 :: u146 :: u147 :: u148 :: u149 :: u150 :: u151 :: u152 :: u153 :: u154 :: u155 :: u156 :: u157 :: u158 :: u159 :: u160 :: u161 :: u162 :: u163 :: u164 :: u165 :: u166 :: u167 :: u168 :: u169 :: u170 :: u171 :: u172 :: u173 :: u174 :: u175 :: u176 :: u177 :: u178 :: u179 :: u180 :: u181 :: u182 :: u183 :: u184 :: u185 :: u186 :: u187 :: u188 :: u189 :: u190 :: u191 :: u192 :: u193 :: u194 :: u195 :: u196 :: u197 :: u198 :: u199 :: u200 :: u201 :: u202 :: u203 :: []).toArray, ds⟩ W := by
  obtain ⟨p1, c1, rfl, -⟩ := hx.rc.sh
  obtain ⟨p2, c2, rfl, -⟩ := hx.fa.sh
  obtain ⟨p3, c3, rfl, -⟩ := hx.jo.sh
  obtain ⟨hk, hji⟩ := List.getElem?_eq_some_iff.1 hj
  have hki : (0 : Int) < (x.jobs.length : Int) := by omega
  have hBD := below_drew W
  have hx1 := hx.below hBD
  have hbD := (hBD.block _ (lt_of_cells hb)).trans hb
  have hfD := (hBD.block _ (lt_of_cells hbf)).trans hbf
  obtain ⟨ye, hye⟩ : ∃ ye, ye = endN x j.dom [f] due := ⟨_, rfl⟩
  have hEn : ∀ W' g, Below W.heap.size W W' → W'.heap[g]? = some (.cells #[.int .u8 (f.1 : Int), .string ⟨f.2.toArray⟩] 61 (0, 0)) → Calls Tryz.prog 26 #[entV x (.slice p1 x.mail.rcpts.length c1) (.slice p2 x.fates.length c2) (.slice p3 x.jobs.length c3), .string ⟨j.dom.toArray⟩, .slice (some ⟨g, 0, none⟩) 1 1, .int .i64 due] W' fun e w' => (∃ s2 f2 j2, e = .returned (.tuple #[entV ye.1 s2 f2 j2, .int .i64 (ye.2 : Int)]) ∧ OwnE w' W'.heap.size ye.1 s2 f2 j2) ∧ Below W'.heap.size W' w' := fun W' g hB hg => by
    rw [hye]
    exact end_any x j.dom [f] due _ _ _ _ W' (hx.below hB) hs (row_one1 (enc := faE) hg rfl) (by show 1 ≤ 1000000; decide) (fun g hg => by have : g = f := (by simpa using hg); subst this; exact hft) htr (hE.keep hB)
  rw [← hye] at hK
  obtain ⟨b1, o1, rfl, hc1⟩ := hx1.jo.at 0 hk
  have hc1' := hc1 0 hk
  rw [hji] at hc1'
  unfold entC at hbD
  unfold entV entC at hEn
  obtain ⟨x0, x1, x2, x3, x4, x5, x6, x7, x8, x9⟩ := eboxAll hbD
  have z0 : W.drew.cell? ⟨b1, o1, none⟩ = some (.string ⟨j.dom.toArray⟩) := by have := hc1' 0 _ rfl; simpa using this
  have y0 : W.drew.cell? ⟨bf, 0, none⟩ = some (.int .u8 (f.1 : Int)) := by simp [World.cell?, hfD]
  have y1 : W.drew.cell? ⟨bf, 1, none⟩ = some (.string ⟨f.2.toArray⟩) := by simp [World.cell?, hfD]
  have HK := Lib.hid hK
  have HP := Lib.hid hP
  clear hb hx hs hj hbf hft htr hE hK hP hBD hx1 hbD hfD hc1 hc1' hji hye
  have hSk : ∀ W', Below W.drew.heap.size W.drew W' → W'.cell? ⟨bx, 0, none⟩ = some (.int .i64 x.id) ∧ W'.cell? ⟨bx, 1, none⟩ = some (.int .i64 x.at_) ∧ W'.cell? ⟨bx, 2, none⟩ = some (.string ⟨x.mail.sender.toArray⟩) ∧ W'.cell? ⟨bx, 3, none⟩ = some (.slice p1 x.mail.rcpts.length c1) ∧ W'.cell? ⟨bx, 4, none⟩ = some (.bool x.mail.req) ∧ W'.cell? ⟨bx, 5, none⟩ = some (.string ⟨x.mail.envid.toArray⟩) ∧ W'.cell? ⟨bx, 6, none⟩ = some (.string ⟨x.mail.text.toArray⟩) ∧ W'.cell? ⟨bx, 7, none⟩ = some (.bool x.plain) ∧ W'.cell? ⟨bx, 8, none⟩ = some (.slice p2 x.fates.length c2) ∧ W'.cell? ⟨bx, 9, none⟩ = some (.slice (some ⟨b1, o1, none⟩) x.jobs.length c3) ∧ W'.cell? ⟨b1, o1, none⟩ = some (.string ⟨j.dom.toArray⟩) ∧ W'.cell? ⟨bf, 0, none⟩ = some (.int .u8 (f.1 : Int)) ∧ W'.cell? ⟨bf, 1, none⟩ = some (.string ⟨f.2.toArray⟩) := fun W' hB => by
    have hh := fun (a : Addr) (u : Value) (h : W.drew.cell? a = some u) => (hB.cell (p := a) (cell_lt h)).trans h
    exact ⟨hh _ _ x0, hh _ _ x1, hh _ _ x2, hh _ _ x3, hh _ _ x4, hh _ _ x5, hh _ _ x6, hh _ _ x7, hh _ _ x8, hh _ _ x9, hh _ _ z0, hh _ _ y0, hh _ _ y1⟩
  have hS0 := hSk W.drew (Below.refl _ _)
  have hfin : ∀ (v21 v22 v163 v164 v165 v166 v167 v168 v169 v170 v171 v172 v173 v174 v175 : Value) (W' : World), (∃ by_ s2 f2 j2, v21 = .pointer (some ⟨by_, 0, none⟩) ∧ v22 = .int .i64 (ye.2 : Int) ∧ W'.heap[by_]? = some (.cells (entC ye.1 s2 f2 j2).toArray 28 (0, 0)) ∧ OwnE W' W.heap.size ye.1 s2 f2 j2) → Below W.heap.size W W' → K' ⟨(u0 :: u1 :: u2 :: u3 :: u4 :: .int .i64 due :: u6 :: u7 :: u8 :: u9 :: .pointer (some ⟨bf, 0, none⟩) :: u11 :: u12 :: .pointer (some ⟨bx, 0, none⟩) :: u14 :: u15 :: u16 :: u17 :: u18 :: u19 :: u20 :: v21 :: v22 :: u23 :: u24 :: u25 :: u26 :: u27 :: u28 :: u29 :: u30 :: u31 :: u32 :: u33 :: u34 :: u35 :: u36 :: u37 :: u38 :: u39 :: u40 :: u41 :: u42 :: u43 :: u44 :: u45 :: u46 :: u47 :: u48 :: u49 :: u50 :: u51 :: u52 :: u53 :: u54 :: u55 :: u56 :: u57 :: u58 :: u59 :: u60 :: u61 :: u62 :: u63 :: u64 :: u65 :: u66 :: u67 :: u68 :: u69 :: u70 :: u71 :: u72 :: u73 :: u74 :: u75 :: u76 :: u77 :: u78 :: u79 :: u80 :: u81 :: u82 :: u83 :: u84 :: u85 :: u86 :: u87 :: u88 :: u89 :: u90 :: u91 :: u92 :: u93 :: u94 :: u95 :: u96 :: u97 :: u98 :: u99 :: u100 :: u101 :: u102 :: u103 :: u104 :: u105 :: u106 :: u107 :: u108 :: u109 :: u110 :: u111 :: u112 :: u113 :: u114 :: u115 :: u116 :: u117 :: u118 :: u119 :: u120 :: u121 :: u122 :: u123 :: u124 :: u125 :: u126 :: u127 :: u128 :: u129 :: u130 :: u131 :: u132 :: u133 :: u134 :: u135 :: u136 :: u137 :: u138 :: u139 :: u140 :: u141 :: u142 :: u143 :: u144 :: u145 :: u146 :: u147 :: u148 :: u149 :: u150 :: u151 :: u152 :: u153 :: u154 :: u155 :: u156 :: u157 :: u158 :: u159 :: u160 :: u161 :: u162 :: v163 :: v164 :: v165 :: v166 :: v167 :: v168 :: v169 :: v170 :: v171 :: v172 :: v173 :: v174 :: v175 :: u176 :: u177 :: u178 :: u179 :: u180 :: u181 :: u182 :: u183 :: u184 :: u185 :: u186 :: u187 :: u188 :: u189 :: u190 :: u191 :: u192 :: u193 :: u194 :: u195 :: u196 :: u197 :: u198 :: u199 :: u200 :: u201 :: u202 :: u203 :: []).toArray, ds⟩ W' := fun v21 v22 v163 v164 v165 v166 v167 v168 v169 v170 v171 v172 v173 v174 v175 W' h1 h2 => HK.out _ _ _ _ _ _ _ _ _ _ _ _ _ _ _ W' ⟨h1, h2⟩
  have HF := Lib.hid hfin
  clear hfin HK
  conv => arg 2; whnf
  refine wp_region_held_drew (S := (fun W => W.cell? ⟨bx, 0, none⟩ = some (.int .i64 x.id) ∧ W.cell? ⟨bx, 1, none⟩ = some (.int .i64 x.at_) ∧ W.cell? ⟨bx, 2, none⟩ = some (.string ⟨x.mail.sender.toArray⟩) ∧ W.cell? ⟨bx, 3, none⟩ = some (.slice p1 x.mail.rcpts.length c1) ∧ W.cell? ⟨bx, 4, none⟩ = some (.bool x.mail.req) ∧ W.cell? ⟨bx, 5, none⟩ = some (.string ⟨x.mail.envid.toArray⟩) ∧ W.cell? ⟨bx, 6, none⟩ = some (.string ⟨x.mail.text.toArray⟩) ∧ W.cell? ⟨bx, 7, none⟩ = some (.bool x.plain) ∧ W.cell? ⟨bx, 8, none⟩ = some (.slice p2 x.fates.length c2) ∧ W.cell? ⟨bx, 9, none⟩ = some (.slice (some ⟨b1, o1, none⟩) x.jobs.length c3) ∧ W.cell? ⟨b1, o1, none⟩ = some (.string ⟨j.dom.toArray⟩) ∧ W.cell? ⟨bf, 0, none⟩ = some (.int .u8 (f.1 : Int)) ∧ W.cell? ⟨bf, 1, none⟩ = some (.string ⟨f.2.toArray⟩))) (by kernel_rfl) hS0 (fun hHeld => ?_)
  refine wpAnyH_take (i := 0) (oi := ?oiq0) (v := ?vq0) ?h1q0 (by kernel_rfl) (by kernel_rfl) (by kernel_rfl) ?h2q0 ?hyq0 (by assumption) ?restq0
  case h1q0 => (simp only [List.getElem?_toArray, List.getElem?_cons_succ, List.getElem?_cons_zero]; try rfl)
  case h2q0 => exact fun c a w h => HP.out c a _ _ w h
  case hyq0 => (refine Or.inl ⟨by rfl, ?_⟩; intro w hSw; (try dsimp only at hSw); go_simp; (try with_reducible rfl))
  try simp only [Act.put, List.setIfInBounds_toArray, List.set_cons_zero, List.set_cons_succ]
  refine wpAnyH_take (i := 1) (oi := ?oiq1) (v := ?vq1) ?h1q1 (by kernel_rfl) (by kernel_rfl) (by kernel_rfl) ?h2q1 ?hyq1 (by assumption) ?restq1
  case h1q1 => (simp only [List.getElem?_toArray, List.getElem?_cons_succ, List.getElem?_cons_zero]; try rfl)
  case h2q1 => exact fun c a w h => HP.out c a _ _ w h
  case hyq1 => (refine Or.inl ⟨by rfl, ?_⟩; intro w hSw; (try dsimp only at hSw); go_simp; (try with_reducible rfl))
  try simp only [Act.put, List.setIfInBounds_toArray, List.set_cons_zero, List.set_cons_succ]
  refine wpAnyH_take (i := 2) (oi := ?oiq2) (v := ?vq2) ?h1q2 (by kernel_rfl) (by kernel_rfl) (by kernel_rfl) ?h2q2 ?hyq2 (by assumption) ?restq2
  case h1q2 => (simp only [List.getElem?_toArray, List.getElem?_cons_succ, List.getElem?_cons_zero]; try rfl)
  case h2q2 => exact fun c a w h => HP.out c a _ _ w h
  case hyq2 => (refine Or.inl ⟨by rfl, ?_⟩; intro w hSw; (try dsimp only at hSw); go_simp; (try with_reducible rfl))
  try simp only [Act.put, List.setIfInBounds_toArray, List.set_cons_zero, List.set_cons_succ]
  refine wpAnyH_take (i := 3) (oi := ?oiq3) (v := ?vq3) ?h1q3 (by kernel_rfl) (by kernel_rfl) (by kernel_rfl) ?h2q3 ?hyq3 (by assumption) ?restq3
  case h1q3 => (simp only [List.getElem?_toArray, List.getElem?_cons_succ, List.getElem?_cons_zero]; try rfl)
  case h2q3 => exact fun c a w h => HP.out c a _ _ w h
  case hyq3 => (refine Or.inl ⟨by rfl, ?_⟩; intro w hSw; (try dsimp only at hSw); go_simp; (try with_reducible rfl))
  try simp only [Act.put, List.setIfInBounds_toArray, List.set_cons_zero, List.set_cons_succ]
  refine wpAnyH_take (i := 4) (oi := ?oiq4) (v := ?vq4) ?h1q4 (by kernel_rfl) (by kernel_rfl) (by kernel_rfl) ?h2q4 ?hyq4 (by assumption) ?restq4
  case h1q4 => (simp only [List.getElem?_toArray, List.getElem?_cons_succ, List.getElem?_cons_zero]; try rfl)
  case h2q4 => exact fun c a w h => HP.out c a _ _ w h
  case hyq4 => (refine Or.inl ⟨by rfl, ?_⟩; intro w hSw; (try dsimp only at hSw); go_simp; (try with_reducible rfl))
  try simp only [Act.put, List.setIfInBounds_toArray, List.set_cons_zero, List.set_cons_succ]
  refine wpAnyH_take (i := 5) (oi := ?oiq5) (v := ?vq5) ?h1q5 (by kernel_rfl) (by kernel_rfl) (by kernel_rfl) ?h2q5 ?hyq5 (by assumption) ?restq5
  case h1q5 => (simp only [List.getElem?_toArray, List.getElem?_cons_succ, List.getElem?_cons_zero]; try rfl)
  case h2q5 => exact fun c a w h => HP.out c a _ _ w h
  case hyq5 => (refine Or.inl ⟨by rfl, ?_⟩; intro w hSw; (try dsimp only at hSw); go_simp; (try with_reducible rfl))
  try simp only [Act.put, List.setIfInBounds_toArray, List.set_cons_zero, List.set_cons_succ]
  refine wpAnyH_take (i := 6) (oi := ?oiq6) (v := ?vq6) ?h1q6 (by kernel_rfl) (by kernel_rfl) (by kernel_rfl) ?h2q6 ?hyq6 (by assumption) ?restq6
  case h1q6 => (simp only [List.getElem?_toArray, List.getElem?_cons_succ, List.getElem?_cons_zero]; try rfl)
  case h2q6 => exact fun c a w h => HP.out c a _ _ w h
  case hyq6 => (refine Or.inl ⟨by rfl, ?_⟩; intro w hSw; (try dsimp only at hSw); go_simp; (try with_reducible rfl))
  try simp only [Act.put, List.setIfInBounds_toArray, List.set_cons_zero, List.set_cons_succ]
  refine wpAnyH_take (i := 8) (oi := ?oiq8) (v := ?vq8) ?h1q8 (by kernel_rfl) (by kernel_rfl) (by kernel_rfl) ?h2q8 ?hyq8 (by assumption) ?restq8
  case h1q8 => (simp only [List.getElem?_toArray, List.getElem?_cons_succ, List.getElem?_cons_zero]; try rfl)
  case h2q8 => exact fun c a w h => HP.out c a _ _ w h
  case hyq8 => (refine Or.inl ⟨by rfl, ?_⟩; intro w hSw; (try dsimp only at hSw); go_simp; (try with_reducible rfl))
  try simp only [Act.put, List.setIfInBounds_toArray, List.set_cons_zero, List.set_cons_succ]
  refine wpAnyH_ready (rs := [7, 13]) (by kernel_rfl) (by simp) ?_
  refine AllReadyH.cons (o := ?oR9_7) ?h1R9_7 (fun K hK => ?R9_7) (AllReadyH.cons (o := ?oR9_13) ?h1R9_13 (fun K hK => ?R9_13) AllReadyH.nil)
  case h1R9_7 => (simp only [List.getElem?_toArray, List.getElem?_cons_succ, List.getElem?_cons_zero]; try rfl)
  case h1R9_13 => (simp only [List.getElem?_toArray, List.getElem?_cons_succ, List.getElem?_cons_zero]; try rfl)
  case R9_7 =>
    go_simp
    refine hK.out _ _ (hSk _ ((Below.refl _ _).alloc (Nat.le_refl _) _)) (fun hHeld => ?_)
    clear hK K
    try simp only [Act.put, List.setIfInBounds_toArray, List.set_cons_zero, List.set_cons_succ]
    refine wpAnyH_ready (rs := [9, 13]) (by kernel_rfl) (by simp) ?_
    refine AllReadyH.cons (o := ?oR8_9) ?h1R8_9 (fun K hK => ?R8_9) (AllReadyH.cons (o := ?oR8_13) ?h1R8_13 (fun K hK => ?R8_13) AllReadyH.nil)
    case h1R8_9 => (simp only [List.getElem?_toArray, List.getElem?_cons_succ, List.getElem?_cons_zero]; try rfl)
    case h1R8_13 => (simp only [List.getElem?_toArray, List.getElem?_cons_succ, List.getElem?_cons_zero]; try rfl)
    case R8_9 =>
      go_simp
      go_at_call 26
      refine (hEn _ W.heap.size ((below_drew W).trans (((Below.refl _ _).alloc (Nat.le_refl _) _).mono (below_drew W).size)) (ha_eq rfl)).mono ?_
      rintro e w6 ⟨⟨s2, f2, j2, rfl, hown⟩, hb6⟩
      have hb7 : Below W.drew.heap.size W.drew w6 := (((Below.refl W.drew.heap.size W.drew).alloc (Nat.le_refl _) _)).trans (hb6.mono (by rw [pushS]; exact Nat.le_succ _))
      have hown := setAll_lessO (a := W.heap.size) hown (by rw [pushS]; exact Nat.le_succ _)
      obtain ⟨q1, d1, rfl⟩ := own_shape hown.rc
      obtain ⟨q2, d2, rfl⟩ := own_shape hown.fa
      obtain ⟨q3, d3, rfl⟩ := own_shape hown.jo
      refine hK.out _ _ (hSk w6 hb7) (fun hHeld => ?_)
      clear hK K hb6
      try simp only [Act.put, List.setIfInBounds_toArray, List.set_cons_zero, List.set_cons_succ]
      refine wpAnyH_take (i := 10) (oi := ?oia10) (v := ?va10) ?h1a10 (by kernel_rfl) (by kernel_rfl) (by kernel_rfl) ?h2a10 ?hya10 (by assumption) ?resta10
      case h1a10 => (simp only [List.getElem?_toArray, List.getElem?_cons_succ, List.getElem?_cons_zero]; try rfl)
      case h2a10 => exact fun c a w h => HP.out c a _ _ w h
      case hya10 => (refine Or.inl ⟨by rfl, ?_⟩; intro w hSw; (try dsimp only at hSw); go_simp; (try with_reducible rfl))
      try simp only [Act.put, List.setIfInBounds_toArray, List.set_cons_zero, List.set_cons_succ]
      refine wpAnyH_take (i := 11) (oi := ?oia11) (v := ?va11) ?h1a11 (by kernel_rfl) (by kernel_rfl) (by kernel_rfl) ?h2a11 ?hya11 (by assumption) ?resta11
      case h1a11 => (simp only [List.getElem?_toArray, List.getElem?_cons_succ, List.getElem?_cons_zero]; try rfl)
      case h2a11 => exact fun c a w h => HP.out c a _ _ w h
      case hya11 => (refine Or.inl ⟨by rfl, ?_⟩; intro w hSw; (try dsimp only at hSw); go_simp; (try with_reducible rfl))
      try simp only [Act.put, List.setIfInBounds_toArray, List.set_cons_zero, List.set_cons_succ]
      refine wpAnyH_take (i := 12) (oi := ?oia12) (v := ?va12) ?h1a12 (by kernel_rfl) (by kernel_rfl) (by kernel_rfl) ?h2a12 ?hya12 (by assumption) ?resta12
      case h1a12 => (simp only [List.getElem?_toArray, List.getElem?_cons_succ, List.getElem?_cons_zero]; try rfl)
      case h2a12 => exact fun c a w h => HP.out c a _ _ w h
      case hya12 => (refine Or.inl ⟨by rfl, ?_⟩; intro w hSw; (try dsimp only at hSw); go_simp; (try with_reducible rfl))
      try simp only [Act.put, List.setIfInBounds_toArray, List.set_cons_zero, List.set_cons_succ]
      refine wpAnyH_ready (rs := [13]) (by kernel_rfl) (by simp) ?_
      refine AllReadyH.cons (o := ?oR2_13) ?h1R2_13 (fun K hK => ?R2_13) AllReadyH.nil
      case h1R2_13 => (simp only [List.getElem?_toArray, List.getElem?_cons_succ, List.getElem?_cons_zero]; try rfl)
      case R2_13 =>
        go_simp
        refine hK.out _ _ (hSk _ (hb7.alloc hb7.size _)) (fun hHeld => ?_)
        clear hK K
        try simp only [Act.put, List.setIfInBounds_toArray, List.set_cons_zero, List.set_cons_succ]
        refine wpAnyH_ready (rs := [14]) (by kernel_rfl) (by simp) ?_
        refine AllReadyH.cons (o := ?oR1_14) ?h1R1_14 (fun K hK => ?R1_14) AllReadyH.nil
        case h1R1_14 => (simp only [List.getElem?_toArray, List.getElem?_cons_succ, List.getElem?_cons_zero]; try rfl)
        case R1_14 =>
          go_simp
          have hB7 : Below W.drew.heap.size W.drew (w6.alloc (.cells (entC ye.1 (.slice q1 ye.1.mail.rcpts.length d1) (.slice q2 ye.1.fates.length d2) (.slice q3 ye.1.jobs.length d3)).toArray 28)) := hb7.alloc hb7.size _
          refine hK.out _ _ (hSk _ hB7) (fun hHeld => ?_)
          clear hK K
          try simp only [Act.put, List.setIfInBounds_toArray, List.set_cons_zero, List.set_cons_succ]
          refine wpAnyH_take (i := 15) (oi := ?oib15) (v := ?vb15) ?h1b15 (by kernel_rfl) (by kernel_rfl) (by kernel_rfl) ?h2b15 ?hyb15 (by assumption) ?restb15
          case h1b15 => (simp only [List.getElem?_toArray, List.getElem?_cons_succ, List.getElem?_cons_zero]; try rfl)
          case h2b15 => exact fun c a w h => HP.out c a _ _ w h
          case hyb15 => (refine Or.inl ⟨by rfl, ?_⟩; intro w hSw; (try dsimp only at hSw); go_simp; (try with_reducible rfl))
          try simp only [Act.put, List.setIfInBounds_toArray, List.set_cons_zero, List.set_cons_succ]
          refine wpAnyH_done (by kernel_rfl) ?_ _
          have hown7 : OwnE (w6.alloc (.cells (entC ye.1 (.slice q1 ye.1.mail.rcpts.length d1) (.slice q2 ye.1.fates.length d2) (.slice q3 ye.1.jobs.length d3)).toArray 28)) W.heap.size ye.1 (.slice q1 ye.1.mail.rcpts.length d1) (.slice q2 ye.1.fates.length d2) (.slice q3 ye.1.jobs.length d3) :=
            ⟨hown.rc.kept (World.grownBy_alloc w6 _ none) (Classical.em _), hown.fa.kept (World.grownBy_alloc w6 _ none) (Classical.em _), hown.jo.kept (World.grownBy_alloc w6 _ none) (Classical.em _)⟩
          have hB8 := (below_drew W).trans (hB7.mono (below_drew W).size)
          unfold entC at hown7 hB8
          have HZ := Lib.hid (And.intro hown7 hB8)
          clear hSk hS0 hb7 hB7 hown7 hB8 hown
          go_simp
          exact HF.out _ _ _ _ _ _ _ _ _ _ _ _ _ _ _ _ ⟨_, _, _, _, rfl, rfl, ha_eq rfl, HZ.out.1⟩ HZ.out.2
    case R8_13 =>
      go_simp
      refine hK.out _ _ (hSk _ (((Below.refl W.drew.heap.size W.drew).alloc (Nat.le_refl _) _).alloc (pushB _ (Nat.le_refl _)) _)) (fun hHeld => ?_)
      clear hK K
      try simp only [Act.put, List.setIfInBounds_toArray, List.set_cons_zero, List.set_cons_succ]
      refine wpAnyH_ready (rs := [9]) (by kernel_rfl) (by simp) ?_
      refine AllReadyH.cons (o := ?oR4_9) ?h1R4_9 (fun K hK => ?R4_9) AllReadyH.nil
      case h1R4_9 => (simp only [List.getElem?_toArray, List.getElem?_cons_succ, List.getElem?_cons_zero]; try rfl)
      case R4_9 =>
        go_simp
        go_at_call 26
        refine (hEn _ W.heap.size ((below_drew W).trans ((((Below.refl W.drew.heap.size W.drew).alloc (Nat.le_refl _) _).alloc (pushB _ (Nat.le_refl _)) _).mono (below_drew W).size)) ((ha_ne (by rw [sz1]; omega)).trans (ha_eq rfl))).mono ?_
        rintro e w6 ⟨⟨s2, f2, j2, rfl, hown⟩, hb6⟩
        have hb7 : Below W.drew.heap.size W.drew w6 := (((Below.refl W.drew.heap.size W.drew).alloc (Nat.le_refl _) _).alloc (pushB _ (Nat.le_refl _)) _).trans (hb6.mono (by show W.heap.size ≤ _; rw [sz2]; omega))
        have hown := setAll_lessO (a := W.heap.size) hown (by show W.heap.size ≤ _; rw [sz2]; omega)
        obtain ⟨q1, d1, rfl⟩ := own_shape hown.rc
        obtain ⟨q2, d2, rfl⟩ := own_shape hown.fa
        obtain ⟨q3, d3, rfl⟩ := own_shape hown.jo
        have hzb : w6.heap[W.heap.size + 1]? = some (.cells zeroC 28 (0, 0)) := (hb6.block _ (by rw [sz2]; omega)).trans (ha_eq (sz1 W _).symm)
        refine hK.out _ _ (hSk w6 hb7) (fun hHeld => ?_)
        clear hK K hb6
        try simp only [Act.put, List.setIfInBounds_toArray, List.set_cons_zero, List.set_cons_succ]
        refine wpAnyH_take (i := 10) (oi := ?oic10) (v := ?vc10) ?h1c10 (by kernel_rfl) (by kernel_rfl) (by kernel_rfl) ?h2c10 ?hyc10 (by assumption) ?restc10
        case h1c10 => (simp only [List.getElem?_toArray, List.getElem?_cons_succ, List.getElem?_cons_zero]; try rfl)
        case h2c10 => exact fun c a w h => HP.out c a _ _ w h
        case hyc10 => (refine Or.inl ⟨by rfl, ?_⟩; intro w hSw; (try dsimp only at hSw); go_simp; (try with_reducible rfl))
        try simp only [Act.put, List.setIfInBounds_toArray, List.set_cons_zero, List.set_cons_succ]
        refine wpAnyH_take (i := 11) (oi := ?oic11) (v := ?vc11) ?h1c11 (by kernel_rfl) (by kernel_rfl) (by kernel_rfl) ?h2c11 ?hyc11 (by assumption) ?restc11
        case h1c11 => (simp only [List.getElem?_toArray, List.getElem?_cons_succ, List.getElem?_cons_zero]; try rfl)
        case h2c11 => exact fun c a w h => HP.out c a _ _ w h
        case hyc11 => (refine Or.inl ⟨by rfl, ?_⟩; intro w hSw; (try dsimp only at hSw); go_simp; (try with_reducible rfl))
        try simp only [Act.put, List.setIfInBounds_toArray, List.set_cons_zero, List.set_cons_succ]
        refine wpAnyH_take (i := 12) (oi := ?oic12) (v := ?vc12) ?h1c12 (by kernel_rfl) (by kernel_rfl) (by kernel_rfl) ?h2c12 ?hyc12 (by assumption) ?restc12
        case h1c12 => (simp only [List.getElem?_toArray, List.getElem?_cons_succ, List.getElem?_cons_zero]; try rfl)
        case h2c12 => exact fun c a w h => HP.out c a _ _ w h
        case hyc12 => (refine Or.inl ⟨by rfl, ?_⟩; intro w hSw; (try dsimp only at hSw); go_simp; (try with_reducible rfl))
        try simp only [Act.put, List.setIfInBounds_toArray, List.set_cons_zero, List.set_cons_succ]
        refine wpAnyH_ready (rs := [14]) (by kernel_rfl) (by simp) ?_
        refine AllReadyH.cons (o := ?oR3_14) ?h1R3_14 (fun K hK => ?R3_14) AllReadyH.nil
        case h1R3_14 => (simp only [List.getElem?_toArray, List.getElem?_cons_succ, List.getElem?_cons_zero]; try rfl)
        case R3_14 =>
          have HZB := Lib.hid hzb
          unfold zeroC at hzb
          obtain ⟨g0, g1, g2, g3, g4, g5, g6, g7, g8, g9⟩ := eboxAll hzb
          have e0 := efroz hzb 0
          have e1 := efroz hzb 1
          have e2 := efroz hzb 2
          have e3 := efroz hzb 3
          have e4 := efroz hzb 4
          have e5 := efroz hzb 5
          have e6 := efroz hzb 6
          have e7 := efroz hzb 7
          have e8 := efroz hzb 8
          have e9 := efroz hzb 9
          clear hzb
          go_simp
          clear g0 g1 g2 g3 g4 g5 g6 g7 g8 g9 e0 e1 e2 e3 e4 e5 e6 e7 e8 e9
          obtain ⟨W7, hW7⟩ : ∃ W7, W7 = setAll w6 (W.heap.size + 1) (.int .i64 ye.1.id) (.int .i64 ye.1.at_) (.string ⟨ye.1.mail.sender.toArray⟩) (.slice q1 ye.1.mail.rcpts.length d1) (.bool ye.1.mail.req) (.string ⟨ye.1.mail.envid.toArray⟩) (.string ⟨ye.1.mail.text.toArray⟩) (.bool ye.1.plain) (.slice q2 ye.1.fates.length d2) (.slice q3 ye.1.jobs.length d3) := ⟨_, rfl⟩
          have hbx : W7.heap[(W.heap.size + 1)]? = some (.cells (entC ye.1 (.slice q1 ye.1.mail.rcpts.length d1) (.slice q2 ye.1.fates.length d2) (.slice q3 ye.1.jobs.length d3)).toArray 28 (0, 0)) := by
            rw [hW7]
            have hz := HZB.out
            unfold zeroC at hz
            exact setAll_box hz _ _ _ _ _ _ _ _ _ _
          have hB7 : Below W.drew.heap.size W.drew W7 := by rw [hW7]; exact setAll_below hb7 (by show W.heap.size ≤ _; omega) _ _ _ _ _ _ _ _ _ _
          have hown7 : OwnE W7 W.heap.size ye.1 (.slice q1 ye.1.mail.rcpts.length d1) (.slice q2 ye.1.fates.length d2) (.slice q3 ye.1.jobs.length d3) := by
            rw [hW7]
            exact ⟨own_set hown.rc HZB.out (by decide) _ _ _ _ _ _ _ _ _ _, own_set hown.fa HZB.out (by decide) _ _ _ _ _ _ _ _ _ _, own_set hown.jo HZB.out (by decide) _ _ _ _ _ _ _ _ _ _⟩
          unfold setAll at hW7
          rw [← hW7]
          clear hW7
          refine hK.out _ _ (hSk _ hB7) (fun hHeld => ?_)
          clear hK K
          try simp only [Act.put, List.setIfInBounds_toArray, List.set_cons_zero, List.set_cons_succ]
          refine wpAnyH_take (i := 15) (oi := ?oid15) (v := ?vd15) ?h1d15 (by kernel_rfl) (by kernel_rfl) (by kernel_rfl) ?h2d15 ?hyd15 (by assumption) ?restd15
          case h1d15 => (simp only [List.getElem?_toArray, List.getElem?_cons_succ, List.getElem?_cons_zero]; try rfl)
          case h2d15 => exact fun c a w h => HP.out c a _ _ w h
          case hyd15 => (refine Or.inl ⟨by rfl, ?_⟩; intro w hSw; (try dsimp only at hSw); go_simp; (try with_reducible rfl))
          try simp only [Act.put, List.setIfInBounds_toArray, List.set_cons_zero, List.set_cons_succ]
          refine wpAnyH_done (by kernel_rfl) ?_ _
          have HZ := Lib.hid (And.intro hown7 (And.intro ((below_drew W).trans (hB7.mono (below_drew W).size)) hbx))
          clear hSk hS0 hb7 hB7 hown7 hbx hown HZB
          go_simp
          exact HF.out _ _ _ _ _ _ _ _ _ _ _ _ _ _ _ _ ⟨_, _, _, _, rfl, rfl, HZ.out.2.2, HZ.out.1⟩ HZ.out.2.1
  case R9_13 =>
    go_simp
    refine hK.out _ _ (hSk _ ((Below.refl _ _).alloc (Nat.le_refl _) _)) (fun hHeld => ?_)
    clear hK K
    try simp only [Act.put, List.setIfInBounds_toArray, List.set_cons_zero, List.set_cons_succ]
    refine wpAnyH_ready (rs := [7]) (by kernel_rfl) (by simp) ?_
    refine AllReadyH.cons (o := ?oR7_7) ?h1R7_7 (fun K hK => ?R7_7) AllReadyH.nil
    case h1R7_7 => (simp only [List.getElem?_toArray, List.getElem?_cons_succ, List.getElem?_cons_zero]; try rfl)
    case R7_7 =>
      go_simp
      refine hK.out _ _ (hSk _ (((Below.refl W.drew.heap.size W.drew).alloc (Nat.le_refl _) _).alloc (pushB _ (Nat.le_refl _)) _)) (fun hHeld => ?_)
      clear hK K
      try simp only [Act.put, List.setIfInBounds_toArray, List.set_cons_zero, List.set_cons_succ]
      refine wpAnyH_ready (rs := [9]) (by kernel_rfl) (by simp) ?_
      refine AllReadyH.cons (o := ?oR6_9) ?h1R6_9 (fun K hK => ?R6_9) AllReadyH.nil
      case h1R6_9 => (simp only [List.getElem?_toArray, List.getElem?_cons_succ, List.getElem?_cons_zero]; try rfl)
      case R6_9 =>
        go_simp
        go_at_call 26
        refine (hEn _ (W.heap.size + 1) ((below_drew W).trans ((((Below.refl W.drew.heap.size W.drew).alloc (Nat.le_refl _) _).alloc (pushB _ (Nat.le_refl _)) _).mono (below_drew W).size)) (ha_eq (sz1 W _).symm)).mono ?_
        rintro e w6 ⟨⟨s2, f2, j2, rfl, hown⟩, hb6⟩
        have hb7 : Below W.drew.heap.size W.drew w6 := (((Below.refl W.drew.heap.size W.drew).alloc (Nat.le_refl _) _).alloc (pushB _ (Nat.le_refl _)) _).trans (hb6.mono (by show W.heap.size ≤ _; rw [sz2]; omega))
        have hown := setAll_lessO (a := W.heap.size) hown (by show W.heap.size ≤ _; rw [sz2]; omega)
        obtain ⟨q1, d1, rfl⟩ := own_shape hown.rc
        obtain ⟨q2, d2, rfl⟩ := own_shape hown.fa
        obtain ⟨q3, d3, rfl⟩ := own_shape hown.jo
        have hzb : w6.heap[W.heap.size]? = some (.cells zeroC 28 (0, 0)) := (hb6.block _ (by rw [sz2]; omega)).trans ((ha_ne (by rw [sz1]; omega)).trans (ha_eq rfl))
        refine hK.out _ _ (hSk w6 hb7) (fun hHeld => ?_)
        clear hK K hb6
        try simp only [Act.put, List.setIfInBounds_toArray, List.set_cons_zero, List.set_cons_succ]
        refine wpAnyH_take (i := 10) (oi := ?oie10) (v := ?ve10) ?h1e10 (by kernel_rfl) (by kernel_rfl) (by kernel_rfl) ?h2e10 ?hye10 (by assumption) ?reste10
        case h1e10 => (simp only [List.getElem?_toArray, List.getElem?_cons_succ, List.getElem?_cons_zero]; try rfl)
        case h2e10 => exact fun c a w h => HP.out c a _ _ w h
        case hye10 => (refine Or.inl ⟨by rfl, ?_⟩; intro w hSw; (try dsimp only at hSw); go_simp; (try with_reducible rfl))
        try simp only [Act.put, List.setIfInBounds_toArray, List.set_cons_zero, List.set_cons_succ]
        refine wpAnyH_take (i := 11) (oi := ?oie11) (v := ?ve11) ?h1e11 (by kernel_rfl) (by kernel_rfl) (by kernel_rfl) ?h2e11 ?hye11 (by assumption) ?reste11
        case h1e11 => (simp only [List.getElem?_toArray, List.getElem?_cons_succ, List.getElem?_cons_zero]; try rfl)
        case h2e11 => exact fun c a w h => HP.out c a _ _ w h
        case hye11 => (refine Or.inl ⟨by rfl, ?_⟩; intro w hSw; (try dsimp only at hSw); go_simp; (try with_reducible rfl))
        try simp only [Act.put, List.setIfInBounds_toArray, List.set_cons_zero, List.set_cons_succ]
        refine wpAnyH_take (i := 12) (oi := ?oie12) (v := ?ve12) ?h1e12 (by kernel_rfl) (by kernel_rfl) (by kernel_rfl) ?h2e12 ?hye12 (by assumption) ?reste12
        case h1e12 => (simp only [List.getElem?_toArray, List.getElem?_cons_succ, List.getElem?_cons_zero]; try rfl)
        case h2e12 => exact fun c a w h => HP.out c a _ _ w h
        case hye12 => (refine Or.inl ⟨by rfl, ?_⟩; intro w hSw; (try dsimp only at hSw); go_simp; (try with_reducible rfl))
        try simp only [Act.put, List.setIfInBounds_toArray, List.set_cons_zero, List.set_cons_succ]
        refine wpAnyH_ready (rs := [14]) (by kernel_rfl) (by simp) ?_
        refine AllReadyH.cons (o := ?oR5_14) ?h1R5_14 (fun K hK => ?R5_14) AllReadyH.nil
        case h1R5_14 => (simp only [List.getElem?_toArray, List.getElem?_cons_succ, List.getElem?_cons_zero]; try rfl)
        case R5_14 =>
          have HZB := Lib.hid hzb
          unfold zeroC at hzb
          obtain ⟨g0, g1, g2, g3, g4, g5, g6, g7, g8, g9⟩ := eboxAll hzb
          have e0 := efroz hzb 0
          have e1 := efroz hzb 1
          have e2 := efroz hzb 2
          have e3 := efroz hzb 3
          have e4 := efroz hzb 4
          have e5 := efroz hzb 5
          have e6 := efroz hzb 6
          have e7 := efroz hzb 7
          have e8 := efroz hzb 8
          have e9 := efroz hzb 9
          clear hzb
          go_simp
          clear g0 g1 g2 g3 g4 g5 g6 g7 g8 g9 e0 e1 e2 e3 e4 e5 e6 e7 e8 e9
          obtain ⟨W7, hW7⟩ : ∃ W7, W7 = setAll w6 W.heap.size (.int .i64 ye.1.id) (.int .i64 ye.1.at_) (.string ⟨ye.1.mail.sender.toArray⟩) (.slice q1 ye.1.mail.rcpts.length d1) (.bool ye.1.mail.req) (.string ⟨ye.1.mail.envid.toArray⟩) (.string ⟨ye.1.mail.text.toArray⟩) (.bool ye.1.plain) (.slice q2 ye.1.fates.length d2) (.slice q3 ye.1.jobs.length d3) := ⟨_, rfl⟩
          have hbx : W7.heap[W.heap.size]? = some (.cells (entC ye.1 (.slice q1 ye.1.mail.rcpts.length d1) (.slice q2 ye.1.fates.length d2) (.slice q3 ye.1.jobs.length d3)).toArray 28 (0, 0)) := by
            rw [hW7]
            have hz := HZB.out
            unfold zeroC at hz
            exact setAll_box hz _ _ _ _ _ _ _ _ _ _
          have hB7 : Below W.drew.heap.size W.drew W7 := by rw [hW7]; exact setAll_below hb7 (by show W.heap.size ≤ _; omega) _ _ _ _ _ _ _ _ _ _
          have hown7 : OwnE W7 W.heap.size ye.1 (.slice q1 ye.1.mail.rcpts.length d1) (.slice q2 ye.1.fates.length d2) (.slice q3 ye.1.jobs.length d3) := by
            rw [hW7]
            exact ⟨own_set hown.rc HZB.out (by decide) _ _ _ _ _ _ _ _ _ _, own_set hown.fa HZB.out (by decide) _ _ _ _ _ _ _ _ _ _, own_set hown.jo HZB.out (by decide) _ _ _ _ _ _ _ _ _ _⟩
          unfold setAll at hW7
          rw [← hW7]
          clear hW7
          refine hK.out _ _ (hSk _ hB7) (fun hHeld => ?_)
          clear hK K
          try simp only [Act.put, List.setIfInBounds_toArray, List.set_cons_zero, List.set_cons_succ]
          refine wpAnyH_take (i := 15) (oi := ?oig15) (v := ?vg15) ?h1g15 (by kernel_rfl) (by kernel_rfl) (by kernel_rfl) ?h2g15 ?hyg15 (by assumption) ?restg15
          case h1g15 => (simp only [List.getElem?_toArray, List.getElem?_cons_succ, List.getElem?_cons_zero]; try rfl)
          case h2g15 => exact fun c a w h => HP.out c a _ _ w h
          case hyg15 => (refine Or.inl ⟨by rfl, ?_⟩; intro w hSw; (try dsimp only at hSw); go_simp; (try with_reducible rfl))
          try simp only [Act.put, List.setIfInBounds_toArray, List.set_cons_zero, List.set_cons_succ]
          refine wpAnyH_done (by kernel_rfl) ?_ _
          have HZ := Lib.hid (And.intro hown7 (And.intro ((below_drew W).trans (hB7.mono (below_drew W).size)) hbx))
          clear hSk hS0 hb7 hB7 hown7 hbx hown HZB
          go_simp
          exact HF.out _ _ _ _ _ _ _ _ _ _ _ _ _ _ _ _ ⟨_, _, _, _, rfl, rfl, HZ.out.2.2, HZ.out.1⟩ HZ.out.2.1
end Go.Proofs.YtlpngibdplnieaaGreatDoor

/- NoticeMay: its regions, one by one. -/
namespace Go.Proofs.YtlpngibdplnieaaGreatDoor
open Go Go.RowKit Go.Shelf Go.Sort
attribute [local go_sem] bneI

theorem has_eq (host : Bytes) (x : EntP) (id : Int) : (madeN host x id).2 = ((decide (badM x ≠ []) && (mayN x && (settledB x && decide (x.mail.sender ≠ [])))) && (mayB host && (decide (1 ≤ id) && decide (id ≤ 1099511627776)))) := by
  rw [Bool.eq_iff_iff, made_iff]
  unfold clockB
  simp only [Bool.and_eq_true, decide_eq_true_eq]
  constructor
  · rintro ⟨h1, h2, h3, h4, h5, h6, h7, h8⟩
    exact ⟨⟨h4, h1, h2, h3⟩, h5, by omega, h8⟩
  · rintro ⟨⟨h4, h1, h2, h3⟩, h5, h6, h8⟩
    exact ⟨h1, h2, h3, h4, h5, by omega, by omega, h8⟩
theorem is_eq (host : Bytes) (x : EntP) (id now : Int) : (ofN host x id now).2 = ((madeN host x id).2 && (decide (0 ≤ now) && decide (now ≤ 1099511627776))) := by
  unfold ofN
  cases h : (madeN host x id).2 with
  | false => rw [if_neg (by rintro ⟨h, -⟩; cases h)]; rfl
  | true =>
    cases hc : clockB now with
    | true => rw [if_pos ⟨rfl, rfl⟩]; unfold clockB at hc; rw [hc]; rfl
    | false => rw [if_neg (by rintro ⟨-, h⟩; cases h)]; unfold clockB at hc; rw [hc]; rfl
theorem shortE_of22 {x : EntP} (h : SmallX x) (hs : ∀ f ∈ x.fates, f.1 < 256) : ShortE x :=
  ⟨⟨by have := h.sender; omega, by have := h.envid; omega, by have := h.text; omega, by have := h.rcpts; omega, fun r hr => by have := h.tos r hr; omega⟩, by have := h.fates; omega, by have := h.jobs; omega, hs, fun f hf => by have := h.texts f hf; omega, fun j hj => by have := h.doms j hj; omega⟩
def codeM3 (f : Func) : Code := nA (nB (nB (nBody f)))
set_option linter.unusedSimpArgs false in
set_option linter.unusedVariables false in
set_option maxRecDepth 1000000 in
set_option maxHeartbeats 16000000 in
theorem mayP3 {u0 u4 u5 u7 u8 u9 u10 u11 u12 u13 u14 u15 u16 u17 u18 u19 u20 u21 u22 u23 u24 u25 u26 u27 u28 u29 u30 u31 u32 u33 u34 u35 u36 u37 u38 u39 u40 u41 u42 u43 u44 u45 u46 u47 u48 u49 u50 u51 u52 u53 u54 u55 u56 u57 u58 u59 u60 u61 u62 u63 u64 u65 u66 u67 u68 u69 u70 u71 u72 u73 u74 u75 u76 u77 u78 u79 u80 u81 u82 u83 u84 u85 u86 u87 u88 u89 u90 u91 u92 u93 u94 u95 u96 u97 u98 u99 u100 u101 u102 u103 u104 u105 u106 u107 u108 u109 u110 u111 u112 u113 u114 u115 u116 u117 u118 u119 u120 u121 u122 u123 u124 u125 u126 u127 u128 u129 u130 u131 u132 u133 u134 u135 u136 u137 u138 u139 u140 u141 u142 u143 u144 u145 u146 u147 u148 u149 u150 u151 u152 u153 u154 u155 u156 u157 u158 u159 u160 u161 u162 u163 u164 u165 u166 u167 u168 u169 u170 u171 u172 u173 u174 u175 u176 u177 u178 u179 u180 u181 u182 u183 u184 u185 u186 u187 u188 u189 u190 u191 u192 u193 u194 u195 u196 u197 u198 u199 u200 u201 u202 u203 : Value} {ds : List Deferred} (K' : Act → World → Prop) (Q' : Exit → Act → World → Prop) (host : Bytes) (id now : Int) (x : EntP) (sv fv jv : Value) (bx : Nat) (W : World)
    (hb : W.heap[bx]? = some (.cells (entC x sv fv jv).toArray 28 (0, 0))) (hx : EntAt W x sv fv jv) (hs : ShortE x) (hh : host.length ≤ maxLen) (hE : Env W)
    (hK : ∀ (v13 v14 v45 v46 v47 v48 v49 v50 v51 v52 : Value) (W' : World), ((∃ b13 s2 f2 j2, v13 = .pointer (some ⟨b13, 0, none⟩) ∧ v14 = .bool (ofN host x id now).2 ∧ W'.heap[b13]? = some (.cells (entC (ofN host x id now).1 s2 f2 j2).toArray 28 (0, 0)) ∧ EntAt W' (ofN host x id now).1 s2 f2 j2) ∧ Below W.heap.size W W') → K' ⟨(u0 :: .string ⟨host.toArray⟩ :: .int .i64 id :: .int .i64 now :: u4 :: u5 :: .pointer (some ⟨bx, 0, none⟩) :: u7 :: u8 :: u9 :: u10 :: u11 :: u12 :: v13 :: v14 :: u15 :: u16 :: u17 :: u18 :: u19 :: u20 :: u21 :: u22 :: u23 :: u24 :: u25 :: u26 :: u27 :: u28 :: u29 :: u30 :: u31 :: u32 :: u33 :: u34 :: u35 :: u36 :: u37 :: u38 :: u39 :: u40 :: u41 :: u42 :: u43 :: u44 :: v45 :: v46 :: v47 :: v48 :: v49 :: v50 :: v51 :: v52 :: u53 :: u54 :: u55 :: u56 :: u57 :: u58 :: u59 :: u60 :: u61 :: u62 :: u63 :: u64 :: u65 :: u66 :: u67 :: u68 :: u69 :: u70 :: u71 :: u72 :: u73 :: u74 :: u75 :: u76 :: u77 :: u78 :: u79 :: u80 :: u81 :: u82 :: u83 :: u84 :: u85 :: u86 :: u87 :: u88 :: u89 :: u90 :: u91 :: u92 :: u93 :: u94 :: u95 :: u96 :: u97 :: u98 :: u99 :: u100 :: u101 :: u102 :: u103 :: u104 :: u105 :: u106 :: u107 :: u108 :: u109 :: u110 :: u111 :: u112 :: u113 :: u114 :: u115 :: u116 :: u117 :: u118 :: u119 :: u120 :: u121 :: u122 :: u123 :: u124 :: u125 :: u126 :: u127 :: u128 :: u129 :: u130 :: u131 :: u132 :: u133 :: u134 :: u135 :: u136 :: u137 :: u138 :: u139 :: u140 :: u141 :: u142 :: u143 :: u144 :: u145 :: u146 :: u147 :: u148 :: u149 :: u150 :: u151 :: u152 :: u153 :: u154 :: u155 :: u156 :: u157 :: u158 :: u159 :: u160 :: u161 :: u162 :: u163 :: u164 :: u165 :: u166 :: u167 :: u168 :: u169 :: u170 :: u171 :: u172 :: u173 :: u174 :: u175 :: u176 :: u177 :: u178 :: u179 :: u180 :: u181 :: u182 :: u183 :: u184 :: u185 :: u186 :: u187 :: u188 :: u189 :: u190 :: u191 :: u192 :: u193 :: u194 :: u195 :: u196 :: u197 :: u198 :: u199 :: u200 :: u201 :: u202 :: u203 :: []).toArray, ds⟩ W') :
    (codeM3 Tryz.f4).wp Tryz.prog (Exit.then K' Q') ⟨(u0 :: .string ⟨host.toArray⟩ :: .int .i64 id :: .int .i64 now :: u4 :: u5 :: .pointer (some ⟨bx, 0, none⟩) :: u7 :: u8 :: u9 :: u10 :: u11 :: u12 :: u13 :: u14 :: u15 :: u16 :: u17 :: u18 :: u19 :: u20 :: u21 :: u22 :: u23 :: u24 :: u25 :: u26 :: u27 :: u28 :: u29 :: u30 :: u31 :: u32 :: u33 :: u34 :: u35 :: u36 :: u37 :: u38 :: u39 :: u40 :: u41 :: u42 :: u43 :: u44 :: u45 :: u46 :: u47 :: u48 :: u49 :: u50 :: u51 :: u52 :: u53 :: u54 :: u55 :: u56 :: u57 :: u58 :: u59 :: u60 :: u61 :: u62 :: u63 :: u64 :: u65 :: u66 :: u67 :: u68 :: u69 :: u70 :: u71 :: u72 :: u73 :: u74 :: u75 :: u76 :: u77 :: u78 :: u79 :: u80 :: u81 :: u82 :: u83 :: u84 :: u85 :: u86 :: u87 :: u88 :: u89 :: u90 :: u91 :: u92 :: u93 :: u94 :: u95 :: u96 :: u97 :: u98 :: u99 :: u100 :: u101 :: u102 :: u103 :: u104 :: u105 :: u106 :: u107 :: u108 :: u109 :: u110 :: u111 :: u112 :: u113 :: u114 :: u115 :: u116 :: u117 :: u118 :: u119 :: u120 :: u121 :: u122 :: u123 :: u124 :: u125 :: u126 :: u127 :: u128 :: u129 :: u130 :: u131 :: u132 :: u133 :: u134 :: u135 :: u136 :: u137 :: u138 :: u139 :: u140 :: u141 :: u142 :: u143 :: u144 :: u145 :: u146 :: u147 :: u148 :: u149 :: u150 :: u151 :: u152 :: u153 :: u154 :: u155 :: u156 :: u157 :: u158 :: u159 :: u160 :: u161 :: u162 :: u163 :: u164 :: u165 :: u166 :: u167 :: u168 :: u169 :: u170 :: u171 :: u172 :: u173 :: u174 :: u175 :: u176 :: u177 :: u178 :: u179 :: u180 :: u181 :: u182 :: u183 :: u184 :: u185 :: u186 :: u187 :: u188 :: u189 :: u190 :: u191 :: u192 :: u193 :: u194 :: u195 :: u196 :: u197 :: u198 :: u199 :: u200 :: u201 :: u202 :: u203 :: []).toArray, ds⟩ W := by
  obtain ⟨p, c, rfl, -⟩ := hx.rc.sh
  obtain ⟨q, d, rfl, -⟩ := hx.fa.sh
  obtain ⟨r, g, rfl, -⟩ := hx.jo.sh
  have hOf := ofNot_any host x id now _ _ _ W hx hs hh hE (made_short id hh hs hs.fates) (made_len host x id)
  unfold OfPost at hOf
  obtain ⟨oo, hoo⟩ : ∃ oo, oo = ofN host x id now := ⟨_, rfl⟩
  rw [← hoo] at hOf hK
  have HK := Lib.hid hK
  unfold entV at hOf
  unfold entC at hb hOf
  obtain ⟨x0, x1, x2, x3, x4, x5, x6, x7, x8, x9⟩ := eboxAll hb
  clear hb hoo hK hx hs hh hE
  conv => arg 2; whnf
  go_wp2_with fail
  refine hOf.mono ?_
  rintro e w4 ⟨⟨s2, f2, j2, rfl, hy⟩, hb4⟩
  clear hOf x0 x1 x2 x3 x4 x5 x6 x7 x8 x9
  obtain ⟨p1, c1, rfl, -⟩ := hy.rc.sh
  obtain ⟨p2, c2, rfl, -⟩ := hy.fa.sh
  obtain ⟨p3, c3, rfl, -⟩ := hy.jo.sh
  have hal : Below w4.heap.size w4 (w4.alloc (.cells (entC oo.1 (.slice p1 oo.1.mail.rcpts.length c1) (.slice p2 oo.1.fates.length c2) (.slice p3 oo.1.jobs.length c3)).toArray 28)) := (Below.refl _ _).alloc (Nat.le_refl _) _
  have HZ := Lib.hid (And.intro (hb4.trans (hal.mono hb4.size)) (hy.below hal))
  clear hb4 hal hy
  unfold entC at HZ
  go_wp2
  exact HK.out _ _ _ _ _ _ _ _ _ _ _ ⟨⟨_, _, _, _, rfl, rfl, ha_eq rfl, HZ.out.2⟩, HZ.out.1⟩
def codeM4 (f : Func) : Code := nA (nB (nB (nB (nBody f))))
set_option linter.unusedSimpArgs false in
set_option linter.unusedVariables false in
set_option maxRecDepth 1000000 in
set_option maxHeartbeats 16000000 in
theorem mayP4 {u0 u3 u4 u5 u7 u8 u9 u10 u11 u12 u13 u14 u15 u16 u17 u18 u19 u20 u21 u22 u23 u24 u25 u26 u27 u28 u29 u30 u31 u32 u33 u34 u35 u36 u37 u38 u39 u40 u41 u42 u43 u44 u45 u46 u47 u48 u49 u50 u51 u52 u53 u54 u55 u56 u57 u58 u59 u60 u61 u62 u63 u64 u65 u66 u67 u68 u69 u70 u71 u72 u73 u74 u75 u76 u77 u78 u79 u80 u81 u82 u83 u84 u85 u86 u87 u88 u89 u90 u91 u92 u93 u94 u95 u96 u97 u98 u99 u100 u101 u102 u103 u104 u105 u106 u107 u108 u109 u110 u111 u112 u113 u114 u115 u116 u117 u118 u119 u120 u121 u122 u123 u124 u125 u126 u127 u128 u129 u130 u131 u132 u133 u134 u135 u136 u137 u138 u139 u140 u141 u142 u143 u144 u145 u146 u147 u148 u149 u150 u151 u152 u153 u154 u155 u156 u157 u158 u159 u160 u161 u162 u163 u164 u165 u166 u167 u168 u169 u170 u171 u172 u173 u174 u175 u176 u177 u178 u179 u180 u181 u182 u183 u184 u185 u186 u187 u188 u189 u190 u191 u192 u193 u194 u195 u196 u197 u198 u199 u200 u201 u202 u203 : Value} {ds : List Deferred} (K' : Act → World → Prop) (Q' : Exit → Act → World → Prop) (host : Bytes) (id : Int) (x : EntP) (sv fv jv : Value) (bx : Nat) (W : World)
    (hb : W.heap[bx]? = some (.cells (entC x sv fv jv).toArray 28 (0, 0))) (hx : EntAt W x sv fv jv) (hs : ShortE x) (hh : host.length ≤ maxLen) (hE : Env W)
    (hK : ∀ (v15 v16 v53 v54 v55 v56 v57 v58 v59 : Value) (W' : World), ((∃ b15 av, v15 = .pointer (some ⟨b15, 0, none⟩) ∧ v16 = .bool (madeN host x id).2 ∧ W'.heap[b15]? = some (.cells (notC (madeN host x id).1 av).toArray 34 (0, 0)) ∧ RowK 3 flE W' av (madeN host x id).1.failed) ∧ Below W.heap.size W W') → K' ⟨(u0 :: .string ⟨host.toArray⟩ :: .int .i64 id :: u3 :: u4 :: u5 :: .pointer (some ⟨bx, 0, none⟩) :: u7 :: u8 :: u9 :: u10 :: u11 :: u12 :: u13 :: u14 :: v15 :: v16 :: u17 :: u18 :: u19 :: u20 :: u21 :: u22 :: u23 :: u24 :: u25 :: u26 :: u27 :: u28 :: u29 :: u30 :: u31 :: u32 :: u33 :: u34 :: u35 :: u36 :: u37 :: u38 :: u39 :: u40 :: u41 :: u42 :: u43 :: u44 :: u45 :: u46 :: u47 :: u48 :: u49 :: u50 :: u51 :: u52 :: v53 :: v54 :: v55 :: v56 :: v57 :: v58 :: v59 :: u60 :: u61 :: u62 :: u63 :: u64 :: u65 :: u66 :: u67 :: u68 :: u69 :: u70 :: u71 :: u72 :: u73 :: u74 :: u75 :: u76 :: u77 :: u78 :: u79 :: u80 :: u81 :: u82 :: u83 :: u84 :: u85 :: u86 :: u87 :: u88 :: u89 :: u90 :: u91 :: u92 :: u93 :: u94 :: u95 :: u96 :: u97 :: u98 :: u99 :: u100 :: u101 :: u102 :: u103 :: u104 :: u105 :: u106 :: u107 :: u108 :: u109 :: u110 :: u111 :: u112 :: u113 :: u114 :: u115 :: u116 :: u117 :: u118 :: u119 :: u120 :: u121 :: u122 :: u123 :: u124 :: u125 :: u126 :: u127 :: u128 :: u129 :: u130 :: u131 :: u132 :: u133 :: u134 :: u135 :: u136 :: u137 :: u138 :: u139 :: u140 :: u141 :: u142 :: u143 :: u144 :: u145 :: u146 :: u147 :: u148 :: u149 :: u150 :: u151 :: u152 :: u153 :: u154 :: u155 :: u156 :: u157 :: u158 :: u159 :: u160 :: u161 :: u162 :: u163 :: u164 :: u165 :: u166 :: u167 :: u168 :: u169 :: u170 :: u171 :: u172 :: u173 :: u174 :: u175 :: u176 :: u177 :: u178 :: u179 :: u180 :: u181 :: u182 :: u183 :: u184 :: u185 :: u186 :: u187 :: u188 :: u189 :: u190 :: u191 :: u192 :: u193 :: u194 :: u195 :: u196 :: u197 :: u198 :: u199 :: u200 :: u201 :: u202 :: u203 :: []).toArray, ds⟩ W') :
    (codeM4 Tryz.f4).wp Tryz.prog (Exit.then K' Q') ⟨(u0 :: .string ⟨host.toArray⟩ :: .int .i64 id :: u3 :: u4 :: u5 :: .pointer (some ⟨bx, 0, none⟩) :: u7 :: u8 :: u9 :: u10 :: u11 :: u12 :: u13 :: u14 :: u15 :: u16 :: u17 :: u18 :: u19 :: u20 :: u21 :: u22 :: u23 :: u24 :: u25 :: u26 :: u27 :: u28 :: u29 :: u30 :: u31 :: u32 :: u33 :: u34 :: u35 :: u36 :: u37 :: u38 :: u39 :: u40 :: u41 :: u42 :: u43 :: u44 :: u45 :: u46 :: u47 :: u48 :: u49 :: u50 :: u51 :: u52 :: u53 :: u54 :: u55 :: u56 :: u57 :: u58 :: u59 :: u60 :: u61 :: u62 :: u63 :: u64 :: u65 :: u66 :: u67 :: u68 :: u69 :: u70 :: u71 :: u72 :: u73 :: u74 :: u75 :: u76 :: u77 :: u78 :: u79 :: u80 :: u81 :: u82 :: u83 :: u84 :: u85 :: u86 :: u87 :: u88 :: u89 :: u90 :: u91 :: u92 :: u93 :: u94 :: u95 :: u96 :: u97 :: u98 :: u99 :: u100 :: u101 :: u102 :: u103 :: u104 :: u105 :: u106 :: u107 :: u108 :: u109 :: u110 :: u111 :: u112 :: u113 :: u114 :: u115 :: u116 :: u117 :: u118 :: u119 :: u120 :: u121 :: u122 :: u123 :: u124 :: u125 :: u126 :: u127 :: u128 :: u129 :: u130 :: u131 :: u132 :: u133 :: u134 :: u135 :: u136 :: u137 :: u138 :: u139 :: u140 :: u141 :: u142 :: u143 :: u144 :: u145 :: u146 :: u147 :: u148 :: u149 :: u150 :: u151 :: u152 :: u153 :: u154 :: u155 :: u156 :: u157 :: u158 :: u159 :: u160 :: u161 :: u162 :: u163 :: u164 :: u165 :: u166 :: u167 :: u168 :: u169 :: u170 :: u171 :: u172 :: u173 :: u174 :: u175 :: u176 :: u177 :: u178 :: u179 :: u180 :: u181 :: u182 :: u183 :: u184 :: u185 :: u186 :: u187 :: u188 :: u189 :: u190 :: u191 :: u192 :: u193 :: u194 :: u195 :: u196 :: u197 :: u198 :: u199 :: u200 :: u201 :: u202 :: u203 :: []).toArray, ds⟩ W := by
  obtain ⟨p, c, rfl, -⟩ := hx.rc.sh
  obtain ⟨q, d, rfl, -⟩ := hx.fa.sh
  obtain ⟨r, g, rfl, -⟩ := hx.jo.sh
  have hMk := makeNot_any host x id _ _ _ W hx hs hh hE
  unfold MakePost at hMk
  obtain ⟨mm, hmm⟩ : ∃ mm, mm = madeN host x id := ⟨_, rfl⟩
  rw [← hmm] at hMk hK
  have HK := Lib.hid hK
  unfold entV at hMk
  unfold entC at hb hMk
  obtain ⟨x0, x1, x2, x3, x4, x5, x6, x7, x8, x9⟩ := eboxAll hb
  clear hb hmm hK hx hs hh hE
  conv => arg 2; whnf
  go_wp2_with fail
  refine hMk.mono ?_
  rintro e w5 ⟨⟨av, rfl, hy⟩, hb4⟩
  clear hMk x0 x1 x2 x3 x4 x5 x6 x7 x8 x9
  obtain ⟨p1, c1, rfl, -⟩ := hy.sh
  have hal : Below w5.heap.size w5 (w5.alloc (.cells (notC mm.1 (.slice p1 mm.1.failed.length c1)).toArray 34)) := (Below.refl _ _).alloc (Nat.le_refl _) _
  have HZ := Lib.hid (And.intro (hb4.trans (hal.mono hb4.size)) (hy.below hal))
  clear hb4 hal hy
  unfold notV notC
  unfold notC at HZ
  go_wp2
  exact HK.out _ _ _ _ _ _ _ _ _ _ ⟨⟨_, _, rfl, rfl, ha_eq rfl, HZ.out.2⟩, HZ.out.1⟩
def codeM17 (f : Func) : Code := nA (nB (nB (nB (nB (nB (nB (nB (nB (nB (nB (nB (nB (nBody f)))))))))))))
set_option linter.unusedSimpArgs false in
set_option linter.unusedVariables false in
set_option maxRecDepth 1000000 in
set_option maxHeartbeats 16000000 in
theorem mayP17 {u0 u3 u4 u5 u6 u7 u8 u9 u10 u11 u12 u13 u14 u15 u16 u17 u18 u19 u20 u22 u23 u24 u25 u26 u27 u28 u29 u30 u31 u32 u33 u34 u35 u36 u37 u38 u39 u40 u41 u42 u43 u44 u45 u46 u47 u48 u49 u50 u51 u52 u53 u54 u55 u56 u57 u58 u59 u60 u61 u62 u63 u64 u65 u66 u67 u68 u69 u70 u71 u72 u73 u74 u75 u76 u77 u78 u79 u80 u81 u82 u83 u84 u85 u86 u87 u88 u89 u90 u91 u92 u93 u94 u95 u96 u97 u98 u99 u100 u101 u102 u103 u104 u105 u106 u107 u108 u109 u110 u111 u112 u113 u114 u115 u116 u117 u118 u119 u120 u121 u122 u123 u124 u125 u126 u127 u128 u129 u130 u131 u132 u133 u134 u135 u136 u137 u138 u139 u140 u141 u142 u143 u144 u145 u146 u147 u148 u149 u150 u151 u152 u153 u154 u155 u156 u157 u158 u159 u160 u161 u162 u163 u164 u165 u166 u167 u168 u169 u170 u171 u172 u173 u174 u175 u176 u177 u178 u179 u180 u181 u182 u183 u184 u185 u186 u187 u188 u189 u190 u191 u192 u193 u194 u195 u196 u197 u198 u199 u200 u201 u202 u203 : Value} {ds : List Deferred} (K' : Act → World → Prop) (Q' : Exit → Act → World → Prop) (host : Bytes) (id : Int) (x : EntP) (sv fv jv : Value) (bx : Nat) (W : World)
    (hb : W.heap[bx]? = some (.cells (entC x sv fv jv).toArray 28 (0, 0))) (hx : EntAt W x sv fv jv) (hs : ShortE x) (hh : host.length ≤ maxLen) (hE : Env W)
    (hK : ∀ (v23 v24 v176 v177 v178 v179 v180 v181 v182 : Value) (W' : World), ((∃ b15 av, v23 = .pointer (some ⟨b15, 0, none⟩) ∧ v24 = .bool (madeN host x id).2 ∧ W'.heap[b15]? = some (.cells (notC (madeN host x id).1 av).toArray 34 (0, 0)) ∧ RowK 3 flE W' av (madeN host x id).1.failed) ∧ Below W.heap.size W W') → K' ⟨(u0 :: .string ⟨host.toArray⟩ :: .int .i64 id :: u3 :: u4 :: u5 :: u6 :: u7 :: u8 :: u9 :: u10 :: u11 :: u12 :: u13 :: u14 :: u15 :: u16 :: u17 :: u18 :: u19 :: u20 :: .pointer (some ⟨bx, 0, none⟩) :: u22 :: v23 :: v24 :: u25 :: u26 :: u27 :: u28 :: u29 :: u30 :: u31 :: u32 :: u33 :: u34 :: u35 :: u36 :: u37 :: u38 :: u39 :: u40 :: u41 :: u42 :: u43 :: u44 :: u45 :: u46 :: u47 :: u48 :: u49 :: u50 :: u51 :: u52 :: u53 :: u54 :: u55 :: u56 :: u57 :: u58 :: u59 :: u60 :: u61 :: u62 :: u63 :: u64 :: u65 :: u66 :: u67 :: u68 :: u69 :: u70 :: u71 :: u72 :: u73 :: u74 :: u75 :: u76 :: u77 :: u78 :: u79 :: u80 :: u81 :: u82 :: u83 :: u84 :: u85 :: u86 :: u87 :: u88 :: u89 :: u90 :: u91 :: u92 :: u93 :: u94 :: u95 :: u96 :: u97 :: u98 :: u99 :: u100 :: u101 :: u102 :: u103 :: u104 :: u105 :: u106 :: u107 :: u108 :: u109 :: u110 :: u111 :: u112 :: u113 :: u114 :: u115 :: u116 :: u117 :: u118 :: u119 :: u120 :: u121 :: u122 :: u123 :: u124 :: u125 :: u126 :: u127 :: u128 :: u129 :: u130 :: u131 :: u132 :: u133 :: u134 :: u135 :: u136 :: u137 :: u138 :: u139 :: u140 :: u141 :: u142 :: u143 :: u144 :: u145 :: u146 :: u147 :: u148 :: u149 :: u150 :: u151 :: u152 :: u153 :: u154 :: u155 :: u156 :: u157 :: u158 :: u159 :: u160 :: u161 :: u162 :: u163 :: u164 :: u165 :: u166 :: u167 :: u168 :: u169 :: u170 :: u171 :: u172 :: u173 :: u174 :: u175 :: v176 :: v177 :: v178 :: v179 :: v180 :: v181 :: v182 :: u183 :: u184 :: u185 :: u186 :: u187 :: u188 :: u189 :: u190 :: u191 :: u192 :: u193 :: u194 :: u195 :: u196 :: u197 :: u198 :: u199 :: u200 :: u201 :: u202 :: u203 :: []).toArray, ds⟩ W') :
    (codeM17 Tryz.f4).wp Tryz.prog (Exit.then K' Q') ⟨(u0 :: .string ⟨host.toArray⟩ :: .int .i64 id :: u3 :: u4 :: u5 :: u6 :: u7 :: u8 :: u9 :: u10 :: u11 :: u12 :: u13 :: u14 :: u15 :: u16 :: u17 :: u18 :: u19 :: u20 :: .pointer (some ⟨bx, 0, none⟩) :: u22 :: u23 :: u24 :: u25 :: u26 :: u27 :: u28 :: u29 :: u30 :: u31 :: u32 :: u33 :: u34 :: u35 :: u36 :: u37 :: u38 :: u39 :: u40 :: u41 :: u42 :: u43 :: u44 :: u45 :: u46 :: u47 :: u48 :: u49 :: u50 :: u51 :: u52 :: u53 :: u54 :: u55 :: u56 :: u57 :: u58 :: u59 :: u60 :: u61 :: u62 :: u63 :: u64 :: u65 :: u66 :: u67 :: u68 :: u69 :: u70 :: u71 :: u72 :: u73 :: u74 :: u75 :: u76 :: u77 :: u78 :: u79 :: u80 :: u81 :: u82 :: u83 :: u84 :: u85 :: u86 :: u87 :: u88 :: u89 :: u90 :: u91 :: u92 :: u93 :: u94 :: u95 :: u96 :: u97 :: u98 :: u99 :: u100 :: u101 :: u102 :: u103 :: u104 :: u105 :: u106 :: u107 :: u108 :: u109 :: u110 :: u111 :: u112 :: u113 :: u114 :: u115 :: u116 :: u117 :: u118 :: u119 :: u120 :: u121 :: u122 :: u123 :: u124 :: u125 :: u126 :: u127 :: u128 :: u129 :: u130 :: u131 :: u132 :: u133 :: u134 :: u135 :: u136 :: u137 :: u138 :: u139 :: u140 :: u141 :: u142 :: u143 :: u144 :: u145 :: u146 :: u147 :: u148 :: u149 :: u150 :: u151 :: u152 :: u153 :: u154 :: u155 :: u156 :: u157 :: u158 :: u159 :: u160 :: u161 :: u162 :: u163 :: u164 :: u165 :: u166 :: u167 :: u168 :: u169 :: u170 :: u171 :: u172 :: u173 :: u174 :: u175 :: u176 :: u177 :: u178 :: u179 :: u180 :: u181 :: u182 :: u183 :: u184 :: u185 :: u186 :: u187 :: u188 :: u189 :: u190 :: u191 :: u192 :: u193 :: u194 :: u195 :: u196 :: u197 :: u198 :: u199 :: u200 :: u201 :: u202 :: u203 :: []).toArray, ds⟩ W := by
  obtain ⟨p, c, rfl, -⟩ := hx.rc.sh
  obtain ⟨q, d, rfl, -⟩ := hx.fa.sh
  obtain ⟨r, g, rfl, -⟩ := hx.jo.sh
  have hMk := makeNot_any host x id _ _ _ W hx hs hh hE
  unfold MakePost at hMk
  obtain ⟨mm, hmm⟩ : ∃ mm, mm = madeN host x id := ⟨_, rfl⟩
  rw [← hmm] at hMk hK
  have HK := Lib.hid hK
  unfold entV at hMk
  unfold entC at hb hMk
  obtain ⟨x0, x1, x2, x3, x4, x5, x6, x7, x8, x9⟩ := eboxAll hb
  clear hb hmm hK hx hs hh hE
  conv => arg 2; whnf
  go_wp2_with fail
  refine hMk.mono ?_
  rintro e w5 ⟨⟨av, rfl, hy⟩, hb4⟩
  clear hMk x0 x1 x2 x3 x4 x5 x6 x7 x8 x9
  obtain ⟨p1, c1, rfl, -⟩ := hy.sh
  have hal : Below w5.heap.size w5 (w5.alloc (.cells (notC mm.1 (.slice p1 mm.1.failed.length c1)).toArray 34)) := (Below.refl _ _).alloc (Nat.le_refl _) _
  have HZ := Lib.hid (And.intro (hb4.trans (hal.mono hb4.size)) (hy.below hal))
  clear hb4 hal hy
  unfold notV notC
  unfold notC at HZ
  go_wp2
  exact HK.out _ _ _ _ _ _ _ _ _ _ ⟨⟨_, _, rfl, rfl, ha_eq rfl, HZ.out.2⟩, HZ.out.1⟩
def codeM5 (f : Func) : Code := nA (nB (nB (nB (nB (nBody f)))))
set_option linter.unusedSimpArgs false in
set_option linter.unusedVariables false in
set_option maxRecDepth 1000000 in
set_option maxHeartbeats 16000000 in
theorem mayP5 {u0 u2 u3 u4 u5 u7 u8 u9 u10 u11 u12 u13 u14 u15 u16 u17 u18 u19 u20 u21 u22 u23 u24 u25 u26 u27 u28 u29 u30 u31 u32 u33 u34 u35 u36 u37 u38 u39 u40 u41 u42 u43 u44 u45 u46 u47 u48 u49 u50 u51 u52 u53 u54 u55 u56 u57 u58 u59 u60 u61 u62 u63 u64 u65 u66 u67 u68 u69 u70 u71 u72 u73 u74 u75 u76 u77 u78 u79 u80 u81 u82 u83 u84 u85 u86 u87 u88 u89 u90 u91 u92 u93 u94 u95 u96 u97 u98 u99 u100 u101 u102 u103 u104 u105 u106 u107 u108 u109 u110 u111 u112 u113 u114 u115 u116 u117 u118 u119 u120 u121 u122 u123 u124 u125 u126 u127 u128 u129 u130 u131 u132 u133 u134 u135 u136 u137 u138 u139 u140 u141 u142 u143 u144 u145 u146 u147 u148 u149 u150 u151 u152 u153 u154 u155 u156 u157 u158 u159 u160 u161 u162 u163 u164 u165 u166 u167 u168 u169 u170 u171 u172 u173 u174 u175 u176 u177 u178 u179 u180 u181 u182 u183 u184 u185 u186 u187 u188 u189 u190 u191 u192 u193 u194 u195 u196 u197 u198 u199 u200 u201 u202 u203 : Value} {ds : List Deferred} (K' : Act → World → Prop) (Q' : Exit → Act → World → Prop) (host : Bytes) (x : EntP) (sv fv jv : Value) (bx : Nat) (W : World)
    (hb : W.heap[bx]? = some (.cells (entC x sv fv jv).toArray 28 (0, 0))) (hx : EntAt W x sv fv jv) (hs : ShortE x) (hh : host.length ≤ maxLen) (hE : Env W)
    (hK : ∀ (v17 v60 v61 v62 v63 : Value) (W' : World), (v17 = .int .i64 (mostNo host x.mail : Int) ∧ Below W.heap.size W W') → K' ⟨(u0 :: .string ⟨host.toArray⟩ :: u2 :: u3 :: u4 :: u5 :: .pointer (some ⟨bx, 0, none⟩) :: u7 :: u8 :: u9 :: u10 :: u11 :: u12 :: u13 :: u14 :: u15 :: u16 :: v17 :: u18 :: u19 :: u20 :: u21 :: u22 :: u23 :: u24 :: u25 :: u26 :: u27 :: u28 :: u29 :: u30 :: u31 :: u32 :: u33 :: u34 :: u35 :: u36 :: u37 :: u38 :: u39 :: u40 :: u41 :: u42 :: u43 :: u44 :: u45 :: u46 :: u47 :: u48 :: u49 :: u50 :: u51 :: u52 :: u53 :: u54 :: u55 :: u56 :: u57 :: u58 :: u59 :: v60 :: v61 :: v62 :: v63 :: u64 :: u65 :: u66 :: u67 :: u68 :: u69 :: u70 :: u71 :: u72 :: u73 :: u74 :: u75 :: u76 :: u77 :: u78 :: u79 :: u80 :: u81 :: u82 :: u83 :: u84 :: u85 :: u86 :: u87 :: u88 :: u89 :: u90 :: u91 :: u92 :: u93 :: u94 :: u95 :: u96 :: u97 :: u98 :: u99 :: u100 :: u101 :: u102 :: u103 :: u104 :: u105 :: u106 :: u107 :: u108 :: u109 :: u110 :: u111 :: u112 :: u113 :: u114 :: u115 :: u116 :: u117 :: u118 :: u119 :: u120 :: u121 :: u122 :: u123 :: u124 :: u125 :: u126 :: u127 :: u128 :: u129 :: u130 :: u131 :: u132 :: u133 :: u134 :: u135 :: u136 :: u137 :: u138 :: u139 :: u140 :: u141 :: u142 :: u143 :: u144 :: u145 :: u146 :: u147 :: u148 :: u149 :: u150 :: u151 :: u152 :: u153 :: u154 :: u155 :: u156 :: u157 :: u158 :: u159 :: u160 :: u161 :: u162 :: u163 :: u164 :: u165 :: u166 :: u167 :: u168 :: u169 :: u170 :: u171 :: u172 :: u173 :: u174 :: u175 :: u176 :: u177 :: u178 :: u179 :: u180 :: u181 :: u182 :: u183 :: u184 :: u185 :: u186 :: u187 :: u188 :: u189 :: u190 :: u191 :: u192 :: u193 :: u194 :: u195 :: u196 :: u197 :: u198 :: u199 :: u200 :: u201 :: u202 :: u203 :: []).toArray, ds⟩ W') :
    (codeM5 Tryz.f4).wp Tryz.prog (Exit.then K' Q') ⟨(u0 :: .string ⟨host.toArray⟩ :: u2 :: u3 :: u4 :: u5 :: .pointer (some ⟨bx, 0, none⟩) :: u7 :: u8 :: u9 :: u10 :: u11 :: u12 :: u13 :: u14 :: u15 :: u16 :: u17 :: u18 :: u19 :: u20 :: u21 :: u22 :: u23 :: u24 :: u25 :: u26 :: u27 :: u28 :: u29 :: u30 :: u31 :: u32 :: u33 :: u34 :: u35 :: u36 :: u37 :: u38 :: u39 :: u40 :: u41 :: u42 :: u43 :: u44 :: u45 :: u46 :: u47 :: u48 :: u49 :: u50 :: u51 :: u52 :: u53 :: u54 :: u55 :: u56 :: u57 :: u58 :: u59 :: u60 :: u61 :: u62 :: u63 :: u64 :: u65 :: u66 :: u67 :: u68 :: u69 :: u70 :: u71 :: u72 :: u73 :: u74 :: u75 :: u76 :: u77 :: u78 :: u79 :: u80 :: u81 :: u82 :: u83 :: u84 :: u85 :: u86 :: u87 :: u88 :: u89 :: u90 :: u91 :: u92 :: u93 :: u94 :: u95 :: u96 :: u97 :: u98 :: u99 :: u100 :: u101 :: u102 :: u103 :: u104 :: u105 :: u106 :: u107 :: u108 :: u109 :: u110 :: u111 :: u112 :: u113 :: u114 :: u115 :: u116 :: u117 :: u118 :: u119 :: u120 :: u121 :: u122 :: u123 :: u124 :: u125 :: u126 :: u127 :: u128 :: u129 :: u130 :: u131 :: u132 :: u133 :: u134 :: u135 :: u136 :: u137 :: u138 :: u139 :: u140 :: u141 :: u142 :: u143 :: u144 :: u145 :: u146 :: u147 :: u148 :: u149 :: u150 :: u151 :: u152 :: u153 :: u154 :: u155 :: u156 :: u157 :: u158 :: u159 :: u160 :: u161 :: u162 :: u163 :: u164 :: u165 :: u166 :: u167 :: u168 :: u169 :: u170 :: u171 :: u172 :: u173 :: u174 :: u175 :: u176 :: u177 :: u178 :: u179 :: u180 :: u181 :: u182 :: u183 :: u184 :: u185 :: u186 :: u187 :: u188 :: u189 :: u190 :: u191 :: u192 :: u193 :: u194 :: u195 :: u196 :: u197 :: u198 :: u199 :: u200 :: u201 :: u202 :: u203 :: []).toArray, ds⟩ W := by
  obtain ⟨p, c, rfl, -⟩ := hx.rc.sh
  obtain ⟨q, d, rfl, -⟩ := hx.fa.sh
  obtain ⟨r, g, rfl, -⟩ := hx.jo.sh
  have hMo := mostNote_any host x.mail _ W hx.rc hs.mail hh hE
  obtain ⟨a, ha⟩ : ∃ a, a = mostNo host x.mail := ⟨_, rfl⟩
  rw [← ha] at hMo hK
  have HK := Lib.hid hK
  unfold mailV mailC at hMo
  unfold entC at hb
  obtain ⟨x0, x1, x2, x3, x4, x5, x6, x7, x8, x9⟩ := eboxAll hb
  clear hb ha hK hx hs hh hE
  conv => arg 2; whnf
  go_wp2_with fail
  refine hMo.mono ?_
  rintro e w6 ⟨rfl, hb6⟩
  have H6 := Lib.hid hb6
  clear hMo hb6 x0 x1 x2 x3 x4 x5 x6 x7 x8 x9
  go_wp2
  exact HK.out _ _ _ _ _ _ ⟨rfl, H6.out⟩
def codeM6 (f : Func) : Code := nA (nA (nB (nB (nB (nB (nB (nBody f)))))))
set_option linter.unusedSimpArgs false in
set_option linter.unusedVariables false in
set_option maxRecDepth 1000000 in
set_option maxHeartbeats 16000000 in
theorem mayP6 {u0 u1 u2 u4 u5 u6 u7 u8 u9 u10 u11 u12 u13 u15 u18 u19 u20 u21 u22 u23 u24 u25 u26 u27 u28 u29 u30 u31 u32 u33 u34 u35 u36 u37 u38 u39 u40 u41 u42 u43 u44 u45 u46 u47 u48 u49 u50 u51 u52 u53 u54 u55 u56 u57 u58 u59 u60 u61 u62 u63 u64 u65 u66 u67 u68 u69 u70 u71 u72 u73 u74 u75 u76 u77 u78 u79 u80 u81 u82 u83 u84 u85 u86 u87 u88 u89 u90 u91 u92 u93 u94 u95 u96 u97 u98 u99 u100 u101 u102 u103 u104 u105 u106 u107 u108 u109 u110 u111 u112 u113 u114 u115 u116 u117 u118 u119 u120 u121 u122 u123 u124 u125 u126 u127 u128 u129 u130 u131 u132 u133 u134 u135 u136 u137 u138 u139 u140 u141 u142 u143 u144 u145 u146 u147 u148 u149 u150 u151 u152 u153 u154 u155 u156 u157 u158 u159 u160 u161 u162 u163 u164 u165 u166 u167 u168 u169 u170 u171 u172 u173 u174 u175 u176 u177 u178 u179 u180 u181 u182 u183 u184 u185 u186 u187 u188 u189 u190 u191 u192 u193 u194 u195 u196 u197 u198 u199 u200 u201 u202 u203 : Value} {ds : List Deferred} (K' : Act → World → Prop) (Q' : Exit → Act → World → Prop) (now : Int) (is_ has : Bool) (a : Nat) (W : World)
    (hF1 : is_ = (has && (decide (0 ≤ now) && decide (now ≤ 1099511627776)))) (hF2 : has = true → a ≠ 0)
    (hK : ∀ (v64 v65 v66 v67 v68 v69 v70 v71 v72 v73 v74 v75 v76 v77 v78 v79 v80 v81 : Value) (W' : World), (v81 = .bool false ∧ W' = W) → K' ⟨(u0 :: u1 :: u2 :: .int .i64 now :: u4 :: u5 :: u6 :: u7 :: u8 :: u9 :: u10 :: u11 :: u12 :: u13 :: .bool is_ :: u15 :: .bool has :: .int .i64 (a : Int) :: u18 :: u19 :: u20 :: u21 :: u22 :: u23 :: u24 :: u25 :: u26 :: u27 :: u28 :: u29 :: u30 :: u31 :: u32 :: u33 :: u34 :: u35 :: u36 :: u37 :: u38 :: u39 :: u40 :: u41 :: u42 :: u43 :: u44 :: u45 :: u46 :: u47 :: u48 :: u49 :: u50 :: u51 :: u52 :: u53 :: u54 :: u55 :: u56 :: u57 :: u58 :: u59 :: u60 :: u61 :: u62 :: u63 :: v64 :: v65 :: v66 :: v67 :: v68 :: v69 :: v70 :: v71 :: v72 :: v73 :: v74 :: v75 :: v76 :: v77 :: v78 :: v79 :: v80 :: v81 :: u82 :: u83 :: u84 :: u85 :: u86 :: u87 :: u88 :: u89 :: u90 :: u91 :: u92 :: u93 :: u94 :: u95 :: u96 :: u97 :: u98 :: u99 :: u100 :: u101 :: u102 :: u103 :: u104 :: u105 :: u106 :: u107 :: u108 :: u109 :: u110 :: u111 :: u112 :: u113 :: u114 :: u115 :: u116 :: u117 :: u118 :: u119 :: u120 :: u121 :: u122 :: u123 :: u124 :: u125 :: u126 :: u127 :: u128 :: u129 :: u130 :: u131 :: u132 :: u133 :: u134 :: u135 :: u136 :: u137 :: u138 :: u139 :: u140 :: u141 :: u142 :: u143 :: u144 :: u145 :: u146 :: u147 :: u148 :: u149 :: u150 :: u151 :: u152 :: u153 :: u154 :: u155 :: u156 :: u157 :: u158 :: u159 :: u160 :: u161 :: u162 :: u163 :: u164 :: u165 :: u166 :: u167 :: u168 :: u169 :: u170 :: u171 :: u172 :: u173 :: u174 :: u175 :: u176 :: u177 :: u178 :: u179 :: u180 :: u181 :: u182 :: u183 :: u184 :: u185 :: u186 :: u187 :: u188 :: u189 :: u190 :: u191 :: u192 :: u193 :: u194 :: u195 :: u196 :: u197 :: u198 :: u199 :: u200 :: u201 :: u202 :: u203 :: []).toArray, ds⟩ W') :
    (codeM6 Tryz.f4).wp Tryz.prog (Exit.then K' Q') ⟨(u0 :: u1 :: u2 :: .int .i64 now :: u4 :: u5 :: u6 :: u7 :: u8 :: u9 :: u10 :: u11 :: u12 :: u13 :: .bool is_ :: u15 :: .bool has :: .int .i64 (a : Int) :: u18 :: u19 :: u20 :: u21 :: u22 :: u23 :: u24 :: u25 :: u26 :: u27 :: u28 :: u29 :: u30 :: u31 :: u32 :: u33 :: u34 :: u35 :: u36 :: u37 :: u38 :: u39 :: u40 :: u41 :: u42 :: u43 :: u44 :: u45 :: u46 :: u47 :: u48 :: u49 :: u50 :: u51 :: u52 :: u53 :: u54 :: u55 :: u56 :: u57 :: u58 :: u59 :: u60 :: u61 :: u62 :: u63 :: u64 :: u65 :: u66 :: u67 :: u68 :: u69 :: u70 :: u71 :: u72 :: u73 :: u74 :: u75 :: u76 :: u77 :: u78 :: u79 :: u80 :: u81 :: u82 :: u83 :: u84 :: u85 :: u86 :: u87 :: u88 :: u89 :: u90 :: u91 :: u92 :: u93 :: u94 :: u95 :: u96 :: u97 :: u98 :: u99 :: u100 :: u101 :: u102 :: u103 :: u104 :: u105 :: u106 :: u107 :: u108 :: u109 :: u110 :: u111 :: u112 :: u113 :: u114 :: u115 :: u116 :: u117 :: u118 :: u119 :: u120 :: u121 :: u122 :: u123 :: u124 :: u125 :: u126 :: u127 :: u128 :: u129 :: u130 :: u131 :: u132 :: u133 :: u134 :: u135 :: u136 :: u137 :: u138 :: u139 :: u140 :: u141 :: u142 :: u143 :: u144 :: u145 :: u146 :: u147 :: u148 :: u149 :: u150 :: u151 :: u152 :: u153 :: u154 :: u155 :: u156 :: u157 :: u158 :: u159 :: u160 :: u161 :: u162 :: u163 :: u164 :: u165 :: u166 :: u167 :: u168 :: u169 :: u170 :: u171 :: u172 :: u173 :: u174 :: u175 :: u176 :: u177 :: u178 :: u179 :: u180 :: u181 :: u182 :: u183 :: u184 :: u185 :: u186 :: u187 :: u188 :: u189 :: u190 :: u191 :: u192 :: u193 :: u194 :: u195 :: u196 :: u197 :: u198 :: u199 :: u200 :: u201 :: u202 :: u203 :: []).toArray, ds⟩ W := by
  have HK := Lib.hid hK
  clear hK
  conv => arg 2; whnf
  cases has with
  | false =>
    have e1 : is_ = false := by rw [hF1]; rfl
    subst e1
    clear hF1 hF2
    go_wp2
    exact HK.out _ _ _ _ _ _ _ _ _ _ _ _ _ _ _ _ _ _ _ ⟨rfl, rfl⟩
  | true =>
    have ha := hF2 rfl
    have e3 : ((a : Int) == 0) = false := by simpa using ha
    have e4 : decide ((a : Int) = 0) = false := by simpa using ha
    have e5 : decide (a = 0) = false := by simpa using ha
    by_cases hn : 0 ≤ now
    · by_cases hn2 : now ≤ 1099511627776
      · have e1 : is_ = true := by rw [hF1, decide_eq_true hn, decide_eq_true hn2]; rfl
        subst e1
        clear hF1 hF2 ha
        go_wp2
        exact HK.out _ _ _ _ _ _ _ _ _ _ _ _ _ _ _ _ _ _ _ ⟨by simp [hn2], rfl⟩
      · have e1 : is_ = false := by rw [hF1, decide_eq_true hn, decide_eq_false hn2]; rfl
        subst e1
        clear hF1 hF2 ha
        go_wp2
        exact HK.out _ _ _ _ _ _ _ _ _ _ _ _ _ _ _ _ _ _ _ ⟨by simp [hn2], rfl⟩
    · have e1 : is_ = false := by rw [hF1, decide_eq_false hn]; rfl
      subst e1
      clear hF1 hF2 ha
      go_wp2
      exact HK.out _ _ _ _ _ _ _ _ _ _ _ _ _ _ _ _ _ _ _ ⟨rfl, rfl⟩
def codeM8 (f : Func) : Code := nA (nB (nB (nB (nB (nB (nB (nBody f)))))))
set_option linter.unusedSimpArgs false in
set_option linter.unusedVariables false in
set_option maxRecDepth 1000000 in
set_option maxHeartbeats 16000000 in
theorem mayP8 {u0 u1 u2 u3 u4 u5 u7 u8 u9 u10 u11 u12 u13 u14 u15 u16 u17 u18 u19 u20 u21 u22 u23 u24 u25 u26 u27 u28 u29 u30 u31 u32 u33 u34 u35 u36 u37 u38 u39 u40 u41 u42 u43 u44 u45 u46 u47 u48 u49 u50 u51 u52 u53 u54 u55 u56 u57 u58 u59 u60 u61 u62 u63 u64 u65 u66 u67 u68 u69 u70 u71 u72 u73 u74 u75 u76 u77 u78 u79 u80 u81 u82 u83 u84 u85 u86 u87 u88 u89 u90 u91 u92 u93 u94 u95 u96 u97 u98 u99 u100 u101 u102 u103 u104 u105 u106 u107 u108 u109 u110 u111 u112 u113 u114 u115 u116 u117 u118 u119 u120 u121 u122 u123 u124 u125 u126 u127 u128 u129 u130 u131 u132 u133 u134 u135 u136 u137 u138 u139 u140 u141 u142 u143 u144 u145 u146 u147 u148 u149 u150 u151 u152 u153 u154 u155 u156 u157 u158 u159 u160 u161 u162 u163 u164 u165 u166 u167 u168 u169 u170 u171 u172 u173 u174 u175 u176 u177 u178 u179 u180 u181 u182 u183 u184 u185 u186 u187 u188 u189 u190 u191 u192 u193 u194 u195 u196 u197 u198 u199 u200 u201 u202 u203 : Value} {ds : List Deferred} (K' : Act → World → Prop) (Q' : Exit → Act → World → Prop) (x : EntP) (sv fv jv : Value) (bx : Nat) (W : World)
    (hb : W.heap[bx]? = some (.cells (entC x sv fv jv).toArray 28 (0, 0))) (hx : EntAt W x sv fv jv) (hs : ShortE x) (hE : Env W)
    (hK : ∀ (v18 v82 v83 v84 v85 v86 v87 v88 v89 v90 v91 v92 v93 v94 v95 v96 v97 v98 v99 : Value) (W' : World), (v18 = .bool (decide (badM x ≠ []) && (mayN x && (settledB x && decide (x.mail.sender ≠ [])))) ∧ Below W.heap.size W W') → K' ⟨(u0 :: u1 :: u2 :: u3 :: u4 :: u5 :: .pointer (some ⟨bx, 0, none⟩) :: u7 :: u8 :: u9 :: u10 :: u11 :: u12 :: u13 :: u14 :: u15 :: u16 :: u17 :: v18 :: u19 :: u20 :: u21 :: u22 :: u23 :: u24 :: u25 :: u26 :: u27 :: u28 :: u29 :: u30 :: u31 :: u32 :: u33 :: u34 :: u35 :: u36 :: u37 :: u38 :: u39 :: u40 :: u41 :: u42 :: u43 :: u44 :: u45 :: u46 :: u47 :: u48 :: u49 :: u50 :: u51 :: u52 :: u53 :: u54 :: u55 :: u56 :: u57 :: u58 :: u59 :: u60 :: u61 :: u62 :: u63 :: u64 :: u65 :: u66 :: u67 :: u68 :: u69 :: u70 :: u71 :: u72 :: u73 :: u74 :: u75 :: u76 :: u77 :: u78 :: u79 :: u80 :: u81 :: v82 :: v83 :: v84 :: v85 :: v86 :: v87 :: v88 :: v89 :: v90 :: v91 :: v92 :: v93 :: v94 :: v95 :: v96 :: v97 :: v98 :: v99 :: u100 :: u101 :: u102 :: u103 :: u104 :: u105 :: u106 :: u107 :: u108 :: u109 :: u110 :: u111 :: u112 :: u113 :: u114 :: u115 :: u116 :: u117 :: u118 :: u119 :: u120 :: u121 :: u122 :: u123 :: u124 :: u125 :: u126 :: u127 :: u128 :: u129 :: u130 :: u131 :: u132 :: u133 :: u134 :: u135 :: u136 :: u137 :: u138 :: u139 :: u140 :: u141 :: u142 :: u143 :: u144 :: u145 :: u146 :: u147 :: u148 :: u149 :: u150 :: u151 :: u152 :: u153 :: u154 :: u155 :: u156 :: u157 :: u158 :: u159 :: u160 :: u161 :: u162 :: u163 :: u164 :: u165 :: u166 :: u167 :: u168 :: u169 :: u170 :: u171 :: u172 :: u173 :: u174 :: u175 :: u176 :: u177 :: u178 :: u179 :: u180 :: u181 :: u182 :: u183 :: u184 :: u185 :: u186 :: u187 :: u188 :: u189 :: u190 :: u191 :: u192 :: u193 :: u194 :: u195 :: u196 :: u197 :: u198 :: u199 :: u200 :: u201 :: u202 :: u203 :: []).toArray, ds⟩ W') :
    (codeM8 Tryz.f4).wp Tryz.prog (Exit.then K' Q') ⟨(u0 :: u1 :: u2 :: u3 :: u4 :: u5 :: .pointer (some ⟨bx, 0, none⟩) :: u7 :: u8 :: u9 :: u10 :: u11 :: u12 :: u13 :: u14 :: u15 :: u16 :: u17 :: u18 :: u19 :: u20 :: u21 :: u22 :: u23 :: u24 :: u25 :: u26 :: u27 :: u28 :: u29 :: u30 :: u31 :: u32 :: u33 :: u34 :: u35 :: u36 :: u37 :: u38 :: u39 :: u40 :: u41 :: u42 :: u43 :: u44 :: u45 :: u46 :: u47 :: u48 :: u49 :: u50 :: u51 :: u52 :: u53 :: u54 :: u55 :: u56 :: u57 :: u58 :: u59 :: u60 :: u61 :: u62 :: u63 :: u64 :: u65 :: u66 :: u67 :: u68 :: u69 :: u70 :: u71 :: u72 :: u73 :: u74 :: u75 :: u76 :: u77 :: u78 :: u79 :: u80 :: u81 :: u82 :: u83 :: u84 :: u85 :: u86 :: u87 :: u88 :: u89 :: u90 :: u91 :: u92 :: u93 :: u94 :: u95 :: u96 :: u97 :: u98 :: u99 :: u100 :: u101 :: u102 :: u103 :: u104 :: u105 :: u106 :: u107 :: u108 :: u109 :: u110 :: u111 :: u112 :: u113 :: u114 :: u115 :: u116 :: u117 :: u118 :: u119 :: u120 :: u121 :: u122 :: u123 :: u124 :: u125 :: u126 :: u127 :: u128 :: u129 :: u130 :: u131 :: u132 :: u133 :: u134 :: u135 :: u136 :: u137 :: u138 :: u139 :: u140 :: u141 :: u142 :: u143 :: u144 :: u145 :: u146 :: u147 :: u148 :: u149 :: u150 :: u151 :: u152 :: u153 :: u154 :: u155 :: u156 :: u157 :: u158 :: u159 :: u160 :: u161 :: u162 :: u163 :: u164 :: u165 :: u166 :: u167 :: u168 :: u169 :: u170 :: u171 :: u172 :: u173 :: u174 :: u175 :: u176 :: u177 :: u178 :: u179 :: u180 :: u181 :: u182 :: u183 :: u184 :: u185 :: u186 :: u187 :: u188 :: u189 :: u190 :: u191 :: u192 :: u193 :: u194 :: u195 :: u196 :: u197 :: u198 :: u199 :: u200 :: u201 :: u202 :: u203 :: []).toArray, ds⟩ W := by
  obtain ⟨p, c, rfl, -⟩ := hx.rc.sh
  obtain ⟨q, d, rfl, -⟩ := hx.fa.sh
  obtain ⟨r, g, rfl, -⟩ := hx.jo.sh
  obtain ⟨bad, hbad⟩ : ∃ bad : Bool, bad = (decide (badM x ≠ []) && (mayN x && (settledB x && decide (x.mail.sender ≠ [])))) := ⟨_, rfl⟩
  rw [← hbad] at hK
  have HK := Lib.hid hK
  have HX := Lib.hid (And.intro hx (And.intro hs (And.intro hE hb)))
  have HBAD := Lib.hid hbad
  have hBd := bad_any x _ _ _ W hx hs
  unfold entV at hBd
  unfold entC at hb hBd
  obtain ⟨x0, x1, x2, x3, x4, x5, x6, x7, x8, x9⟩ := eboxAll hb
  clear hb hbad hK hx hs hE
  conv => arg 2; whnf
  go_wp2_with fail
  refine hBd.mono ?_
  rintro e w7 ⟨⟨v, rfl, ho⟩, hb7⟩
  obtain ⟨q1, d1, rfl⟩ := own_shape ho
  clear hBd x0 x1 x2 x3 x4 x5 x6 x7 x8 x9 ho
  have H7 := Lib.hid hb7
  have hb := (hb7.block _ (lt_of_cells HX.out.2.2.2)).trans HX.out.2.2.2
  have HX7 := Lib.hid hb
  clear hb7 hb
  have hbad := HBAD.out
  by_cases hne : badM x = []
  · have e1 : bad = false := by rw [hbad, decide_eq_false (by simpa using hne)]; rfl
    have e2 : (badM x).length = 0 := by rw [hne]; rfl
    subst e1
    rw [e2]
    clear hbad hne e2
    go_wp2
    exact HK.out _ _ _ _ _ _ _ _ _ _ _ _ _ _ _ _ _ _ _ _ ⟨rfl, H7.out⟩
  · have e0 : 0 < (badM x).length := List.length_pos_iff.2 hne
    have e1 : (0 : Int) < ((badM x).length : Int) := by omega
    have hbad2 : bad = (mayN x && (settledB x && decide (x.mail.sender ≠ []))) := by rw [hbad, decide_eq_true hne]; rfl
    have hMy := may_any x _ _ _ w7 (HX.out.1.below H7.out) HX.out.2.1 (HX.out.2.2.1.keep H7.out)
    have hb := HX7.out
    unfold entV at hMy
    unfold entC at hb hMy
    obtain ⟨x0, x1, x2, x3, x4, x5, x6, x7, x8, x9⟩ := eboxAll hb
    clear hb hne hbad e0
    go_wp2_with fail
    refine hMy.mono ?_
    rintro e w8 ⟨rfl, hb8⟩
    have H8 := Lib.hid (H7.out.trans (hb8.mono H7.out.size))
    have hb := (hb8.block _ (lt_of_cells HX7.out)).trans HX7.out
    have HX8 := Lib.hid hb
    clear hMy hb8 x0 x1 x2 x3 x4 x5 x6 x7 x8 x9 hb e1
    cases hmay : mayN x with
    | false =>
      have e1 : bad = false := by rw [hbad2, hmay]; rfl
      subst e1
      clear hbad2 hmay
      go_wp2
      exact HK.out _ _ _ _ _ _ _ _ _ _ _ _ _ _ _ _ _ _ _ _ ⟨rfl, H8.out⟩
    | true =>
      have hSt := settled_any x _ _ _ w8 (HX.out.1.below H8.out) HX.out.2.1
      have hb := HX8.out
      unfold entV at hSt
      unfold entC at hb hSt
      obtain ⟨x0, x1, x2, x3, x4, x5, x6, x7, x8, x9⟩ := eboxAll hb
      rw [hmay, Bool.true_and] at hbad2
      clear hb hmay
      go_wp2_with fail
      refine hSt.mono ?_
      rintro e w9 ⟨rfl, hb9⟩
      have H9 := Lib.hid (H8.out.trans (hb9.mono H8.out.size))
      have hb := (hb9.block _ (lt_of_cells HX8.out)).trans HX8.out
      clear hSt hb9 x0 x1 x2 x3 x4 x5 x6 x7 x8 x9
      unfold entC at hb
      obtain ⟨x0, x1, x2, x3, x4, x5, x6, x7, x8, x9⟩ := eboxAll hb
      clear hb x0 x1 x3 x4 x5 x6 x7 x8 x9
      cases hset : settledB x with
      | false =>
        have e1 : bad = false := by rw [hbad2, hset]; rfl
        subst e1
        clear hbad2 hset
        go_wp2
        exact HK.out _ _ _ _ _ _ _ _ _ _ _ _ _ _ _ _ _ _ _ _ ⟨rfl, H9.out⟩
      | true =>
        rw [hset, Bool.true_and] at hbad2
        clear hset
        by_cases hsn : x.mail.sender = []
        · have e1 : bad = false := by rw [hbad2, decide_eq_false (by simpa using hsn)]
          have hsn2 : (x.mail.sender == []) = true := by simpa using hsn
          have hsn3 : x.mail.sender.isEmpty = true := by rw [hsn]; rfl
          have hsn4 : decide (x.mail.sender = []) = true := by simpa using hsn
          subst e1
          clear hbad2 hsn
          go_wp2
          exact HK.out _ _ _ _ _ _ _ _ _ _ _ _ _ _ _ _ _ _ _ _ ⟨rfl, H9.out⟩
        · have e1 : bad = true := by rw [hbad2, decide_eq_true hsn]
          have hsn2 : (x.mail.sender == []) = false := by simpa using hsn
          have hsn3 : x.mail.sender.isEmpty = false := by simpa using hsn
          have hsn4 : decide (x.mail.sender = []) = false := by simpa using hsn
          subst e1
          clear hbad2
          go_wp2
          exact HK.out _ _ _ _ _ _ _ _ _ _ _ _ _ _ _ _ _ _ _ _ ⟨rfl, H9.out⟩
def codeM9 (f : Func) : Code := nA (nA (nB (nB (nB (nB (nB (nB (nB (nBody f)))))))))
set_option linter.unusedSimpArgs false in
set_option linter.unusedVariables false in
set_option maxRecDepth 1000000 in
set_option maxHeartbeats 16000000 in
theorem mayP9 {u0 u3 u4 u5 u6 u7 u8 u9 u10 u11 u12 u13 u14 u15 u17 u19 u20 u21 u22 u23 u24 u25 u26 u27 u28 u29 u30 u31 u32 u33 u34 u35 u36 u37 u38 u39 u40 u41 u42 u43 u44 u45 u46 u47 u48 u49 u50 u51 u52 u53 u54 u55 u56 u57 u58 u59 u60 u61 u62 u63 u64 u65 u66 u67 u68 u69 u70 u71 u72 u73 u74 u75 u76 u77 u78 u79 u80 u81 u82 u83 u84 u85 u86 u87 u88 u89 u90 u91 u92 u93 u94 u95 u96 u97 u98 u99 u100 u101 u102 u103 u104 u105 u106 u107 u108 u109 u110 u111 u112 u113 u114 u115 u116 u117 u118 u119 u120 u121 u122 u123 u124 u125 u126 u127 u128 u129 u130 u131 u132 u133 u134 u135 u136 u137 u138 u139 u140 u141 u142 u143 u144 u145 u146 u147 u148 u149 u150 u151 u152 u153 u154 u155 u156 u157 u158 u159 u160 u161 u162 u163 u164 u165 u166 u167 u168 u169 u170 u171 u172 u173 u174 u175 u176 u177 u178 u179 u180 u181 u182 u183 u184 u185 u186 u187 u188 u189 u190 u191 u192 u193 u194 u195 u196 u197 u198 u199 u200 u201 u202 u203 : Value} {ds : List Deferred} (K' : Act → World → Prop) (Q' : Exit → Act → World → Prop) (host : Bytes) (id : Int) (has bad : Bool) (W : World)
    (hF3 : has = (bad && (mayB host && (decide (1 ≤ id) && decide (id ≤ 1099511627776))))) (hh : host.length ≤ maxLen) (hE : Env W)
    (hK : ∀ (v100 v101 v102 v103 v104 v105 v106 v107 v108 v109 v110 v111 v112 v113 v114 : Value) (W' : World), (v114 = .bool false ∧ Below W.heap.size W W') → K' ⟨(u0 :: .string ⟨host.toArray⟩ :: .int .i64 id :: u3 :: u4 :: u5 :: u6 :: u7 :: u8 :: u9 :: u10 :: u11 :: u12 :: u13 :: u14 :: u15 :: .bool has :: u17 :: .bool bad :: u19 :: u20 :: u21 :: u22 :: u23 :: u24 :: u25 :: u26 :: u27 :: u28 :: u29 :: u30 :: u31 :: u32 :: u33 :: u34 :: u35 :: u36 :: u37 :: u38 :: u39 :: u40 :: u41 :: u42 :: u43 :: u44 :: u45 :: u46 :: u47 :: u48 :: u49 :: u50 :: u51 :: u52 :: u53 :: u54 :: u55 :: u56 :: u57 :: u58 :: u59 :: u60 :: u61 :: u62 :: u63 :: u64 :: u65 :: u66 :: u67 :: u68 :: u69 :: u70 :: u71 :: u72 :: u73 :: u74 :: u75 :: u76 :: u77 :: u78 :: u79 :: u80 :: u81 :: u82 :: u83 :: u84 :: u85 :: u86 :: u87 :: u88 :: u89 :: u90 :: u91 :: u92 :: u93 :: u94 :: u95 :: u96 :: u97 :: u98 :: u99 :: v100 :: v101 :: v102 :: v103 :: v104 :: v105 :: v106 :: v107 :: v108 :: v109 :: v110 :: v111 :: v112 :: v113 :: v114 :: u115 :: u116 :: u117 :: u118 :: u119 :: u120 :: u121 :: u122 :: u123 :: u124 :: u125 :: u126 :: u127 :: u128 :: u129 :: u130 :: u131 :: u132 :: u133 :: u134 :: u135 :: u136 :: u137 :: u138 :: u139 :: u140 :: u141 :: u142 :: u143 :: u144 :: u145 :: u146 :: u147 :: u148 :: u149 :: u150 :: u151 :: u152 :: u153 :: u154 :: u155 :: u156 :: u157 :: u158 :: u159 :: u160 :: u161 :: u162 :: u163 :: u164 :: u165 :: u166 :: u167 :: u168 :: u169 :: u170 :: u171 :: u172 :: u173 :: u174 :: u175 :: u176 :: u177 :: u178 :: u179 :: u180 :: u181 :: u182 :: u183 :: u184 :: u185 :: u186 :: u187 :: u188 :: u189 :: u190 :: u191 :: u192 :: u193 :: u194 :: u195 :: u196 :: u197 :: u198 :: u199 :: u200 :: u201 :: u202 :: u203 :: []).toArray, ds⟩ W') :
    (codeM9 Tryz.f4).wp Tryz.prog (Exit.then K' Q') ⟨(u0 :: .string ⟨host.toArray⟩ :: .int .i64 id :: u3 :: u4 :: u5 :: u6 :: u7 :: u8 :: u9 :: u10 :: u11 :: u12 :: u13 :: u14 :: u15 :: .bool has :: u17 :: .bool bad :: u19 :: u20 :: u21 :: u22 :: u23 :: u24 :: u25 :: u26 :: u27 :: u28 :: u29 :: u30 :: u31 :: u32 :: u33 :: u34 :: u35 :: u36 :: u37 :: u38 :: u39 :: u40 :: u41 :: u42 :: u43 :: u44 :: u45 :: u46 :: u47 :: u48 :: u49 :: u50 :: u51 :: u52 :: u53 :: u54 :: u55 :: u56 :: u57 :: u58 :: u59 :: u60 :: u61 :: u62 :: u63 :: u64 :: u65 :: u66 :: u67 :: u68 :: u69 :: u70 :: u71 :: u72 :: u73 :: u74 :: u75 :: u76 :: u77 :: u78 :: u79 :: u80 :: u81 :: u82 :: u83 :: u84 :: u85 :: u86 :: u87 :: u88 :: u89 :: u90 :: u91 :: u92 :: u93 :: u94 :: u95 :: u96 :: u97 :: u98 :: u99 :: u100 :: u101 :: u102 :: u103 :: u104 :: u105 :: u106 :: u107 :: u108 :: u109 :: u110 :: u111 :: u112 :: u113 :: u114 :: u115 :: u116 :: u117 :: u118 :: u119 :: u120 :: u121 :: u122 :: u123 :: u124 :: u125 :: u126 :: u127 :: u128 :: u129 :: u130 :: u131 :: u132 :: u133 :: u134 :: u135 :: u136 :: u137 :: u138 :: u139 :: u140 :: u141 :: u142 :: u143 :: u144 :: u145 :: u146 :: u147 :: u148 :: u149 :: u150 :: u151 :: u152 :: u153 :: u154 :: u155 :: u156 :: u157 :: u158 :: u159 :: u160 :: u161 :: u162 :: u163 :: u164 :: u165 :: u166 :: u167 :: u168 :: u169 :: u170 :: u171 :: u172 :: u173 :: u174 :: u175 :: u176 :: u177 :: u178 :: u179 :: u180 :: u181 :: u182 :: u183 :: u184 :: u185 :: u186 :: u187 :: u188 :: u189 :: u190 :: u191 :: u192 :: u193 :: u194 :: u195 :: u196 :: u197 :: u198 :: u199 :: u200 :: u201 :: u202 :: u203 :: []).toArray, ds⟩ W := by
  have HK := Lib.hid hK
  have hNm := nameMay_any ⟨host.toArray⟩ W hh hE.glob
  have e0 : (⟨host.toArray⟩ : ByteArray).data.toList = host := rfl
  rw [e0] at hNm
  clear e0 hK hh hE
  conv => arg 2; whnf
  cases bad with
  | false =>
    have e1 : has = false := by rw [hF3]; rfl
    subst e1
    clear hF3
    go_wp2
    exact HK.out _ _ _ _ _ _ _ _ _ _ _ _ _ _ _ _ ⟨rfl, Below.refl _ _⟩
  | true =>
    rw [Bool.true_and] at hF3
    go_wp2_with fail
    refine hNm.mono ?_
    rintro e w8 ⟨rfl, hb8⟩
    have H8 := Lib.hid hb8
    clear hNm hb8
    cases hmb : mayB host with
    | false =>
      have e1 : has = false := by rw [hF3, hmb]; rfl
      subst e1
      clear hF3 hmb
      go_wp2
      exact HK.out _ _ _ _ _ _ _ _ _ _ _ _ _ _ _ _ ⟨rfl, H8.out⟩
    | true =>
      rw [hmb, Bool.true_and] at hF3
      clear hmb
      by_cases h1 : 1 ≤ id
      · by_cases h2 : id ≤ 1099511627776
        · have e1 : has = true := by rw [hF3, decide_eq_true h1, decide_eq_true h2]; rfl
          subst e1
          clear hF3
          go_wp2
          exact HK.out _ _ _ _ _ _ _ _ _ _ _ _ _ _ _ _ ⟨by simp [h2], H8.out⟩
        · have e1 : has = false := by rw [hF3, decide_eq_true h1, decide_eq_false h2]; rfl
          subst e1
          clear hF3
          go_wp2
          exact HK.out _ _ _ _ _ _ _ _ _ _ _ _ _ _ _ _ ⟨by simp [h2], H8.out⟩
      · have e1 : has = false := by rw [hF3, decide_eq_false h1]; rfl
        subst e1
        clear hF3
        go_wp2
        exact HK.out _ _ _ _ _ _ _ _ _ _ _ _ _ _ _ _ ⟨rfl, H8.out⟩
def codeM13 (f : Func) : Code := nA (nB (nB (nB (nB (nB (nB (nB (nB (nB (nBody f))))))))))
set_option linter.unusedSimpArgs false in
set_option linter.unusedVariables false in
set_option maxRecDepth 1000000 in
set_option maxHeartbeats 16000000 in
theorem mayP13 {u0 u1 u2 u3 u4 u5 u6 u7 u8 u9 u10 u11 u12 u14 u15 u16 u17 u18 u19 u20 u21 u22 u23 u24 u25 u26 u27 u28 u29 u30 u31 u32 u33 u34 u35 u36 u37 u38 u39 u40 u41 u42 u43 u44 u45 u46 u47 u48 u49 u50 u51 u52 u53 u54 u55 u56 u57 u58 u59 u60 u61 u62 u63 u64 u65 u66 u67 u68 u69 u70 u71 u72 u73 u74 u75 u76 u77 u78 u79 u80 u81 u82 u83 u84 u85 u86 u87 u88 u89 u90 u91 u92 u93 u94 u95 u96 u97 u98 u99 u100 u101 u102 u103 u104 u105 u106 u107 u108 u109 u110 u111 u112 u113 u114 u115 u116 u117 u118 u119 u120 u121 u122 u123 u124 u125 u126 u127 u128 u129 u130 u131 u132 u133 u134 u135 u136 u137 u138 u139 u140 u141 u142 u143 u144 u145 u146 u147 u148 u149 u150 u151 u152 u153 u154 u155 u156 u157 u158 u159 u160 u161 u162 u163 u164 u165 u166 u167 u168 u169 u170 u171 u172 u173 u174 u175 u176 u177 u178 u179 u180 u181 u182 u183 u184 u185 u186 u187 u188 u189 u190 u191 u192 u193 u194 u195 u196 u197 u198 u199 u200 u201 u202 u203 : Value} {ds : List Deferred} (K' : Act → World → Prop) (Q' : Exit → Act → World → Prop) (x : EntP) (sv fv jv : Value) (bx : Nat) (W : World)
    (hb : W.heap[bx]? = some (.cells (entC x sv fv jv).toArray 28 (0, 0))) (hx : EntAt W x sv fv jv) (hs : ShortE x) (hm : mayN x = true) (hE : Env W)
    (hK : ∀ (v19 v20 v117 v118 v119 v120 v121 : Value) (W' : World), ((v19 = .string ⟨(encB x).toArray⟩ ∧ v20 = .int .i64 0) ∧ Below W.heap.size W W') → K' ⟨(u0 :: u1 :: u2 :: u3 :: u4 :: u5 :: u6 :: u7 :: u8 :: u9 :: u10 :: u11 :: u12 :: .pointer (some ⟨bx, 0, none⟩) :: u14 :: u15 :: u16 :: u17 :: u18 :: v19 :: v20 :: u21 :: u22 :: u23 :: u24 :: u25 :: u26 :: u27 :: u28 :: u29 :: u30 :: u31 :: u32 :: u33 :: u34 :: u35 :: u36 :: u37 :: u38 :: u39 :: u40 :: u41 :: u42 :: u43 :: u44 :: u45 :: u46 :: u47 :: u48 :: u49 :: u50 :: u51 :: u52 :: u53 :: u54 :: u55 :: u56 :: u57 :: u58 :: u59 :: u60 :: u61 :: u62 :: u63 :: u64 :: u65 :: u66 :: u67 :: u68 :: u69 :: u70 :: u71 :: u72 :: u73 :: u74 :: u75 :: u76 :: u77 :: u78 :: u79 :: u80 :: u81 :: u82 :: u83 :: u84 :: u85 :: u86 :: u87 :: u88 :: u89 :: u90 :: u91 :: u92 :: u93 :: u94 :: u95 :: u96 :: u97 :: u98 :: u99 :: u100 :: u101 :: u102 :: u103 :: u104 :: u105 :: u106 :: u107 :: u108 :: u109 :: u110 :: u111 :: u112 :: u113 :: u114 :: u115 :: u116 :: v117 :: v118 :: v119 :: v120 :: v121 :: u122 :: u123 :: u124 :: u125 :: u126 :: u127 :: u128 :: u129 :: u130 :: u131 :: u132 :: u133 :: u134 :: u135 :: u136 :: u137 :: u138 :: u139 :: u140 :: u141 :: u142 :: u143 :: u144 :: u145 :: u146 :: u147 :: u148 :: u149 :: u150 :: u151 :: u152 :: u153 :: u154 :: u155 :: u156 :: u157 :: u158 :: u159 :: u160 :: u161 :: u162 :: u163 :: u164 :: u165 :: u166 :: u167 :: u168 :: u169 :: u170 :: u171 :: u172 :: u173 :: u174 :: u175 :: u176 :: u177 :: u178 :: u179 :: u180 :: u181 :: u182 :: u183 :: u184 :: u185 :: u186 :: u187 :: u188 :: u189 :: u190 :: u191 :: u192 :: u193 :: u194 :: u195 :: u196 :: u197 :: u198 :: u199 :: u200 :: u201 :: u202 :: u203 :: []).toArray, ds⟩ W') :
    (codeM13 Tryz.f4).wp Tryz.prog (Exit.then K' Q') ⟨(u0 :: u1 :: u2 :: u3 :: u4 :: u5 :: u6 :: u7 :: u8 :: u9 :: u10 :: u11 :: u12 :: .pointer (some ⟨bx, 0, none⟩) :: u14 :: u15 :: u16 :: u17 :: u18 :: u19 :: u20 :: u21 :: u22 :: u23 :: u24 :: u25 :: u26 :: u27 :: u28 :: u29 :: u30 :: u31 :: u32 :: u33 :: u34 :: u35 :: u36 :: u37 :: u38 :: u39 :: u40 :: u41 :: u42 :: u43 :: u44 :: u45 :: u46 :: u47 :: u48 :: u49 :: u50 :: u51 :: u52 :: u53 :: u54 :: u55 :: u56 :: u57 :: u58 :: u59 :: u60 :: u61 :: u62 :: u63 :: u64 :: u65 :: u66 :: u67 :: u68 :: u69 :: u70 :: u71 :: u72 :: u73 :: u74 :: u75 :: u76 :: u77 :: u78 :: u79 :: u80 :: u81 :: u82 :: u83 :: u84 :: u85 :: u86 :: u87 :: u88 :: u89 :: u90 :: u91 :: u92 :: u93 :: u94 :: u95 :: u96 :: u97 :: u98 :: u99 :: u100 :: u101 :: u102 :: u103 :: u104 :: u105 :: u106 :: u107 :: u108 :: u109 :: u110 :: u111 :: u112 :: u113 :: u114 :: u115 :: u116 :: u117 :: u118 :: u119 :: u120 :: u121 :: u122 :: u123 :: u124 :: u125 :: u126 :: u127 :: u128 :: u129 :: u130 :: u131 :: u132 :: u133 :: u134 :: u135 :: u136 :: u137 :: u138 :: u139 :: u140 :: u141 :: u142 :: u143 :: u144 :: u145 :: u146 :: u147 :: u148 :: u149 :: u150 :: u151 :: u152 :: u153 :: u154 :: u155 :: u156 :: u157 :: u158 :: u159 :: u160 :: u161 :: u162 :: u163 :: u164 :: u165 :: u166 :: u167 :: u168 :: u169 :: u170 :: u171 :: u172 :: u173 :: u174 :: u175 :: u176 :: u177 :: u178 :: u179 :: u180 :: u181 :: u182 :: u183 :: u184 :: u185 :: u186 :: u187 :: u188 :: u189 :: u190 :: u191 :: u192 :: u193 :: u194 :: u195 :: u196 :: u197 :: u198 :: u199 :: u200 :: u201 :: u202 :: u203 :: []).toArray, ds⟩ W := by
  obtain ⟨p, c, rfl, -⟩ := hx.rc.sh
  obtain ⟨q, d, rfl, -⟩ := hx.fa.sh
  obtain ⟨r, g, rfl, -⟩ := hx.jo.sh
  have hEn := encode_any x _ _ _ W hx hs hE
  have HK := Lib.hid hK
  have HM := Lib.hid hm
  unfold entV at hEn
  unfold entC at hb hEn
  obtain ⟨x0, x1, x2, x3, x4, x5, x6, x7, x8, x9⟩ := eboxAll hb
  clear hb hK hx hs hE hm
  conv => arg 2; whnf
  go_wp2_with fail
  refine hEn.mono ?_
  rintro e w4 ⟨hp, hb4⟩
  have H4 := Lib.hid hb4
  obtain rfl : e = .returned (.tuple #[.string ⟨(encB x).toArray⟩, .int .i64 0]) := by
    rcases hp with ⟨-, h⟩ | ⟨h, -⟩
    · exact h
    · rw [HM.out] at h; cases h
  generalize encB x = bs at *
  clear hEn hb4 hp x0 x1 x2 x3 x4 x5 x6 x7 x8 x9
  go_wp2
  exact HK.out _ _ _ _ _ _ _ _ ⟨⟨rfl, rfl⟩, H4.out⟩
def codeM20 (f : Func) : Code := nA (nB (nB (nB (nB (nB (nB (nB (nB (nB (nB (nB (nB (nB (nB (nBody f)))))))))))))))
set_option linter.unusedSimpArgs false in
set_option linter.unusedVariables false in
set_option maxRecDepth 1000000 in
set_option maxHeartbeats 16000000 in
theorem mayP20 {u0 u1 u2 u3 u4 u5 u6 u7 u8 u9 u10 u11 u12 u13 u14 u15 u16 u17 u18 u19 u20 u22 u23 u24 u25 u26 u27 u28 u29 u30 u31 u32 u33 u34 u35 u36 u37 u38 u39 u40 u41 u42 u43 u44 u45 u46 u47 u48 u49 u50 u51 u52 u53 u54 u55 u56 u57 u58 u59 u60 u61 u62 u63 u64 u65 u66 u67 u68 u69 u70 u71 u72 u73 u74 u75 u76 u77 u78 u79 u80 u81 u82 u83 u84 u85 u86 u87 u88 u89 u90 u91 u92 u93 u94 u95 u96 u97 u98 u99 u100 u101 u102 u103 u104 u105 u106 u107 u108 u109 u110 u111 u112 u113 u114 u115 u116 u117 u118 u119 u120 u121 u122 u123 u124 u125 u126 u127 u128 u129 u130 u131 u132 u133 u134 u135 u136 u137 u138 u139 u140 u141 u142 u143 u144 u145 u146 u147 u148 u149 u150 u151 u152 u153 u154 u155 u156 u157 u158 u159 u160 u161 u162 u163 u164 u165 u166 u167 u168 u169 u170 u171 u172 u173 u174 u175 u176 u177 u178 u179 u180 u181 u182 u183 u184 u185 u186 u187 u188 u189 u190 u191 u192 u193 u194 u195 u196 u197 u198 u199 u200 u201 u202 u203 : Value} {ds : List Deferred} (K' : Act → World → Prop) (Q' : Exit → Act → World → Prop) (x : EntP) (sv fv jv : Value) (bx : Nat) (W : World)
    (hb : W.heap[bx]? = some (.cells (entC x sv fv jv).toArray 28 (0, 0))) (hx : EntAt W x sv fv jv) (hs : ShortE x) (hm : mayN x = true) (hE : Env W)
    (hK : ∀ (v25 v26 v187 v188 v189 v190 v191 : Value) (W' : World), ((v25 = .string ⟨(encB x).toArray⟩ ∧ v26 = .int .i64 0) ∧ Below W.heap.size W W') → K' ⟨(u0 :: u1 :: u2 :: u3 :: u4 :: u5 :: u6 :: u7 :: u8 :: u9 :: u10 :: u11 :: u12 :: u13 :: u14 :: u15 :: u16 :: u17 :: u18 :: u19 :: u20 :: .pointer (some ⟨bx, 0, none⟩) :: u22 :: u23 :: u24 :: v25 :: v26 :: u27 :: u28 :: u29 :: u30 :: u31 :: u32 :: u33 :: u34 :: u35 :: u36 :: u37 :: u38 :: u39 :: u40 :: u41 :: u42 :: u43 :: u44 :: u45 :: u46 :: u47 :: u48 :: u49 :: u50 :: u51 :: u52 :: u53 :: u54 :: u55 :: u56 :: u57 :: u58 :: u59 :: u60 :: u61 :: u62 :: u63 :: u64 :: u65 :: u66 :: u67 :: u68 :: u69 :: u70 :: u71 :: u72 :: u73 :: u74 :: u75 :: u76 :: u77 :: u78 :: u79 :: u80 :: u81 :: u82 :: u83 :: u84 :: u85 :: u86 :: u87 :: u88 :: u89 :: u90 :: u91 :: u92 :: u93 :: u94 :: u95 :: u96 :: u97 :: u98 :: u99 :: u100 :: u101 :: u102 :: u103 :: u104 :: u105 :: u106 :: u107 :: u108 :: u109 :: u110 :: u111 :: u112 :: u113 :: u114 :: u115 :: u116 :: u117 :: u118 :: u119 :: u120 :: u121 :: u122 :: u123 :: u124 :: u125 :: u126 :: u127 :: u128 :: u129 :: u130 :: u131 :: u132 :: u133 :: u134 :: u135 :: u136 :: u137 :: u138 :: u139 :: u140 :: u141 :: u142 :: u143 :: u144 :: u145 :: u146 :: u147 :: u148 :: u149 :: u150 :: u151 :: u152 :: u153 :: u154 :: u155 :: u156 :: u157 :: u158 :: u159 :: u160 :: u161 :: u162 :: u163 :: u164 :: u165 :: u166 :: u167 :: u168 :: u169 :: u170 :: u171 :: u172 :: u173 :: u174 :: u175 :: u176 :: u177 :: u178 :: u179 :: u180 :: u181 :: u182 :: u183 :: u184 :: u185 :: u186 :: v187 :: v188 :: v189 :: v190 :: v191 :: u192 :: u193 :: u194 :: u195 :: u196 :: u197 :: u198 :: u199 :: u200 :: u201 :: u202 :: u203 :: []).toArray, ds⟩ W') :
    (codeM20 Tryz.f4).wp Tryz.prog (Exit.then K' Q') ⟨(u0 :: u1 :: u2 :: u3 :: u4 :: u5 :: u6 :: u7 :: u8 :: u9 :: u10 :: u11 :: u12 :: u13 :: u14 :: u15 :: u16 :: u17 :: u18 :: u19 :: u20 :: .pointer (some ⟨bx, 0, none⟩) :: u22 :: u23 :: u24 :: u25 :: u26 :: u27 :: u28 :: u29 :: u30 :: u31 :: u32 :: u33 :: u34 :: u35 :: u36 :: u37 :: u38 :: u39 :: u40 :: u41 :: u42 :: u43 :: u44 :: u45 :: u46 :: u47 :: u48 :: u49 :: u50 :: u51 :: u52 :: u53 :: u54 :: u55 :: u56 :: u57 :: u58 :: u59 :: u60 :: u61 :: u62 :: u63 :: u64 :: u65 :: u66 :: u67 :: u68 :: u69 :: u70 :: u71 :: u72 :: u73 :: u74 :: u75 :: u76 :: u77 :: u78 :: u79 :: u80 :: u81 :: u82 :: u83 :: u84 :: u85 :: u86 :: u87 :: u88 :: u89 :: u90 :: u91 :: u92 :: u93 :: u94 :: u95 :: u96 :: u97 :: u98 :: u99 :: u100 :: u101 :: u102 :: u103 :: u104 :: u105 :: u106 :: u107 :: u108 :: u109 :: u110 :: u111 :: u112 :: u113 :: u114 :: u115 :: u116 :: u117 :: u118 :: u119 :: u120 :: u121 :: u122 :: u123 :: u124 :: u125 :: u126 :: u127 :: u128 :: u129 :: u130 :: u131 :: u132 :: u133 :: u134 :: u135 :: u136 :: u137 :: u138 :: u139 :: u140 :: u141 :: u142 :: u143 :: u144 :: u145 :: u146 :: u147 :: u148 :: u149 :: u150 :: u151 :: u152 :: u153 :: u154 :: u155 :: u156 :: u157 :: u158 :: u159 :: u160 :: u161 :: u162 :: u163 :: u164 :: u165 :: u166 :: u167 :: u168 :: u169 :: u170 :: u171 :: u172 :: u173 :: u174 :: u175 :: u176 :: u177 :: u178 :: u179 :: u180 :: u181 :: u182 :: u183 :: u184 :: u185 :: u186 :: u187 :: u188 :: u189 :: u190 :: u191 :: u192 :: u193 :: u194 :: u195 :: u196 :: u197 :: u198 :: u199 :: u200 :: u201 :: u202 :: u203 :: []).toArray, ds⟩ W := by
  obtain ⟨p, c, rfl, -⟩ := hx.rc.sh
  obtain ⟨q, d, rfl, -⟩ := hx.fa.sh
  obtain ⟨r, g, rfl, -⟩ := hx.jo.sh
  have hEn := encode_any x _ _ _ W hx hs hE
  have HK := Lib.hid hK
  have HM := Lib.hid hm
  unfold entV at hEn
  unfold entC at hb hEn
  obtain ⟨x0, x1, x2, x3, x4, x5, x6, x7, x8, x9⟩ := eboxAll hb
  clear hb hK hx hs hE hm
  conv => arg 2; whnf
  go_wp2_with fail
  refine hEn.mono ?_
  rintro e w4 ⟨hp, hb4⟩
  have H4 := Lib.hid hb4
  obtain rfl : e = .returned (.tuple #[.string ⟨(encB x).toArray⟩, .int .i64 0]) := by
    rcases hp with ⟨-, h⟩ | ⟨h, -⟩
    · exact h
    · rw [HM.out] at h; cases h
  generalize encB x = bs at *
  clear hEn hb4 hp x0 x1 x2 x3 x4 x5 x6 x7 x8 x9
  go_wp2
  exact HK.out _ _ _ _ _ _ _ _ ⟨⟨rfl, rfl⟩, H4.out⟩
end Go.Proofs.YtlpngibdplnieaaGreatDoor

/- NoticeMay: the drawn region of May and Bad. -/
namespace Go.Proofs.YtlpngibdplnieaaGreatDoor
open Go Go.RowKit Go.Shelf Go.Sort
attribute [local go_sem] bneI

def codeM14 (f : Func) : Code := nA (nA (nB (nB (nB (nB (nB (nB (nB (nB (nB (nB (nBody f))))))))))))
set_option linter.unusedSimpArgs false in
set_option linter.unusedVariables false in
set_option maxRecDepth 1000000 in
set_option maxHeartbeats 16000000 in
theorem mayP14 {u0 u1 u2 u3 u4 u5 u7 u8 u9 u10 u11 u12 u14 u16 u18 u21 u22 u23 u24 u25 u26 u27 u28 u29 u30 u31 u32 u33 u34 u35 u36 u37 u38 u39 u40 u41 u42 u43 u44 u45 u46 u47 u48 u49 u50 u51 u52 u53 u54 u55 u56 u57 u58 u59 u60 u61 u62 u63 u64 u65 u66 u67 u68 u69 u70 u71 u72 u73 u74 u75 u76 u77 u78 u79 u80 u81 u82 u83 u84 u85 u86 u87 u88 u89 u90 u91 u92 u93 u94 u95 u96 u97 u98 u99 u100 u101 u102 u103 u104 u105 u106 u107 u108 u109 u110 u111 u112 u113 u114 u115 u116 u117 u118 u119 u120 u121 u122 u123 u124 u125 u126 u127 u128 u129 u130 u131 u132 u133 u134 u135 u136 u137 u138 u139 u140 u141 u142 u143 u144 u145 u146 u147 u148 u149 u150 u151 u152 u153 u154 u155 u156 u157 u158 u159 u160 u161 u162 u163 u164 u165 u166 u167 u168 u169 u170 u171 u172 u173 u174 u175 u176 u177 u178 u179 u180 u181 u182 u183 u184 u185 u186 u187 u188 u189 u190 u191 u192 u193 u194 u195 u196 u197 u198 u199 u200 u201 u202 u203 : Value} {ds : List Deferred} (K' : Act → World → Prop) (Q' : Exit → Act → World → Prop) (x y : EntP) (n : NotP) (sv fv jv s2 f2 j2 av : Value) (bx b13 b15 a : Nat) (bs : Bytes) (W : World)
    (hb : W.heap[bx]? = some (.cells (entC x sv fv jv).toArray 28 (0, 0))) (hx : EntAt W x sv fv jv) (hs : ShortE x) (hby : W.heap[b13]? = some (.cells (entC y s2 f2 j2).toArray 28 (0, 0))) (hy : EntAt W y s2 f2 j2) (hsy : ShortE y) (hmy : mayN y = true) (hpl : y.plain = false) (hrq : y.mail.req = x.mail.req) (hsn : y.mail.sender = []) (hbn : W.heap[b15]? = some (.cells (notC n av).toArray 34 (0, 0))) (hn : RowK 3 flE W av n.failed) (hnl : n.failed.length = (badM x).length) (hle : bs.length ≤ a) (hE : Env W) (hP : ∀ (c : List PanicEntry) (a : Act) (d : Tmp) (v : Value) (w : World), Q' (.panic c) (a.put (some d) v) w → Q' (.panic c) a w)
    (hK : ∀ (v122 v123 v124 v125 v126 v127 v128 v129 v130 v131 v132 v133 v134 v135 v136 v137 v138 v139 v140 v141 v142 v143 v144 v145 v146 v147 v148 v149 v150 v151 v152 v153 v154 v155 v156 v157 v158 v159 v160 v161 v162 : Value) (W' : World), (v162 = .bool false ∧ Below W.heap.size W W') → K' ⟨(u0 :: u1 :: u2 :: u3 :: u4 :: u5 :: .pointer (some ⟨bx, 0, none⟩) :: u7 :: u8 :: u9 :: u10 :: u11 :: u12 :: .pointer (some ⟨b13, 0, none⟩) :: u14 :: .pointer (some ⟨b15, 0, none⟩) :: u16 :: .int .i64 (a : Int) :: u18 :: .string ⟨bs.toArray⟩ :: .int .i64 0 :: u21 :: u22 :: u23 :: u24 :: u25 :: u26 :: u27 :: u28 :: u29 :: u30 :: u31 :: u32 :: u33 :: u34 :: u35 :: u36 :: u37 :: u38 :: u39 :: u40 :: u41 :: u42 :: u43 :: u44 :: u45 :: u46 :: u47 :: u48 :: u49 :: u50 :: u51 :: u52 :: u53 :: u54 :: u55 :: u56 :: u57 :: u58 :: u59 :: u60 :: u61 :: u62 :: u63 :: u64 :: u65 :: u66 :: u67 :: u68 :: u69 :: u70 :: u71 :: u72 :: u73 :: u74 :: u75 :: u76 :: u77 :: u78 :: u79 :: u80 :: u81 :: u82 :: u83 :: u84 :: u85 :: u86 :: u87 :: u88 :: u89 :: u90 :: u91 :: u92 :: u93 :: u94 :: u95 :: u96 :: u97 :: u98 :: u99 :: u100 :: u101 :: u102 :: u103 :: u104 :: u105 :: u106 :: u107 :: u108 :: u109 :: u110 :: u111 :: u112 :: u113 :: u114 :: u115 :: u116 :: u117 :: u118 :: u119 :: u120 :: u121 :: v122 :: v123 :: v124 :: v125 :: v126 :: v127 :: v128 :: v129 :: v130 :: v131 :: v132 :: v133 :: v134 :: v135 :: v136 :: v137 :: v138 :: v139 :: v140 :: v141 :: v142 :: v143 :: v144 :: v145 :: v146 :: v147 :: v148 :: v149 :: v150 :: v151 :: v152 :: v153 :: v154 :: v155 :: v156 :: v157 :: v158 :: v159 :: v160 :: v161 :: v162 :: u163 :: u164 :: u165 :: u166 :: u167 :: u168 :: u169 :: u170 :: u171 :: u172 :: u173 :: u174 :: u175 :: u176 :: u177 :: u178 :: u179 :: u180 :: u181 :: u182 :: u183 :: u184 :: u185 :: u186 :: u187 :: u188 :: u189 :: u190 :: u191 :: u192 :: u193 :: u194 :: u195 :: u196 :: u197 :: u198 :: u199 :: u200 :: u201 :: u202 :: u203 :: []).toArray, ds⟩ W') :
    (codeM14 Tryz.f4).wp Tryz.prog (Exit.then K' Q') ⟨(u0 :: u1 :: u2 :: u3 :: u4 :: u5 :: .pointer (some ⟨bx, 0, none⟩) :: u7 :: u8 :: u9 :: u10 :: u11 :: u12 :: .pointer (some ⟨b13, 0, none⟩) :: u14 :: .pointer (some ⟨b15, 0, none⟩) :: u16 :: .int .i64 (a : Int) :: u18 :: .string ⟨bs.toArray⟩ :: .int .i64 0 :: u21 :: u22 :: u23 :: u24 :: u25 :: u26 :: u27 :: u28 :: u29 :: u30 :: u31 :: u32 :: u33 :: u34 :: u35 :: u36 :: u37 :: u38 :: u39 :: u40 :: u41 :: u42 :: u43 :: u44 :: u45 :: u46 :: u47 :: u48 :: u49 :: u50 :: u51 :: u52 :: u53 :: u54 :: u55 :: u56 :: u57 :: u58 :: u59 :: u60 :: u61 :: u62 :: u63 :: u64 :: u65 :: u66 :: u67 :: u68 :: u69 :: u70 :: u71 :: u72 :: u73 :: u74 :: u75 :: u76 :: u77 :: u78 :: u79 :: u80 :: u81 :: u82 :: u83 :: u84 :: u85 :: u86 :: u87 :: u88 :: u89 :: u90 :: u91 :: u92 :: u93 :: u94 :: u95 :: u96 :: u97 :: u98 :: u99 :: u100 :: u101 :: u102 :: u103 :: u104 :: u105 :: u106 :: u107 :: u108 :: u109 :: u110 :: u111 :: u112 :: u113 :: u114 :: u115 :: u116 :: u117 :: u118 :: u119 :: u120 :: u121 :: u122 :: u123 :: u124 :: u125 :: u126 :: u127 :: u128 :: u129 :: u130 :: u131 :: u132 :: u133 :: u134 :: u135 :: u136 :: u137 :: u138 :: u139 :: u140 :: u141 :: u142 :: u143 :: u144 :: u145 :: u146 :: u147 :: u148 :: u149 :: u150 :: u151 :: u152 :: u153 :: u154 :: u155 :: u156 :: u157 :: u158 :: u159 :: u160 :: u161 :: u162 :: u163 :: u164 :: u165 :: u166 :: u167 :: u168 :: u169 :: u170 :: u171 :: u172 :: u173 :: u174 :: u175 :: u176 :: u177 :: u178 :: u179 :: u180 :: u181 :: u182 :: u183 :: u184 :: u185 :: u186 :: u187 :: u188 :: u189 :: u190 :: u191 :: u192 :: u193 :: u194 :: u195 :: u196 :: u197 :: u198 :: u199 :: u200 :: u201 :: u202 :: u203 :: []).toArray, ds⟩ W := by
  obtain ⟨p, c, rfl, -⟩ := hx.rc.sh
  obtain ⟨q, d, rfl, -⟩ := hx.fa.sh
  obtain ⟨r, g, rfl, -⟩ := hx.jo.sh
  obtain ⟨p1, c1, rfl, -⟩ := hy.rc.sh
  obtain ⟨p2, c2, rfl, -⟩ := hy.fa.sh
  obtain ⟨p3, c3, rfl, -⟩ := hy.jo.sh
  obtain ⟨pn, cn, rfl, -⟩ := hn.sh
  rw [hnl] at hbn
  have e1 : ¬ (a : Int) < (bs.length : Int) := by omega
  have e2 : decide ((a : Int) < (bs.length : Int)) = false := decide_eq_false e1
  have hMy : ∀ W', Below W.heap.size W W' → Calls Tryz.prog 22 #[entV y (.slice p1 y.mail.rcpts.length c1) (.slice p2 y.fates.length c2) (.slice p3 y.jobs.length c3)] W' fun e w' => e = .returned (.bool true) ∧ Below W'.heap.size W' w' := fun W' hB => by
    have h := may_any y _ _ _ W' (hy.below hB) hsy (hE.keep hB)
    rw [hmy] at h
    exact h
  have hBd : ∀ W', Below W.heap.size W W' → Calls Tryz.prog 21 #[entV x (.slice p x.mail.rcpts.length c) (.slice q x.fates.length d) (.slice r x.jobs.length g)] W' fun e w' => (∃ p c, e = .returned (.slice p (badM x).length c)) ∧ Below W'.heap.size W' w' := fun W' hB => by
    refine (bad_any x _ _ _ W' (hx.below hB) hs).mono ?_
    rintro e w' ⟨⟨v, rfl, ho⟩, hb⟩
    obtain ⟨q1, d1, rfl⟩ := own_shape ho
    exact ⟨⟨_, _, rfl⟩, hb⟩
  have HK := Lib.hid hK
  unfold entV at hMy hBd
  unfold entC at hb hby hMy hBd
  unfold notC at hbn
  rw [hpl, hrq, hsn] at hby hMy
  obtain ⟨x0, x1, x2, x3, x4, x5, x6, x7, x8, x9⟩ := eboxAll hb
  obtain ⟨y0, y1, y2, y3, y4, y5, y6, y7, y8, y9⟩ := eboxAll hby
  obtain ⟨-, -, -, -, -, n5⟩ := nobox hbn
  obtain ⟨bl, hbl⟩ : ∃ bl, bl = (badM x).length := ⟨_, rfl⟩
  rw [← hbl] at n5 hBd
  have hSk : ∀ W', Below W.heap.size W W' → (W'.cell? ⟨b13, 0, none⟩ = some (.int .i64 y.id) ∧ W'.cell? ⟨b13, 1, none⟩ = some (.int .i64 y.at_) ∧ W'.cell? ⟨b13, 2, none⟩ = some (.string ⟨#[]⟩) ∧ W'.cell? ⟨b13, 3, none⟩ = some (.slice p1 y.mail.rcpts.length c1) ∧ W'.cell? ⟨b13, 4, none⟩ = some (.bool x.mail.req) ∧ W'.cell? ⟨b13, 5, none⟩ = some (.string ⟨y.mail.envid.toArray⟩) ∧ W'.cell? ⟨b13, 6, none⟩ = some (.string ⟨y.mail.text.toArray⟩) ∧ W'.cell? ⟨b13, 7, none⟩ = some (.bool false) ∧ W'.cell? ⟨b13, 8, none⟩ = some (.slice p2 y.fates.length c2) ∧ W'.cell? ⟨b13, 9, none⟩ = some (.slice p3 y.jobs.length c3) ∧ W'.cell? ⟨bx, 0, none⟩ = some (.int .i64 x.id) ∧ W'.cell? ⟨bx, 1, none⟩ = some (.int .i64 x.at_) ∧ W'.cell? ⟨bx, 2, none⟩ = some (.string ⟨x.mail.sender.toArray⟩) ∧ W'.cell? ⟨bx, 3, none⟩ = some (.slice p x.mail.rcpts.length c) ∧ W'.cell? ⟨bx, 4, none⟩ = some (.bool x.mail.req) ∧ W'.cell? ⟨bx, 5, none⟩ = some (.string ⟨x.mail.envid.toArray⟩) ∧ W'.cell? ⟨bx, 6, none⟩ = some (.string ⟨x.mail.text.toArray⟩) ∧ W'.cell? ⟨bx, 7, none⟩ = some (.bool x.plain) ∧ W'.cell? ⟨bx, 8, none⟩ = some (.slice q x.fates.length d) ∧ W'.cell? ⟨bx, 9, none⟩ = some (.slice r x.jobs.length g) ∧ W'.cell? ⟨b15, 5, none⟩ = some (.slice pn bl cn)) := fun W' hB => by
    have hh := fun (a : Addr) (u : Value) (h : W.cell? a = some u) => (hB.cell (p := a) (cell_lt h)).trans h
    exact ⟨hh _ _ y0, hh _ _ y1, hh _ _ y2, hh _ _ y3, hh _ _ y4, hh _ _ y5, hh _ _ y6, hh _ _ y7, hh _ _ y8, hh _ _ y9, hh _ _ x0, hh _ _ x1, hh _ _ x2, hh _ _ x3, hh _ _ x4, hh _ _ x5, hh _ _ x6, hh _ _ x7, hh _ _ x8, hh _ _ x9, hh _ _ n5⟩
  have HP := Lib.hid hP
  clear hP
  clear hb hby hbn hK hx hs hE hy hsy hmy hpl hrq hsn hn hnl hle hbl x0 x1 x2 x3 x4 x5 x6 x7 x8 x9 y0 y1 y2 y3 y4 y5 y6 y7 y8 y9 n5
  conv => arg 2; whnf
  have hS0 := hSk W.drew (below_drew W)
  refine wp_region_held_drew (S := (fun W => W.cell? ⟨b13, 0, none⟩ = some (.int .i64 y.id) ∧ W.cell? ⟨b13, 1, none⟩ = some (.int .i64 y.at_) ∧ W.cell? ⟨b13, 2, none⟩ = some (.string ⟨#[]⟩) ∧ W.cell? ⟨b13, 3, none⟩ = some (.slice p1 y.mail.rcpts.length c1) ∧ W.cell? ⟨b13, 4, none⟩ = some (.bool x.mail.req) ∧ W.cell? ⟨b13, 5, none⟩ = some (.string ⟨y.mail.envid.toArray⟩) ∧ W.cell? ⟨b13, 6, none⟩ = some (.string ⟨y.mail.text.toArray⟩) ∧ W.cell? ⟨b13, 7, none⟩ = some (.bool false) ∧ W.cell? ⟨b13, 8, none⟩ = some (.slice p2 y.fates.length c2) ∧ W.cell? ⟨b13, 9, none⟩ = some (.slice p3 y.jobs.length c3) ∧ W.cell? ⟨bx, 0, none⟩ = some (.int .i64 x.id) ∧ W.cell? ⟨bx, 1, none⟩ = some (.int .i64 x.at_) ∧ W.cell? ⟨bx, 2, none⟩ = some (.string ⟨x.mail.sender.toArray⟩) ∧ W.cell? ⟨bx, 3, none⟩ = some (.slice p x.mail.rcpts.length c) ∧ W.cell? ⟨bx, 4, none⟩ = some (.bool x.mail.req) ∧ W.cell? ⟨bx, 5, none⟩ = some (.string ⟨x.mail.envid.toArray⟩) ∧ W.cell? ⟨bx, 6, none⟩ = some (.string ⟨x.mail.text.toArray⟩) ∧ W.cell? ⟨bx, 7, none⟩ = some (.bool x.plain) ∧ W.cell? ⟨bx, 8, none⟩ = some (.slice q x.fates.length d) ∧ W.cell? ⟨bx, 9, none⟩ = some (.slice r x.jobs.length g) ∧ W.cell? ⟨b15, 5, none⟩ = some (.slice pn bl cn))) (by kernel_rfl) hS0 (fun hHeld => ?_)
  refine wpAnyH_take (i := 0) (oi := ?oiq0) (v := ?vq0) ?h1q0 (by kernel_rfl) (by kernel_rfl) (by kernel_rfl) ?h2q0 ?hyq0 (by assumption) ?restq0
  case h1q0 => (simp only [List.getElem?_toArray, List.getElem?_cons_succ, List.getElem?_cons_zero]; try rfl)
  case h2q0 => exact fun c a w h => HP.out c a _ _ w h
  case hyq0 => (refine Or.inl ⟨by rfl, ?_⟩; intro w hSw; (try dsimp only at hSw); go_simp; (try with_reducible rfl))
  try simp only [Act.put, List.setIfInBounds_toArray, List.set_cons_zero, List.set_cons_succ]
  refine wpAnyH_ready (rs := [1]) (by kernel_rfl) (by simp) ?_
  refine AllReadyH.cons (o := ?oR8_1) ?h1R8_1 (fun K hK => ?R8_1) AllReadyH.nil
  case h1R8_1 => (simp only [List.getElem?_toArray, List.getElem?_cons_succ, List.getElem?_cons_zero]; try rfl)
  case R8_1 =>
    go_simp
    go_at_call 22
    refine (hMy _ (below_drew W)).mono ?_
    rintro e w8 ⟨rfl, hB8⟩
    have hB8 := (below_drew W).trans (Below.mono hB8 (below_drew W).size)
    refine hK.out _ _ (hSk _ hB8) (fun hHeld => ?_)
    clear hK K
    try simp only [Act.put, List.setIfInBounds_toArray, List.set_cons_zero, List.set_cons_succ]
    refine wpAnyH_take (i := 2) (oi := ?oia2) (v := ?va2) ?h1a2 (by kernel_rfl) (by kernel_rfl) (by kernel_rfl) ?h2a2 ?hya2 (by assumption) ?resta2
    case h1a2 => (simp only [List.getElem?_toArray, List.getElem?_cons_succ, List.getElem?_cons_zero]; try rfl)
    case h2a2 => exact fun c a w h => HP.out c a _ _ w h
    case hya2 => (refine Or.inl ⟨by rfl, ?_⟩; intro w hSw; (try dsimp only at hSw); go_simp; (try with_reducible rfl))
    try simp only [Act.put, List.setIfInBounds_toArray, List.set_cons_zero, List.set_cons_succ]
    refine wpAnyH_take (i := 3) (oi := ?oia3) (v := ?va3) ?h1a3 (by kernel_rfl) (by kernel_rfl) (by kernel_rfl) ?h2a3 ?hya3 (by assumption) ?resta3
    case h1a3 => (simp only [List.getElem?_toArray, List.getElem?_cons_succ, List.getElem?_cons_zero]; try rfl)
    case h2a3 => exact fun c a w h => HP.out c a _ _ w h
    case hya3 => (refine Or.inl ⟨by rfl, ?_⟩; intro w hSw; (try dsimp only at hSw); go_simp; (try with_reducible rfl))
    try simp only [Act.put, List.setIfInBounds_toArray, List.set_cons_zero, List.set_cons_succ]
    refine wpAnyH_take (i := 4) (oi := ?oia4) (v := ?va4) ?h1a4 (by kernel_rfl) (by kernel_rfl) (by kernel_rfl) ?h2a4 ?hya4 (by assumption) ?resta4
    case h1a4 => (simp only [List.getElem?_toArray, List.getElem?_cons_succ, List.getElem?_cons_zero]; try rfl)
    case h2a4 => exact fun c a w h => HP.out c a _ _ w h
    case hya4 => (refine Or.inl ⟨by rfl, ?_⟩; intro w hSw; (try dsimp only at hSw); go_simp; (try with_reducible rfl))
    try simp only [Act.put, List.setIfInBounds_toArray, List.set_cons_zero, List.set_cons_succ]
    refine wpAnyH_take (i := 5) (oi := ?oia5) (v := ?va5) ?h1a5 (by kernel_rfl) (by kernel_rfl) (by kernel_rfl) ?h2a5 ?hya5 (by assumption) ?resta5
    case h1a5 => (simp only [List.getElem?_toArray, List.getElem?_cons_succ, List.getElem?_cons_zero]; try rfl)
    case h2a5 => exact fun c a w h => HP.out c a _ _ w h
    case hya5 => (refine Or.inl ⟨by rfl, ?_⟩; intro w hSw; (try dsimp only at hSw); go_simp; (try with_reducible rfl))
    try simp only [Act.put, List.setIfInBounds_toArray, List.set_cons_zero, List.set_cons_succ]
    refine wpAnyH_take (i := 6) (oi := ?oia6) (v := ?va6) ?h1a6 (by kernel_rfl) (by kernel_rfl) (by kernel_rfl) ?h2a6 ?hya6 (by assumption) ?resta6
    case h1a6 => (simp only [List.getElem?_toArray, List.getElem?_cons_succ, List.getElem?_cons_zero]; try rfl)
    case h2a6 => exact fun c a w h => HP.out c a _ _ w h
    case hya6 => (refine Or.inl ⟨by rfl, ?_⟩; intro w hSw; (try dsimp only at hSw); go_simp; (try with_reducible rfl))
    try simp only [Act.put, List.setIfInBounds_toArray, List.set_cons_zero, List.set_cons_succ]
    refine wpAnyH_take (i := 7) (oi := ?oia7) (v := ?va7) ?h1a7 (by kernel_rfl) (by kernel_rfl) (by kernel_rfl) ?h2a7 ?hya7 (by assumption) ?resta7
    case h1a7 => (simp only [List.getElem?_toArray, List.getElem?_cons_succ, List.getElem?_cons_zero]; try rfl)
    case h2a7 => exact fun c a w h => HP.out c a _ _ w h
    case hya7 => (refine Or.inl ⟨by rfl, ?_⟩; intro w hSw; (try dsimp only at hSw); go_simp; (try with_reducible rfl))
    try simp only [Act.put, List.setIfInBounds_toArray, List.set_cons_zero, List.set_cons_succ]
    refine wpAnyH_take (i := 8) (oi := ?oia8) (v := ?va8) ?h1a8 (by kernel_rfl) (by kernel_rfl) (by kernel_rfl) ?h2a8 ?hya8 (by assumption) ?resta8
    case h1a8 => (simp only [List.getElem?_toArray, List.getElem?_cons_succ, List.getElem?_cons_zero]; try rfl)
    case h2a8 => exact fun c a w h => HP.out c a _ _ w h
    case hya8 => (refine Or.inl ⟨by rfl, ?_⟩; intro w hSw; (try dsimp only at hSw); go_simp; (try with_reducible rfl))
    try simp only [Act.put, List.setIfInBounds_toArray, List.set_cons_zero, List.set_cons_succ]
    refine wpAnyH_take (i := 9) (oi := ?oia9) (v := ?va9) ?h1a9 (by kernel_rfl) (by kernel_rfl) (by kernel_rfl) ?h2a9 ?hya9 (by assumption) ?resta9
    case h1a9 => (simp only [List.getElem?_toArray, List.getElem?_cons_succ, List.getElem?_cons_zero]; try rfl)
    case h2a9 => exact fun c a w h => HP.out c a _ _ w h
    case hya9 => (refine Or.inl ⟨by rfl, ?_⟩; intro w hSw; (try dsimp only at hSw); go_simp; (try with_reducible rfl))
    try simp only [Act.put, List.setIfInBounds_toArray, List.set_cons_zero, List.set_cons_succ]
    refine wpAnyH_take (i := 10) (oi := ?oia10) (v := ?va10) ?h1a10 (by kernel_rfl) (by kernel_rfl) (by kernel_rfl) ?h2a10 ?hya10 (by assumption) ?resta10
    case h1a10 => (simp only [List.getElem?_toArray, List.getElem?_cons_succ, List.getElem?_cons_zero]; try rfl)
    case h2a10 => exact fun c a w h => HP.out c a _ _ w h
    case hya10 => (refine Or.inl ⟨by rfl, ?_⟩; intro w hSw; (try dsimp only at hSw); go_simp; (try with_reducible rfl))
    try simp only [Act.put, List.setIfInBounds_toArray, List.set_cons_zero, List.set_cons_succ]
    refine wpAnyH_take (i := 11) (oi := ?oia11) (v := ?va11) ?h1a11 (by kernel_rfl) (by kernel_rfl) (by kernel_rfl) ?h2a11 ?hya11 (by assumption) ?resta11
    case h1a11 => (simp only [List.getElem?_toArray, List.getElem?_cons_succ, List.getElem?_cons_zero]; try rfl)
    case h2a11 => exact fun c a w h => HP.out c a _ _ w h
    case hya11 => (refine Or.inl ⟨by rfl, ?_⟩; intro w hSw; (try dsimp only at hSw); go_simp; (try with_reducible rfl))
    try simp only [Act.put, List.setIfInBounds_toArray, List.set_cons_zero, List.set_cons_succ]
    refine wpAnyH_take (i := 12) (oi := ?oia12) (v := ?va12) ?h1a12 (by kernel_rfl) (by kernel_rfl) (by kernel_rfl) ?h2a12 ?hya12 (by assumption) ?resta12
    case h1a12 => (simp only [List.getElem?_toArray, List.getElem?_cons_succ, List.getElem?_cons_zero]; try rfl)
    case h2a12 => exact fun c a w h => HP.out c a _ _ w h
    case hya12 => (refine Or.inl ⟨by rfl, ?_⟩; intro w hSw; (try dsimp only at hSw); go_simp; (try with_reducible rfl))
    try simp only [Act.put, List.setIfInBounds_toArray, List.set_cons_zero, List.set_cons_succ]
    refine wpAnyH_take (i := 14) (oi := ?oia14) (v := ?va14) ?h1a14 (by kernel_rfl) (by kernel_rfl) (by kernel_rfl) ?h2a14 ?hya14 (by assumption) ?resta14
    case h1a14 => (simp only [List.getElem?_toArray, List.getElem?_cons_succ, List.getElem?_cons_zero]; try rfl)
    case h2a14 => exact fun c a w h => HP.out c a _ _ w h
    case hya14 => (refine Or.inl ⟨by rfl, ?_⟩; intro w hSw; (try dsimp only at hSw); go_simp; (try with_reducible rfl))
    try simp only [Act.put, List.setIfInBounds_toArray, List.set_cons_zero, List.set_cons_succ]
    refine wpAnyH_ready (rs := [13]) (by kernel_rfl) (by simp) ?_
    refine AllReadyH.cons (o := ?oR7_13) ?h1R7_13 (fun K hK => ?R7_13) AllReadyH.nil
    case h1R7_13 => (simp only [List.getElem?_toArray, List.getElem?_cons_succ, List.getElem?_cons_zero]; try rfl)
    case R7_13 =>
      go_simp
      refine hK.out _ _ (hSk _ hB8) (fun hHeld => ?_)
      clear hK K
      try simp only [Act.put, List.setIfInBounds_toArray, List.set_cons_zero, List.set_cons_succ]
      refine wpAnyH_take (i := 15) (oi := ?oib15) (v := ?vb15) ?h1b15 (by kernel_rfl) (by kernel_rfl) (by kernel_rfl) ?h2b15 ?hyb15 (by assumption) ?restb15
      case h1b15 => (simp only [List.getElem?_toArray, List.getElem?_cons_succ, List.getElem?_cons_zero]; try rfl)
      case h2b15 => exact fun c a w h => HP.out c a _ _ w h
      case hyb15 => (refine Or.inl ⟨by rfl, ?_⟩; intro w hSw; (try dsimp only at hSw); go_simp; (try simp only [e2]); (try with_reducible rfl))
      try simp only [Act.put, List.setIfInBounds_toArray, List.set_cons_zero, List.set_cons_succ]
      refine wpAnyH_take (i := 16) (oi := ?oib16) (v := ?vb16) ?h1b16 (by kernel_rfl) (by kernel_rfl) (by kernel_rfl) ?h2b16 ?hyb16 (by assumption) ?restb16
      case h1b16 => (simp only [List.getElem?_toArray, List.getElem?_cons_succ, List.getElem?_cons_zero]; try rfl)
      case h2b16 => exact fun c a w h => HP.out c a _ _ w h
      case hyb16 => (refine Or.inl ⟨by rfl, ?_⟩; intro w hSw; (try dsimp only at hSw); go_simp; (try with_reducible rfl))
      try simp only [Act.put, List.setIfInBounds_toArray, List.set_cons_zero, List.set_cons_succ]
      refine wpAnyH_take (i := 17) (oi := ?oib17) (v := ?vb17) ?h1b17 (by kernel_rfl) (by kernel_rfl) (by kernel_rfl) ?h2b17 ?hyb17 (by assumption) ?restb17
      case h1b17 => (simp only [List.getElem?_toArray, List.getElem?_cons_succ, List.getElem?_cons_zero]; try rfl)
      case h2b17 => exact fun c a w h => HP.out c a _ _ w h
      case hyb17 => (refine Or.inl ⟨by rfl, ?_⟩; intro w hSw; (try dsimp only at hSw); go_simp; (try with_reducible rfl))
      try simp only [Act.put, List.setIfInBounds_toArray, List.set_cons_zero, List.set_cons_succ]
      refine wpAnyH_take (i := 18) (oi := ?oib18) (v := ?vb18) ?h1b18 (by kernel_rfl) (by kernel_rfl) (by kernel_rfl) ?h2b18 ?hyb18 (by assumption) ?restb18
      case h1b18 => (simp only [List.getElem?_toArray, List.getElem?_cons_succ, List.getElem?_cons_zero]; try rfl)
      case h2b18 => exact fun c a w h => HP.out c a _ _ w h
      case hyb18 => (refine Or.inl ⟨by rfl, ?_⟩; intro w hSw; (try dsimp only at hSw); go_simp; (try with_reducible rfl))
      try simp only [Act.put, List.setIfInBounds_toArray, List.set_cons_zero, List.set_cons_succ]
      refine wpAnyH_take (i := 19) (oi := ?oib19) (v := ?vb19) ?h1b19 (by kernel_rfl) (by kernel_rfl) (by kernel_rfl) ?h2b19 ?hyb19 (by assumption) ?restb19
      case h1b19 => (simp only [List.getElem?_toArray, List.getElem?_cons_succ, List.getElem?_cons_zero]; try rfl)
      case h2b19 => exact fun c a w h => HP.out c a _ _ w h
      case hyb19 => (refine Or.inl ⟨by rfl, ?_⟩; intro w hSw; (try dsimp only at hSw); go_simp; (try with_reducible rfl))
      try simp only [Act.put, List.setIfInBounds_toArray, List.set_cons_zero, List.set_cons_succ]
      refine wpAnyH_take (i := 20) (oi := ?oib20) (v := ?vb20) ?h1b20 (by kernel_rfl) (by kernel_rfl) (by kernel_rfl) ?h2b20 ?hyb20 (by assumption) ?restb20
      case h1b20 => (simp only [List.getElem?_toArray, List.getElem?_cons_succ, List.getElem?_cons_zero]; try rfl)
      case h2b20 => exact fun c a w h => HP.out c a _ _ w h
      case hyb20 => (refine Or.inl ⟨by rfl, ?_⟩; intro w hSw; (try dsimp only at hSw); go_simp; (try with_reducible rfl))
      try simp only [Act.put, List.setIfInBounds_toArray, List.set_cons_zero, List.set_cons_succ]
      refine wpAnyH_take (i := 21) (oi := ?oib21) (v := ?vb21) ?h1b21 (by kernel_rfl) (by kernel_rfl) (by kernel_rfl) ?h2b21 ?hyb21 (by assumption) ?restb21
      case h1b21 => (simp only [List.getElem?_toArray, List.getElem?_cons_succ, List.getElem?_cons_zero]; try rfl)
      case h2b21 => exact fun c a w h => HP.out c a _ _ w h
      case hyb21 => (refine Or.inl ⟨by rfl, ?_⟩; intro w hSw; (try dsimp only at hSw); go_simp; (try with_reducible rfl))
      try simp only [Act.put, List.setIfInBounds_toArray, List.set_cons_zero, List.set_cons_succ]
      refine wpAnyH_take (i := 22) (oi := ?oib22) (v := ?vb22) ?h1b22 (by kernel_rfl) (by kernel_rfl) (by kernel_rfl) ?h2b22 ?hyb22 (by assumption) ?restb22
      case h1b22 => (simp only [List.getElem?_toArray, List.getElem?_cons_succ, List.getElem?_cons_zero]; try rfl)
      case h2b22 => exact fun c a w h => HP.out c a _ _ w h
      case hyb22 => (refine Or.inl ⟨by rfl, ?_⟩; intro w hSw; (try dsimp only at hSw); go_simp; (try with_reducible rfl))
      try simp only [Act.put, List.setIfInBounds_toArray, List.set_cons_zero, List.set_cons_succ]
      refine wpAnyH_take (i := 23) (oi := ?oib23) (v := ?vb23) ?h1b23 (by kernel_rfl) (by kernel_rfl) (by kernel_rfl) ?h2b23 ?hyb23 (by assumption) ?restb23
      case h1b23 => (simp only [List.getElem?_toArray, List.getElem?_cons_succ, List.getElem?_cons_zero]; try rfl)
      case h2b23 => exact fun c a w h => HP.out c a _ _ w h
      case hyb23 => (refine Or.inl ⟨by rfl, ?_⟩; intro w hSw; (try dsimp only at hSw); go_simp; (try with_reducible rfl))
      try simp only [Act.put, List.setIfInBounds_toArray, List.set_cons_zero, List.set_cons_succ]
      refine wpAnyH_take (i := 24) (oi := ?oib24) (v := ?vb24) ?h1b24 (by kernel_rfl) (by kernel_rfl) (by kernel_rfl) ?h2b24 ?hyb24 (by assumption) ?restb24
      case h1b24 => (simp only [List.getElem?_toArray, List.getElem?_cons_succ, List.getElem?_cons_zero]; try rfl)
      case h2b24 => exact fun c a w h => HP.out c a _ _ w h
      case hyb24 => (refine Or.inl ⟨by rfl, ?_⟩; intro w hSw; (try dsimp only at hSw); go_simp; (try with_reducible rfl))
      try simp only [Act.put, List.setIfInBounds_toArray, List.set_cons_zero, List.set_cons_succ]
      refine wpAnyH_take (i := 25) (oi := ?oib25) (v := ?vb25) ?h1b25 (by kernel_rfl) (by kernel_rfl) (by kernel_rfl) ?h2b25 ?hyb25 (by assumption) ?restb25
      case h1b25 => (simp only [List.getElem?_toArray, List.getElem?_cons_succ, List.getElem?_cons_zero]; try rfl)
      case h2b25 => exact fun c a w h => HP.out c a _ _ w h
      case hyb25 => (refine Or.inl ⟨by rfl, ?_⟩; intro w hSw; (try dsimp only at hSw); go_simp; (try with_reducible rfl))
      try simp only [Act.put, List.setIfInBounds_toArray, List.set_cons_zero, List.set_cons_succ]
      refine wpAnyH_take (i := 26) (oi := ?oib26) (v := ?vb26) ?h1b26 (by kernel_rfl) (by kernel_rfl) (by kernel_rfl) ?h2b26 ?hyb26 (by assumption) ?restb26
      case h1b26 => (simp only [List.getElem?_toArray, List.getElem?_cons_succ, List.getElem?_cons_zero]; try rfl)
      case h2b26 => exact fun c a w h => HP.out c a _ _ w h
      case hyb26 => (refine Or.inl ⟨by rfl, ?_⟩; intro w hSw; (try dsimp only at hSw); go_simp; (try with_reducible rfl))
      try simp only [Act.put, List.setIfInBounds_toArray, List.set_cons_zero, List.set_cons_succ]
      refine wpAnyH_take (i := 27) (oi := ?oib27) (v := ?vb27) ?h1b27 (by kernel_rfl) (by kernel_rfl) (by kernel_rfl) ?h2b27 ?hyb27 (by assumption) ?restb27
      case h1b27 => (simp only [List.getElem?_toArray, List.getElem?_cons_succ, List.getElem?_cons_zero]; try rfl)
      case h2b27 => exact fun c a w h => HP.out c a _ _ w h
      case hyb27 => (refine Or.inl ⟨by rfl, ?_⟩; intro w hSw; (try dsimp only at hSw); go_simp; (try with_reducible rfl))
      try simp only [Act.put, List.setIfInBounds_toArray, List.set_cons_zero, List.set_cons_succ]
      refine wpAnyH_take (i := 28) (oi := ?oib28) (v := ?vb28) ?h1b28 (by kernel_rfl) (by kernel_rfl) (by kernel_rfl) ?h2b28 ?hyb28 (by assumption) ?restb28
      case h1b28 => (simp only [List.getElem?_toArray, List.getElem?_cons_succ, List.getElem?_cons_zero]; try rfl)
      case h2b28 => exact fun c a w h => HP.out c a _ _ w h
      case hyb28 => (refine Or.inl ⟨by rfl, ?_⟩; intro w hSw; (try dsimp only at hSw); go_simp; (try with_reducible rfl))
      try simp only [Act.put, List.setIfInBounds_toArray, List.set_cons_zero, List.set_cons_succ]
      refine wpAnyH_take (i := 29) (oi := ?oib29) (v := ?vb29) ?h1b29 (by kernel_rfl) (by kernel_rfl) (by kernel_rfl) ?h2b29 ?hyb29 (by assumption) ?restb29
      case h1b29 => (simp only [List.getElem?_toArray, List.getElem?_cons_succ, List.getElem?_cons_zero]; try rfl)
      case h2b29 => exact fun c a w h => HP.out c a _ _ w h
      case hyb29 => (refine Or.inl ⟨by rfl, ?_⟩; intro w hSw; (try dsimp only at hSw); go_simp; (try with_reducible rfl))
      try simp only [Act.put, List.setIfInBounds_toArray, List.set_cons_zero, List.set_cons_succ]
      refine wpAnyH_take (i := 30) (oi := ?oib30) (v := ?vb30) ?h1b30 (by kernel_rfl) (by kernel_rfl) (by kernel_rfl) ?h2b30 ?hyb30 (by assumption) ?restb30
      case h1b30 => (simp only [List.getElem?_toArray, List.getElem?_cons_succ, List.getElem?_cons_zero]; try rfl)
      case h2b30 => exact fun c a w h => HP.out c a _ _ w h
      case hyb30 => (refine Or.inl ⟨by rfl, ?_⟩; intro w hSw; (try dsimp only at hSw); go_simp; (try with_reducible rfl))
      try simp only [Act.put, List.setIfInBounds_toArray, List.set_cons_zero, List.set_cons_succ]
      refine wpAnyH_take (i := 31) (oi := ?oib31) (v := ?vb31) ?h1b31 (by kernel_rfl) (by kernel_rfl) (by kernel_rfl) ?h2b31 ?hyb31 (by assumption) ?restb31
      case h1b31 => (simp only [List.getElem?_toArray, List.getElem?_cons_succ, List.getElem?_cons_zero]; try rfl)
      case h2b31 => exact fun c a w h => HP.out c a _ _ w h
      case hyb31 => (refine Or.inl ⟨by rfl, ?_⟩; intro w hSw; (try dsimp only at hSw); go_simp; (try with_reducible rfl))
      try simp only [Act.put, List.setIfInBounds_toArray, List.set_cons_zero, List.set_cons_succ]
      refine wpAnyH_take (i := 32) (oi := ?oib32) (v := ?vb32) ?h1b32 (by kernel_rfl) (by kernel_rfl) (by kernel_rfl) ?h2b32 ?hyb32 (by assumption) ?restb32
      case h1b32 => (simp only [List.getElem?_toArray, List.getElem?_cons_succ, List.getElem?_cons_zero]; try rfl)
      case h2b32 => exact fun c a w h => HP.out c a _ _ w h
      case hyb32 => (refine Or.inl ⟨by rfl, ?_⟩; intro w hSw; (try dsimp only at hSw); go_simp; (try with_reducible rfl))
      try simp only [Act.put, List.setIfInBounds_toArray, List.set_cons_zero, List.set_cons_succ]
      refine wpAnyH_take (i := 33) (oi := ?oib33) (v := ?vb33) ?h1b33 (by kernel_rfl) (by kernel_rfl) (by kernel_rfl) ?h2b33 ?hyb33 (by assumption) ?restb33
      case h1b33 => (simp only [List.getElem?_toArray, List.getElem?_cons_succ, List.getElem?_cons_zero]; try rfl)
      case h2b33 => exact fun c a w h => HP.out c a _ _ w h
      case hyb33 => (refine Or.inl ⟨by rfl, ?_⟩; intro w hSw; (try dsimp only at hSw); go_simp; (try with_reducible rfl))
      try simp only [Act.put, List.setIfInBounds_toArray, List.set_cons_zero, List.set_cons_succ]
      refine wpAnyH_take (i := 34) (oi := ?oib34) (v := ?vb34) ?h1b34 (by kernel_rfl) (by kernel_rfl) (by kernel_rfl) ?h2b34 ?hyb34 (by assumption) ?restb34
      case h1b34 => (simp only [List.getElem?_toArray, List.getElem?_cons_succ, List.getElem?_cons_zero]; try rfl)
      case h2b34 => exact fun c a w h => HP.out c a _ _ w h
      case hyb34 => (refine Or.inl ⟨by rfl, ?_⟩; intro w hSw; (try dsimp only at hSw); go_simp; (try with_reducible rfl))
      try simp only [Act.put, List.setIfInBounds_toArray, List.set_cons_zero, List.set_cons_succ]
      refine wpAnyH_take (i := 36) (oi := ?oib36) (v := ?vb36) ?h1b36 (by kernel_rfl) (by kernel_rfl) (by kernel_rfl) ?h2b36 ?hyb36 (by assumption) ?restb36
      case h1b36 => (simp only [List.getElem?_toArray, List.getElem?_cons_succ, List.getElem?_cons_zero]; try rfl)
      case h2b36 => exact fun c a w h => HP.out c a _ _ w h
      case hyb36 => (refine Or.inl ⟨by rfl, ?_⟩; intro w hSw; (try dsimp only at hSw); go_simp; (try with_reducible rfl))
      try simp only [Act.put, List.setIfInBounds_toArray, List.set_cons_zero, List.set_cons_succ]
      refine wpAnyH_ready (rs := [35, 37]) (by kernel_rfl) (by simp) ?_
      refine AllReadyH.cons (o := ?oR6_35) ?h1R6_35 (fun K hK => ?R6_35) (AllReadyH.cons (o := ?oR6_37) ?h1R6_37 (fun K hK => ?R6_37) AllReadyH.nil)
      case h1R6_35 => (simp only [List.getElem?_toArray, List.getElem?_cons_succ, List.getElem?_cons_zero]; try rfl)
      case h1R6_37 => (simp only [List.getElem?_toArray, List.getElem?_cons_succ, List.getElem?_cons_zero]; try rfl)
      case R6_35 =>
        go_simp
        refine hK.out _ _ (hSk _ hB8) (fun hHeld => ?_)
        clear hK K
        try simp only [Act.put, List.setIfInBounds_toArray, List.set_cons_zero, List.set_cons_succ]
        refine wpAnyH_ready (rs := [37]) (by kernel_rfl) (by simp) ?_
        refine AllReadyH.cons (o := ?oR2_37) ?h1R2_37 (fun K hK => ?R2_37) AllReadyH.nil
        case h1R2_37 => (simp only [List.getElem?_toArray, List.getElem?_cons_succ, List.getElem?_cons_zero]; try rfl)
        case R2_37 =>
          go_simp
          go_at_call 21
          refine (hBd _ hB8).mono ?_
          rintro e w9 ⟨⟨p9, c9, rfl⟩, hB9⟩
          have hB9 := (hB8).trans (Below.mono hB9 (hB8).size)
          refine hK.out _ _ (hSk _ hB9) (fun hHeld => ?_)
          clear hK K
          try simp only [Act.put, List.setIfInBounds_toArray, List.set_cons_zero, List.set_cons_succ]
          refine wpAnyH_ready (rs := [38]) (by kernel_rfl) (by simp) ?_
          refine AllReadyH.cons (o := ?oR1_38) ?h1R1_38 (fun K hK => ?R1_38) AllReadyH.nil
          case h1R1_38 => (simp only [List.getElem?_toArray, List.getElem?_cons_succ, List.getElem?_cons_zero]; try rfl)
          case R1_38 =>
            go_simp
            refine hK.out _ _ (hSk _ hB9) (fun hHeld => ?_)
            clear hK K
            try simp only [Act.put, List.setIfInBounds_toArray, List.set_cons_zero, List.set_cons_succ]
            refine wpAnyH_take (i := 39) (oi := ?oic39) (v := ?vc39) ?h1c39 (by kernel_rfl) (by kernel_rfl) (by kernel_rfl) ?h2c39 ?hyc39 (by assumption) ?restc39
            case h1c39 => (simp only [List.getElem?_toArray, List.getElem?_cons_succ, List.getElem?_cons_zero]; try rfl)
            case h2c39 => exact fun c a w h => HP.out c a _ _ w h
            case hyc39 => (refine Or.inl ⟨by rfl, ?_⟩; intro w hSw; (try dsimp only at hSw); go_simp; (try with_reducible rfl))
            try simp only [Act.put, List.setIfInBounds_toArray, List.set_cons_zero, List.set_cons_succ]
            refine wpAnyH_take (i := 40) (oi := ?oic40) (v := ?vc40) ?h1c40 (by kernel_rfl) (by kernel_rfl) (by kernel_rfl) ?h2c40 ?hyc40 (by assumption) ?restc40
            case h1c40 => (simp only [List.getElem?_toArray, List.getElem?_cons_succ, List.getElem?_cons_zero]; try rfl)
            case h2c40 => exact fun c a w h => HP.out c a _ _ w h
            case hyc40 => (refine Or.inl ⟨by rfl, ?_⟩; intro w hSw; (try dsimp only at hSw); go_simp; (try with_reducible rfl))
            try simp only [Act.put, List.setIfInBounds_toArray, List.set_cons_zero, List.set_cons_succ]
            refine wpAnyH_done (by kernel_rfl) ?_ _
            have HZ := Lib.hid hB9
            clear hSk hS0 hB9 hB8
            go_simp
            exact HK.out _ _ _ _ _ _ _ _ _ _ _ _ _ _ _ _ _ _ _ _ _ _ _ _ _ _ _ _ _ _ _ _ _ _ _ _ _ _ _ _ _ _ ⟨rfl, HZ.out⟩
      case R6_37 =>
        go_simp
        go_at_call 21
        refine (hBd _ hB8).mono ?_
        rintro e w9 ⟨⟨p9, c9, rfl⟩, hB9⟩
        have hB9 := (hB8).trans (Below.mono hB9 (hB8).size)
        refine hK.out _ _ (hSk _ hB9) (fun hHeld => ?_)
        clear hK K
        try simp only [Act.put, List.setIfInBounds_toArray, List.set_cons_zero, List.set_cons_succ]
        refine wpAnyH_ready (rs := [35, 38]) (by kernel_rfl) (by simp) ?_
        refine AllReadyH.cons (o := ?oR5_35) ?h1R5_35 (fun K hK => ?R5_35) (AllReadyH.cons (o := ?oR5_38) ?h1R5_38 (fun K hK => ?R5_38) AllReadyH.nil)
        case h1R5_35 => (simp only [List.getElem?_toArray, List.getElem?_cons_succ, List.getElem?_cons_zero]; try rfl)
        case h1R5_38 => (simp only [List.getElem?_toArray, List.getElem?_cons_succ, List.getElem?_cons_zero]; try rfl)
        case R5_35 =>
          go_simp
          refine hK.out _ _ (hSk _ hB9) (fun hHeld => ?_)
          clear hK K
          try simp only [Act.put, List.setIfInBounds_toArray, List.set_cons_zero, List.set_cons_succ]
          refine wpAnyH_ready (rs := [38]) (by kernel_rfl) (by simp) ?_
          refine AllReadyH.cons (o := ?oR3_38) ?h1R3_38 (fun K hK => ?R3_38) AllReadyH.nil
          case h1R3_38 => (simp only [List.getElem?_toArray, List.getElem?_cons_succ, List.getElem?_cons_zero]; try rfl)
          case R3_38 =>
            go_simp
            refine hK.out _ _ (hSk _ hB9) (fun hHeld => ?_)
            clear hK K
            try simp only [Act.put, List.setIfInBounds_toArray, List.set_cons_zero, List.set_cons_succ]
            refine wpAnyH_take (i := 39) (oi := ?oid39) (v := ?vd39) ?h1d39 (by kernel_rfl) (by kernel_rfl) (by kernel_rfl) ?h2d39 ?hyd39 (by assumption) ?restd39
            case h1d39 => (simp only [List.getElem?_toArray, List.getElem?_cons_succ, List.getElem?_cons_zero]; try rfl)
            case h2d39 => exact fun c a w h => HP.out c a _ _ w h
            case hyd39 => (refine Or.inl ⟨by rfl, ?_⟩; intro w hSw; (try dsimp only at hSw); go_simp; (try with_reducible rfl))
            try simp only [Act.put, List.setIfInBounds_toArray, List.set_cons_zero, List.set_cons_succ]
            refine wpAnyH_take (i := 40) (oi := ?oid40) (v := ?vd40) ?h1d40 (by kernel_rfl) (by kernel_rfl) (by kernel_rfl) ?h2d40 ?hyd40 (by assumption) ?restd40
            case h1d40 => (simp only [List.getElem?_toArray, List.getElem?_cons_succ, List.getElem?_cons_zero]; try rfl)
            case h2d40 => exact fun c a w h => HP.out c a _ _ w h
            case hyd40 => (refine Or.inl ⟨by rfl, ?_⟩; intro w hSw; (try dsimp only at hSw); go_simp; (try with_reducible rfl))
            try simp only [Act.put, List.setIfInBounds_toArray, List.set_cons_zero, List.set_cons_succ]
            refine wpAnyH_done (by kernel_rfl) ?_ _
            have HZ := Lib.hid hB9
            clear hSk hS0 hB9 hB8
            go_simp
            exact HK.out _ _ _ _ _ _ _ _ _ _ _ _ _ _ _ _ _ _ _ _ _ _ _ _ _ _ _ _ _ _ _ _ _ _ _ _ _ _ _ _ _ _ ⟨rfl, HZ.out⟩
        case R5_38 =>
          go_simp
          refine hK.out _ _ (hSk _ hB9) (fun hHeld => ?_)
          clear hK K
          try simp only [Act.put, List.setIfInBounds_toArray, List.set_cons_zero, List.set_cons_succ]
          refine wpAnyH_ready (rs := [35]) (by kernel_rfl) (by simp) ?_
          refine AllReadyH.cons (o := ?oR4_35) ?h1R4_35 (fun K hK => ?R4_35) AllReadyH.nil
          case h1R4_35 => (simp only [List.getElem?_toArray, List.getElem?_cons_succ, List.getElem?_cons_zero]; try rfl)
          case R4_35 =>
            go_simp
            refine hK.out _ _ (hSk _ hB9) (fun hHeld => ?_)
            clear hK K
            try simp only [Act.put, List.setIfInBounds_toArray, List.set_cons_zero, List.set_cons_succ]
            refine wpAnyH_take (i := 39) (oi := ?oif39) (v := ?vf39) ?h1f39 (by kernel_rfl) (by kernel_rfl) (by kernel_rfl) ?h2f39 ?hyf39 (by assumption) ?restf39
            case h1f39 => (simp only [List.getElem?_toArray, List.getElem?_cons_succ, List.getElem?_cons_zero]; try rfl)
            case h2f39 => exact fun c a w h => HP.out c a _ _ w h
            case hyf39 => (refine Or.inl ⟨by rfl, ?_⟩; intro w hSw; (try dsimp only at hSw); go_simp; (try with_reducible rfl))
            try simp only [Act.put, List.setIfInBounds_toArray, List.set_cons_zero, List.set_cons_succ]
            refine wpAnyH_take (i := 40) (oi := ?oif40) (v := ?vf40) ?h1f40 (by kernel_rfl) (by kernel_rfl) (by kernel_rfl) ?h2f40 ?hyf40 (by assumption) ?restf40
            case h1f40 => (simp only [List.getElem?_toArray, List.getElem?_cons_succ, List.getElem?_cons_zero]; try rfl)
            case h2f40 => exact fun c a w h => HP.out c a _ _ w h
            case hyf40 => (refine Or.inl ⟨by rfl, ?_⟩; intro w hSw; (try dsimp only at hSw); go_simp; (try with_reducible rfl))
            try simp only [Act.put, List.setIfInBounds_toArray, List.set_cons_zero, List.set_cons_succ]
            refine wpAnyH_done (by kernel_rfl) ?_ _
            have HZ := Lib.hid hB9
            clear hSk hS0 hB9 hB8
            go_simp
            exact HK.out _ _ _ _ _ _ _ _ _ _ _ _ _ _ _ _ _ _ _ _ _ _ _ _ _ _ _ _ _ _ _ _ _ _ _ _ _ _ _ _ _ _ ⟨rfl, HZ.out⟩
end Go.Proofs.YtlpngibdplnieaaGreatDoor

/- NoticeMay: the walk. -/
namespace Go.Proofs.YtlpngibdplnieaaGreatDoor
open Go Go.RowKit Go.Shelf Go.Sort
attribute [local go_sem] bneI

theorem end_or (x : EntP) (d : Bytes) (l : List FaP) (due : Int) : (endN x d l due).2 = 0 ∨ ((endN x d l due).2 ≠ 0 ∧ (endN x d l due).1 = zeroN) := by
  unfold endN
  split
  · exact .inr ⟨by decide, rfl⟩
  · split
    · exact .inr ⟨by decide, rfl⟩
    · split
      · exact .inr ⟨by decide, rfl⟩
      · exact .inl rfl
theorem zero_short : ShortE zeroN := ⟨⟨by decide, by decide, by decide, by decide, by decide⟩, by decide, by decide, by decide, by decide, by decide⟩
/-- What NoticeMay asks of a notice's entry. -/
structure MyY (host : Bytes) (x : EntP) (id now : Int) (y : EntP) (a : Nat) : Prop where
  may : mayN y = true
  short : ShortE y
  plain : y.plain = false
  req : y.mail.req = x.mail.req
  sender : y.mail.sender = []
  jobs : ∃ j, y.jobs[0]? = some j
  tries : ∀ j ∈ y.jobs, -9223372036854775808 ≤ j.tries ∧ j.tries ≤ 9223372036854775807
  fails : (madeN host x id).1.failed.length = (badM x).length
  most : mostN y.mail ≤ a
theorem myY {host : Bytes} {x : EntP} {id now : Int} (h : (madeN host x id).2 = true) (hn : clockB now = true) (hh : host.length ≤ maxLen) (hs : ShortE x) : MyY host x id now (ofN host x id now).1 (mostNo host x.mail) := by
  have hm := made_may h
  have e : (ofN host x id now).1 = makeN id now (tellM (notOf host x id) x.mail.req) := by
    unfold ofN
    rw [if_pos ⟨h, hn⟩, hm.1]
  have hmy : mayN (ofN host x id now).1 = true := by rw [e]; exact tell_may h hn
  have hsm := of_short (host := host) (x := x) id now hh hs hs.fates
  have hF := few_may ((mayN_iff _).1 hmy) hsm
  obtain ⟨d, hd⟩ := tell_jobs (host := host) (x := x) (id := id) (now := now) h
  refine ⟨hmy, hF.short, by rw [e]; exact tell_plain h, by rw [e]; rfl, by rw [e]; rfl, ⟨_, by rw [e, hd]; rfl⟩, ?_, by rw [hm.1]; exact (made_parts h).fails, ?_⟩
  · rw [e, hd]
    intro j hj
    have : j = ⟨d, 0, now⟩ := by simpa using hj
    subst this
    exact ⟨by show (-9223372036854775808 : Int) ≤ 0; decide, by show (0 : Int) ≤ 9223372036854775807; decide⟩
  · rw [e]
    exact (mostNo_of h).2
/-- What becomes of it. -/
structure MyZ (z : EntP) (g a : Nat) : Prop where
  short : ShortE z
  sender : z.mail.sender = []
  good : g = 0 → mayN z = true ∧ mostN z.mail ≤ a
theorem myZ {host : Bytes} {x : EntP} {id now : Int} {y : EntP} {a : Nat} (h : MyY host x id now y a) {j : JoP} (hj : y.jobs[0]? = some j) (l : List FaP) (due : Int) : MyZ (endN y j.dom l due).1 (endN y j.dom l due).2 a := by
  rcases end_or y j.dom l due with h0 | ⟨h0, e⟩
  · obtain ⟨e, -, hm⟩ := good_end ((mayN_iff _).1 h.may) hj h0
    rw [← e] at hm
    have hml : (endN y j.dom l due).1.mail = y.mail := by rw [e]; rfl
    have hF := few_may ((mayN_iff _).1 hm) (by rw [hml]; exact h.short.mail)
    exact ⟨hF.short, by rw [hml]; exact h.sender, fun _ => ⟨hm, by rw [hml]; exact h.most⟩⟩
  · exact ⟨by rw [e]; exact zero_short, by rw [e]; rfl, fun h => absurd h h0⟩
set_option linter.unusedSimpArgs false in
set_option linter.unusedVariables false in
set_option maxRecDepth 1000000 in
set_option maxHeartbeats 16000000 in
theorem noticeMay_any (x : EntP) (host : Bytes) (id now : Int) (f : FaP) (due : Int) (sv fv jv : Value) (w : World) (hx : EntAt w x sv fv jv) (hst : ∀ f ∈ x.fates, f.1 < 256) (hE : Env w) :
    Calls Tryz.prog 4 #[entV x sv fv jv, .string ⟨host.toArray⟩, .int .i64 id, .int .i64 now, .agg #[.int .u8 (f.1 : Int), .string ⟨f.2.toArray⟩], .int .i64 due] w fun e w' => e = .returned (.bool true) ∧ Below w.heap.size w w' := by
  obtain ⟨p, c, rfl, -⟩ := hx.rc.sh
  obtain ⟨q, d, rfl, -⟩ := hx.fa.sh
  obtain ⟨r, g, rfl, -⟩ := hx.jo.sh
  obtain ⟨W1, hW1⟩ : ∃ W1, W1 = (w.alloc (.cells (entC x (.slice p x.mail.rcpts.length c) (.slice q x.fates.length d) (.slice r x.jobs.length g)).toArray 28)).alloc (.cells #[.int .u8 (f.1 : Int), .string ⟨f.2.toArray⟩] 61) := ⟨_, rfl⟩
  have hB1 : Below w.heap.size w W1 := by rw [hW1]; exact ((Below.refl _ w).alloc (Nat.le_refl _) _).alloc (by simp) _
  have hb1 : W1.heap[w.heap.size]? = some (.cells (entC x (.slice p x.mail.rcpts.length c) (.slice q x.fates.length d) (.slice r x.jobs.length g)).toArray 28 (0, 0)) := by rw [hW1]; exact (ha_ne (by simp)).trans (ha_eq rfl)
  have hb2 : W1.heap[w.heap.size + 1]? = some (.cells #[.int .u8 (f.1 : Int), .string ⟨f.2.toArray⟩] 61 (0, 0)) := by rw [hW1]; exact ha_eq (by simp)
  obtain ⟨bx, hbx⟩ : ∃ bx, bx = w.heap.size := ⟨_, rfl⟩
  obtain ⟨bf, hbf⟩ : ∃ bf, bf = w.heap.size + 1 := ⟨_, rfl⟩
  have HBX := Lib.hid (And.intro hbx hbf)
  rw [← hbx] at hb1
  rw [← hbf] at hb2
  have HX := Lib.hid (And.intro (hx.below hB1) (And.intro (hE.keep hB1) (And.intro hB1 (And.intro hb1 (And.intro hb2 hst)))))
  have hWk := works22_any W1 (hE.keep hB1)
  unfold entV
  unfold entC at hW1 ⊢
  clear hx hst hE hB1 hb1 hb2 hbx hbf
  go_enter Tryz.func4, Tryz.ntmps4
  go_upto_region 1 with (fail)
  rw [← hW1]
  clear hW1
  have HBXE := HBX.out
  rw [← HBXE.2]
  rw [← HBXE.1]
  clear HBXE
  go_wp2_with fail
  refine hWk.mono ?_
  rintro e w2 ⟨rfl, hb2⟩
  have h2 : Below W1.heap.size W1 w2 ∧ w2.heap[bx]? = some (.cells (entC x (.slice p x.mail.rcpts.length c) (.slice q x.fates.length d) (.slice r x.jobs.length g)).toArray 28 (0, 0)) ∧ w2.heap[bf]? = some (.cells #[.int .u8 (f.1 : Int), .string ⟨f.2.toArray⟩] 61 (0, 0)) := ⟨hb2, (hb2.block _ (lt_of_cells HX.out.2.2.2.1)).trans HX.out.2.2.2.1, (hb2.block _ (lt_of_cells HX.out.2.2.2.2.1)).trans HX.out.2.2.2.2.1⟩
  have hx2 := h2.2.1
  have hLg := large22_any x _ _ _ w2 (HX.out.1.below hb2)
  have H2 := Lib.hid h2
  unfold entV at hLg
  unfold entC at hx2 hLg
  obtain ⟨x0, x1, x2, x3, x4, x5, x6, x7, x8, x9⟩ := eboxAll hx2
  clear hWk hb2 hx2 h2
  go_wp2_with fail
  refine hLg.mono ?_
  rintro e w3 ⟨⟨v, rfl, hsm⟩, hb3⟩
  have h3 : Below W1.heap.size W1 w3 ∧ w3.heap[bx]? = some (.cells (entC x (.slice p x.mail.rcpts.length c) (.slice q x.fates.length d) (.slice r x.jobs.length g)).toArray 28 (0, 0)) ∧ w3.heap[bf]? = some (.cells #[.int .u8 (f.1 : Int), .string ⟨f.2.toArray⟩] 61 (0, 0)) := ⟨H2.out.1.trans (hb3.mono H2.out.1.size), (hb3.block _ (lt_of_cells H2.out.2.1)).trans H2.out.2.1, (hb3.block _ (lt_of_cells H2.out.2.2)).trans H2.out.2.2⟩
  have H3 := Lib.hid h3
  have hWk := works22_any w3 (HX.out.2.1.keep h3.1)
  have hf3 := h3.2.2
  have y1 : w3.cell? ⟨bf, 1, none⟩ = some (.string ⟨f.2.toArray⟩) := by simp [World.cell?, hf3]
  have HB3 := Lib.hid (HX.out.2.2.1.trans (h3.1.mono HX.out.2.2.1.size))
  clear hLg hb3 h3 hf3 x0 x1 x2 x3 x4 x5 x6 x7 x8 x9 H2
  cases v with
  | true =>
    clear hsm
    go_wp2_with fail
    refine hWk.mono ?_
    rintro e w5 ⟨rfl, hb5⟩
    have HFIN := Lib.hid (HB3.out.trans (hb5.mono HB3.out.size))
    clear hWk hb5
    go_wp2
    refine bodyPost_ret (v := .bool true) (by simp [results, Tryz.results4, go_sem]) rfl ⟨rfl, HFIN.out⟩
  | false =>
    have HS := Lib.hid (shortE_of22 (hsm rfl) HX.out.2.2.2.2.2)
    clear hsm
    by_cases hlong : (3000 : Int) < (host.length : Int)
    · go_wp2_with fail
      refine hWk.mono ?_
      rintro e w5 ⟨rfl, hb5⟩
      have HFIN := Lib.hid (HB3.out.trans (hb5.mono HB3.out.size))
      clear hWk hb5
      go_wp2
      refine bodyPost_ret (v := .bool true) (by simp [results, Tryz.results4, go_sem]) rfl ⟨rfl, HFIN.out⟩
    · by_cases hlf : (3000 : Int) < (f.2.length : Int)
      · go_wp2_with fail
        refine hWk.mono ?_
        rintro e w5 ⟨rfl, hb5⟩
        have HFIN := Lib.hid (HB3.out.trans (hb5.mono HB3.out.size))
        clear hWk hb5
        go_wp2
        refine bodyPost_ret (v := .bool true) (by simp [results, Tryz.results4, go_sem]) rfl ⟨rfl, HFIN.out⟩
      · have HL := Lib.hid (show host.length ≤ maxLen ∧ f.2.length ≤ 3000 by unfold maxLen; omega)
        clear hWk
        go_upto_region 3 with (fail)
        clear y1 hlong hlf
        refine mayP3 _ _ host id now x _ _ _ bx w3 H3.out.2.1 (HX.out.1.below H3.out.1) HS.out HL.out.1 (HX.out.2.1.keep H3.out.1) ?_
        rintro v13 v14 v45 v46 v47 v48 v49 v50 v51 v52 W' ⟨⟨b13, s2, f2, j2, rfl, rfl, hby, hy⟩, hb4⟩
        have h4 : Below W1.heap.size W1 W' ∧ W'.heap[bx]? = some (.cells (entC x (.slice p x.mail.rcpts.length c) (.slice q x.fates.length d) (.slice r x.jobs.length g)).toArray 28 (0, 0)) ∧ W'.heap[bf]? = some (.cells #[.int .u8 (f.1 : Int), .string ⟨f.2.toArray⟩] 61 (0, 0)) := ⟨H3.out.1.trans (hb4.mono H3.out.1.size), (hb4.block _ (lt_of_cells H3.out.2.1)).trans H3.out.2.1, (hb4.block _ (lt_of_cells H3.out.2.2)).trans H3.out.2.2⟩
        have H4 := Lib.hid (And.intro h4 (And.intro hby hy))
        clear h4 hby hy hb4
        generalize hww : W' = w4 at *
        clear hww
        go_upto_region 4 with (fail)
        refine mayP4 _ _ host id x _ _ _ bx w4 H4.out.1.2.1 (HX.out.1.below H4.out.1.1) HS.out HL.out.1 (HX.out.2.1.keep H4.out.1.1) ?_
        rintro v15 v16 v53 v54 v55 v56 v57 v58 v59 W' ⟨⟨b15, av, rfl, rfl, hbn, hn⟩, hb5⟩
        have h5 : Below W1.heap.size W1 W' ∧ W'.heap[bx]? = some (.cells (entC x (.slice p x.mail.rcpts.length c) (.slice q x.fates.length d) (.slice r x.jobs.length g)).toArray 28 (0, 0)) ∧ W'.heap[bf]? = some (.cells #[.int .u8 (f.1 : Int), .string ⟨f.2.toArray⟩] 61 (0, 0)) := ⟨H4.out.1.1.trans (hb5.mono H4.out.1.1.size), (hb5.block _ (lt_of_cells H4.out.1.2.1)).trans H4.out.1.2.1, (hb5.block _ (lt_of_cells H4.out.1.2.2)).trans H4.out.1.2.2⟩
        have H5 := Lib.hid (And.intro h5 (And.intro ((hb5.block _ (lt_of_cells H4.out.2.1)).trans H4.out.2.1) (And.intro (H4.out.2.2.below hb5) (And.intro hbn hn))))
        clear h5 hbn hn hb5
        generalize hww : W' = w5 at *
        clear hww
        go_upto_region 5 with (fail)
        refine mayP5 _ _ host x _ _ _ bx w5 H5.out.1.2.1 (HX.out.1.below H5.out.1.1) HS.out HL.out.1 (HX.out.2.1.keep H5.out.1.1) ?_
        rintro v17 v60 v61 v62 v63 W' ⟨rfl, hb6⟩
        have h6 : Below W1.heap.size W1 W' ∧ W'.heap[bx]? = some (.cells (entC x (.slice p x.mail.rcpts.length c) (.slice q x.fates.length d) (.slice r x.jobs.length g)).toArray 28 (0, 0)) ∧ W'.heap[bf]? = some (.cells #[.int .u8 (f.1 : Int), .string ⟨f.2.toArray⟩] 61 (0, 0)) := ⟨H5.out.1.1.trans (hb6.mono H5.out.1.1.size), (hb6.block _ (lt_of_cells H5.out.1.2.1)).trans H5.out.1.2.1, (hb6.block _ (lt_of_cells H5.out.1.2.2)).trans H5.out.1.2.2⟩
        have H6 := Lib.hid (And.intro h6 (And.intro ((hb6.block _ (lt_of_cells H5.out.2.1)).trans H5.out.2.1) (And.intro (H5.out.2.2.1.below hb6) (And.intro ((hb6.block _ (lt_of_cells H5.out.2.2.2.1)).trans H5.out.2.2.2.1) (H5.out.2.2.2.2.below hb6)))))
        clear h6 hb6 H5 H4 H3
        generalize hww : W' = w6 at *
        clear hww
        have hF1 := is_eq host x id now
        have hF2 : (madeN host x id).2 = true → mostNo host x.mail ≠ 0 := fun h => (mostNo_of h).1
        have hF3 := has_eq host x id
        have hF4 : (ofN host x id now).2 = true → MyY host x id now (ofN host x id now).1 (mostNo host x.mail) := fun h => by
          have h1 := hF1
          rw [h] at h1
          have h1 := h1.symm
          rw [Bool.and_eq_true] at h1
          exact myY h1.1 (by unfold clockB; exact h1.2) HL.out.1 HS.out
        obtain ⟨oo, hoo⟩ : ∃ oo, oo = ofN host x id now := ⟨_, rfl⟩
        obtain ⟨mm, hmm⟩ : ∃ mm, mm = madeN host x id := ⟨_, rfl⟩
        obtain ⟨a, ha⟩ : ∃ a, a = mostNo host x.mail := ⟨_, rfl⟩
        have HMM := Lib.hid hmm
        rw [← hoo] at hF1 hF4 H6 ⊢
        rw [← hmm] at hF1 hF2 hF3 H6 ⊢
        rw [← ha] at hF2 hF4 ⊢
        obtain ⟨y, is_⟩ := oo
        obtain ⟨n, has⟩ := mm
        dsimp only at hF1 hF2 hF3 hF4 H6 HMM ⊢
        have HF := Lib.hid (And.intro hF1 (And.intro hF2 (And.intro hF3 hF4)))
        clear hF1 hF2 hF3 hF4 hoo hmm ha
        go_upto_region 6 with (fail)
        refine mayP6 _ _ now is_ has a w6 HF.out.1 HF.out.2.1 ?_
        rintro v64 v65 v66 v67 v68 v69 v70 v71 v72 v73 v74 v75 v76 v77 v78 v79 v80 v81 W' ⟨rfl, rfl⟩
        go_upto_region 8 with (fail)
        refine mayP8 _ _ x _ _ _ bx _ H6.out.1.2.1 (HX.out.1.below H6.out.1.1) HS.out (HX.out.2.1.keep H6.out.1.1) ?_
        rintro v18 v82 v83 v84 v85 v86 v87 v88 v89 v90 v91 v92 v93 v94 v95 v96 v97 v98 v99 W' ⟨rfl, hb7⟩
        have h7 : Below W1.heap.size W1 W' ∧ W'.heap[bx]? = some (.cells (entC x (.slice p x.mail.rcpts.length c) (.slice q x.fates.length d) (.slice r x.jobs.length g)).toArray 28 (0, 0)) ∧ W'.heap[bf]? = some (.cells #[.int .u8 (f.1 : Int), .string ⟨f.2.toArray⟩] 61 (0, 0)) := ⟨H6.out.1.1.trans (hb7.mono H6.out.1.1.size), (hb7.block _ (lt_of_cells H6.out.1.2.1)).trans H6.out.1.2.1, (hb7.block _ (lt_of_cells H6.out.1.2.2)).trans H6.out.1.2.2⟩
        have H7 := Lib.hid (And.intro h7 (And.intro ((hb7.block _ (lt_of_cells H6.out.2.1)).trans H6.out.2.1) (And.intro (H6.out.2.2.1.below hb7) (And.intro ((hb7.block _ (lt_of_cells H6.out.2.2.2.1)).trans H6.out.2.2.2.1) (H6.out.2.2.2.2.below hb7)))))
        clear h7 hb7 H6
        generalize hww : W' = w7 at *
        clear hww
        have hF3 := HF.out.2.2.1
        generalize (decide (badM x ≠ []) && (mayN x && (settledB x && decide (x.mail.sender ≠ [])))) = bad at hF3 ⊢
        have HF3 := Lib.hid hF3
        clear hF3
        go_upto_region 9 with (fail)
        refine mayP9 _ _ host id has bad w7 HF3.out HL.out.1 (HX.out.2.1.keep H7.out.1.1) ?_
        rintro v100 v101 v102 v103 v104 v105 v106 v107 v108 v109 v110 v111 v112 v113 v114 W' ⟨rfl, hb8⟩
        have h8 : Below W1.heap.size W1 W' ∧ W'.heap[bx]? = some (.cells (entC x (.slice p x.mail.rcpts.length c) (.slice q x.fates.length d) (.slice r x.jobs.length g)).toArray 28 (0, 0)) ∧ W'.heap[bf]? = some (.cells #[.int .u8 (f.1 : Int), .string ⟨f.2.toArray⟩] 61 (0, 0)) := ⟨H7.out.1.1.trans (hb8.mono H7.out.1.1.size), (hb8.block _ (lt_of_cells H7.out.1.2.1)).trans H7.out.1.2.1, (hb8.block _ (lt_of_cells H7.out.1.2.2)).trans H7.out.1.2.2⟩
        have H8 := Lib.hid (And.intro h8 (And.intro ((hb8.block _ (lt_of_cells H7.out.2.1)).trans H7.out.2.1) (And.intro (H7.out.2.2.1.below hb8) (And.intro ((hb8.block _ (lt_of_cells H7.out.2.2.2.1)).trans H7.out.2.2.2.1) (H7.out.2.2.2.2.below hb8)))))
        have HFIN := Lib.hid (HX.out.2.2.1.trans (h8.1.mono HX.out.2.2.1.size))
        clear h8 hb8 H7 HF3 HB3
        generalize hww : W' = w8 at *
        clear hww
        cases is_ with
        | false =>
          go_wp2
          refine bodyPost_ret (v := .bool true) (by simp [results, Tryz.results4, go_sem]) rfl ⟨rfl, HFIN.out⟩
        | true =>
          have hY := HF.out.2.2.2 rfl
          have hfl : n.failed.length = (badM x).length := by
            have h := hY.fails
            rw [← HMM.out] at h
            exact h
          have HY := Lib.hid (And.intro hY hfl)
          clear hY hfl HF
          go_upto_region 13 with (fail)
          refine mayP13 _ _ y _ _ _ b13 w8 H8.out.2.1 H8.out.2.2.1 HY.out.1.short HY.out.1.may (HX.out.2.1.keep H8.out.1.1) ?_
          rintro v19 v20 v117 v118 v119 v120 v121 W' ⟨⟨rfl, rfl⟩, hb9⟩
          have h9 : Below W1.heap.size W1 W' ∧ W'.heap[bx]? = some (.cells (entC x (.slice p x.mail.rcpts.length c) (.slice q x.fates.length d) (.slice r x.jobs.length g)).toArray 28 (0, 0)) ∧ W'.heap[bf]? = some (.cells #[.int .u8 (f.1 : Int), .string ⟨f.2.toArray⟩] 61 (0, 0)) := ⟨H8.out.1.1.trans (hb9.mono H8.out.1.1.size), (hb9.block _ (lt_of_cells H8.out.1.2.1)).trans H8.out.1.2.1, (hb9.block _ (lt_of_cells H8.out.1.2.2)).trans H8.out.1.2.2⟩
          have H9 := Lib.hid (And.intro h9 (And.intro ((hb9.block _ (lt_of_cells H8.out.2.1)).trans H8.out.2.1) (And.intro (H8.out.2.2.1.below hb9) (And.intro ((hb9.block _ (lt_of_cells H8.out.2.2.2.1)).trans H8.out.2.2.2.1) (H8.out.2.2.2.2.below hb9)))))
          have HLE := Lib.hid (Nat.le_trans (most_enc HY.out.1.may) HY.out.1.most)
          clear h9 hb9 H8 HFIN
          generalize hww : W' = w9 at *
          clear hww
          generalize encB y = bs at *
          go_upto_region 14 with (fail)
          refine mayP14 _ _ x y n _ _ _ _ _ _ av bx b13 b15 a bs w9 H9.out.1.2.1 (HX.out.1.below H9.out.1.1) HS.out H9.out.2.1 H9.out.2.2.1 HY.out.1.short HY.out.1.may HY.out.1.plain HY.out.1.req HY.out.1.sender H9.out.2.2.2.1 H9.out.2.2.2.2 HY.out.2 HLE.out (HX.out.2.1.keep H9.out.1.1) (fun _ _ _ _ _ h => h) ?_
          rintro v122 v123 v124 v125 v126 v127 v128 v129 v130 v131 v132 v133 v134 v135 v136 v137 v138 v139 v140 v141 v142 v143 v144 v145 v146 v147 v148 v149 v150 v151 v152 v153 v154 v155 v156 v157 v158 v159 v160 v161 v162 W' ⟨rfl, hb10⟩
          have h10 : Below W1.heap.size W1 W' ∧ W'.heap[bx]? = some (.cells (entC x (.slice p x.mail.rcpts.length c) (.slice q x.fates.length d) (.slice r x.jobs.length g)).toArray 28 (0, 0)) ∧ W'.heap[bf]? = some (.cells #[.int .u8 (f.1 : Int), .string ⟨f.2.toArray⟩] 61 (0, 0)) := ⟨H9.out.1.1.trans (hb10.mono H9.out.1.1.size), (hb10.block _ (lt_of_cells H9.out.1.2.1)).trans H9.out.1.2.1, (hb10.block _ (lt_of_cells H9.out.1.2.2)).trans H9.out.1.2.2⟩
          have H10 := Lib.hid (And.intro h10 (And.intro ((hb10.block _ (lt_of_cells H9.out.2.1)).trans H9.out.2.1) (H9.out.2.2.1.below hb10)))
          clear h10 hb10 H9
          generalize hww : W' = w10 at *
          clear hww
          obtain ⟨j, hj⟩ := HY.out.1.jobs
          have HJ := Lib.hid hj
          clear hj
          go_upto_region 16 with (fail)
          refine mayG _ _ y j f due b13 bf _ _ _ w10 H10.out.2.1 H10.out.2.2 HY.out.1.short HJ.out H10.out.1.2.2 (by have := HL.out.2; omega) HY.out.1.tries (HX.out.2.1.keep H10.out.1.1) (fun _ _ _ _ _ h => h) ?_
          rintro v21 v22 v163 v164 v165 v166 v167 v168 v169 v170 v171 v172 v173 v174 v175 W' ⟨⟨b21, s3, f3, j3, rfl, rfl, hbz, hz⟩, hb11⟩
          have hZ := myZ HY.out.1 HJ.out [f] due
          obtain ⟨zz, hzz⟩ : ∃ zz, zz = endN y j.dom [f] due := ⟨_, rfl⟩
          rw [← hzz] at hZ hbz hz ⊢
          obtain ⟨z, gg⟩ := zz
          dsimp only at hZ hbz hz ⊢
          have h11 : Below W1.heap.size W1 W' := H10.out.1.1.trans (hb11.mono H10.out.1.1.size)
          have H11 := Lib.hid (And.intro h11 (And.intro hbz (And.intro hz.at hZ)))
          clear h11 hbz hz hb11 hZ hzz H10
          generalize hww : W' = w11 at *
          clear hww
          go_upto_region 17 with (fail)
          refine mayP17 _ _ host id z _ _ _ b21 w11 H11.out.2.1 H11.out.2.2.1 H11.out.2.2.2.short HL.out.1 (HX.out.2.1.keep H11.out.1) ?_
          rintro v23 v24 v176 v177 v178 v179 v180 v181 v182 W' ⟨⟨b23, av2, rfl, rfl, -, -⟩, hb12⟩
          rw [made_nobody H11.out.2.2.2.sender]
          have h12 : Below W1.heap.size W1 W' := H11.out.1.trans (hb12.mono H11.out.1.size)
          have H12 := Lib.hid (And.intro h12 (And.intro ((hb12.block _ (lt_of_cells H11.out.2.1)).trans H11.out.2.1) (And.intro (H11.out.2.2.1.below hb12) H11.out.2.2.2)))
          have HFIN := Lib.hid (HX.out.2.2.1.trans (h12.mono HX.out.2.2.1.size))
          clear h12 hb12 H11
          generalize hww : W' = w12 at *
          clear hww
          by_cases hg : gg = 0
          · have hgood := H12.out.2.2.2.good hg
            have HG := Lib.hid hgood
            subst hg
            clear hgood
            go_upto_region 20 with (fail)
            refine mayP20 _ _ z _ _ _ b21 w12 H12.out.2.1 H12.out.2.2.1 H12.out.2.2.2.short HG.out.1 (HX.out.2.1.keep H12.out.1) ?_
            rintro v25 v26 v187 v188 v189 v190 v191 W' ⟨⟨rfl, rfl⟩, hb13⟩
            have hle := Nat.le_trans (most_enc HG.out.1) HG.out.2
            have HFIN := Lib.hid (HX.out.2.2.1.trans ((H12.out.1.trans (hb13.mono H12.out.1.size)).mono HX.out.2.2.1.size))
            clear hb13
            generalize encB z = bs2 at *
            have e1 : (bs2.length : Int) ≤ (a : Int) := by omega
            go_wp2
            refine bodyPost_ret (v := .bool true) (by simp [results, Tryz.results4, go_sem]) rfl ⟨rfl, HFIN.out⟩
          · have e1 : ((gg : Int) == 0) = false := by simpa using hg
            have e2 : decide ((gg : Int) = 0) = false := by simpa using hg
            have e3 : decide (gg = 0) = false := by simpa using hg
            clear hg
            go_wp2
            refine bodyPost_ret (v := .bool true) (by simp [results, Tryz.results4, go_sem]) rfl ⟨rfl, HFIN.out⟩
end Go.Proofs.YtlpngibdplnieaaGreatDoor
