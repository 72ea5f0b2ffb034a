/- Parts of the proof, joined: Emst, Egdp, Nmk. -/
import Derived.Test.YtlpngibdplnieaaGreatDoorEmla
import Derived.Test.YtlpngibdplnieaaGreatDoorEmk
import Derived.Test.YtlpngibdplnieaaGreatDoorEenw
import Derived.Test.YtlpngibdplnieaaGreatDoorMk
import Derived.Lib.Repeat
import Derived.Test.YtlpngibdplnieaaGreatDoorMl
import Derived.Test.YtlpngibdplnieaaGreatDoorMe
import Derived.Deep.CutRange
/- entry.Most. -/
namespace Go.Proofs.YtlpngibdplnieaaGreatDoor
open Go Go.RowKit Go.Shelf Go.Sort
attribute [local go_sem] bneI

theorem repeat_any (c : UInt8) (w : World) : Calls Tryz.prog 48 #[.string ⟨#[c]⟩, .int .i64 128] w fun e w' => e = .returned (.string ⟨(List.replicate 128 c).toArray⟩) ∧ Below w.heap.size w w' := by
  have h := Tryz.strings_Repeat ⟨#[c]⟩ 128 w (by decide) (by show 1 * 128 ≤ _; decide)
  have e := Lib.repeatL_replicate c 1 128
  rw [show (⟨#[c]⟩ : ByteArray).data.toList = List.replicate 1 c from rfl, e] at h
  exact h
theorem fates_mem {t : Bytes} {n i : Nat} {f : FaP} (h : f ∈ fatF t n i) : f = (2, t) ∨ f = (0, []) := by
  unfold fatF at h
  rcases List.mem_append.1 h with h | h
  · exact .inl (List.eq_of_mem_replicate h)
  · exact .inr (List.eq_of_mem_replicate h)
theorem foldB_len {s d : Bytes} (h : foldB s = some d) : d.length ≤ 253 := by
  unfold foldB at h
  split at h
  · rename_i hm
    injection h with h
    rw [← h]
    unfold mayB at hm
    simp only [Bool.and_eq_true, decide_eq_true_eq] at hm
    exact hm.1.1
  · cases h
theorem parseB_len {s l d : Bytes} (h : parseB s = some (l, d)) : d.length ≤ 253 := by
  unfold parseB at h
  split at h
  · split at h
    · cases h
    · obtain ⟨e, he, h2⟩ := Option.map_eq_some_iff.1 h
      injection h2 with _ h2
      rw [← h2]; exact foldB_len he
  · cases h
theorem doms_short {rs : List RcP} {d : Bytes} (h : d ∈ domsM rs) : d.length ≤ 253 := by
  have h := (domsM_mem rs d).1 h
  unfold domsOf at h
  obtain ⟨r, _, hr⟩ := List.mem_filterMap.1 h
  obtain ⟨p, hp, e⟩ := Option.map_eq_some_iff.1 hr
  obtain ⟨l, d2⟩ := p
  cases e
  exact parseB_len hp
theorem shortFull {c : UInt8} {m : MailP} (h : ShortM m) : ShortE (fullN c m) := by
  have hd : ∀ d ∈ domsM m.rcpts, d.length ≤ 1000000 := fun d hd => by
    have := doms_short hd
    omega
  refine ⟨h, ?_, ?_, ?_, ?_, ?_⟩
  · show (List.replicate m.rcpts.length _).length ≤ _
    rw [List.length_replicate]; exact h.rcpts
  · show ((domsM m.rcpts).map _).length ≤ _
    rw [List.length_map]
    have := domsM_len m.rcpts
    have := h.rcpts
    omega
  · intro f hf
    have : f = (2, List.replicate 128 c) := List.eq_of_mem_replicate hf
    rw [this]; show 2 < 256; decide
  · intro f hf
    have : f = (2, List.replicate 128 c) := List.eq_of_mem_replicate hf
    rw [this]
    show (List.replicate 128 c).length ≤ _
    rw [List.length_replicate]; decide
  · intro j hj
    obtain ⟨d, hdm, rfl⟩ := List.mem_map.1 hj
    exact hd d hdm
theorem ful_start {w W1 w2 : World} {t : Bytes} {m : MailP} {p1 p2 p3 : Option Addr} {c1 c2 c3 : Nat} (hB1 : Below w.heap.size w W1) (hb2 : Below W1.heap.size W1 w2)
    (ho : OwnE w2 W1.heap.size (makeN 1099511627776 1099511627776 m) (.slice p1 m.rcpts.length c1) (.slice p2 m.rcpts.length c2) (.slice p3 (domsM m.rcpts).length c3)) :
    FuL w (wayN t m 0 0) w2.heap.size W1.heap.size (.slice p1 m.rcpts.length c1) (.slice p2 m.rcpts.length c2) (.slice p3 (domsM m.rcpts).length c3) (w2.alloc (.cells (entC (makeN 1099511627776 1099511627776 m) (.slice p1 m.rcpts.length c1) (.slice p2 m.rcpts.length c2) (.slice p3 (domsM m.rcpts).length c3)).toArray 28)) := by
  have k : ∀ {T : TypeId} {s : Nat} {v : Value} {n : Nat} {xs : List Value} (o : Obj), w2.ownsRow W1.heap.size T s v n xs → (w2.alloc o).ownsRow W1.heap.size T s v n xs := fun o h => h.kept (World.grownBy_alloc w2 _ none) (Classical.em _)
  rw [wayN_zero]
  exact ⟨(hB1.trans (hb2.mono hB1.size)).alloc (by have := hB1.size; have := hb2.size; omega) _, ha_eq rfl, ⟨k _ ho.rc, k _ ho.fa, k _ ho.jo⟩, hB1.size⟩
theorem make_rc (i a : Int) (m : MailP) : (makeN i a m).mail.rcpts.length = m.rcpts.length := rfl
theorem make_lens (i a : Int) (m : MailP) : (makeN i a m).fates.length = m.rcpts.length ∧ (makeN i a m).jobs.length = (domsM m.rcpts).length := ⟨by simp [makeN], by simp [makeN]⟩
set_option maxRecDepth 100000 in
set_option maxHeartbeats 8000000 in
theorem most_any (m : MailP) (sv : Value) (w : World) (hr : RowK 2 rcE w sv m.rcpts) (hs : ShortM m) (hE : Env w) :
    Calls Tryz.prog 49 #[mailV m sv] w fun e w' => e = .returned (.int .i64 (mostN m : Int)) ∧ Below w.heap.size w w' := by
  obtain ⟨p, c, rfl, -⟩ := hr.sh
  obtain ⟨W1, hW1⟩ : ∃ W1, W1 = (w.alloc (.cells (mailC m (.slice p m.rcpts.length c)).toArray 24)) := ⟨_, rfl⟩
  have hB1 : Below w.heap.size w W1 := by rw [hW1]; exact (Below.refl _ w).alloc (Nat.le_refl _) _
  have hb1 : W1.heap[w.heap.size]? = some (.cells (mailC m (.slice p m.rcpts.length c)).toArray 24 (0, 0)) := by rw [hW1]; exact ha_eq rfl
  have hMk := make_any 1099511627776 1099511627776 m (.slice p m.rcpts.length c) W1 (hr.below hB1) hs (hE.keep hB1)
  have HX := Lib.hid (And.intro hs (And.intro hE hB1))
  unfold mailV at hMk ⊢
  unfold mailC at hMk hW1 hb1 ⊢
  obtain ⟨x0, x1, x2, x3, x4⟩ := mbox hb1
  clear hr hs hE hB1 hb1
  go_enter Tryz.func49, Tryz.ntmps49
  go_upto_region 1 with (fail)
  rw [← hW1]
  clear hW1
  go_wp2_with fail
  refine hMk.mono ?_
  rintro e w2 ⟨⟨rv, fv, jv, rfl, hown⟩, hb2⟩
  clear hMk x0 x1 x2 x3 x4
  obtain ⟨p1, c1, rfl⟩ := own_shape hown.rc
  obtain ⟨p2, c2, rfl⟩ := own_shape hown.fa
  obtain ⟨p3, c3, rfl⟩ := own_shape hown.jo
  rw [make_rc, (make_lens _ _ m).1, (make_lens _ _ m).2] at hown
  rw [make_rc, (make_lens _ _ m).1, (make_lens _ _ m).2]
  have HO := Lib.hid (And.intro hown hb2)
  clear hown hb2
  unfold entV entC
  go_upto_region 2 with (fail)
  have hFu := ful_start (t := List.replicate 128 119) HX.out.2.2 HO.out.2 HO.out.1
  unfold entC at hFu
  generalize hW3 : World.alloc w2 _ = w3 at hFu ⊢
  clear hW3
  have hfree : w.heap.size ≤ W1.heap.size := HX.out.2.2.size
  obtain ⟨bx, hbx⟩ : ∃ bx, bx = w2.heap.size := ⟨_, rfl⟩
  rw [← hbx] at hFu ⊢
  have HFu := Lib.hid hFu
  have y8 := hFu.c8
  have hn := HX.out.1.rcpts
  clear hFu hbx hfree
  go_wp2_with fail
  clear y8
  go_loopw [4, 13] (fun _ s13 wr => ∃ i : Nat, s13 = .int .i64 (i : Int) ∧ i ≤ m.rcpts.length ∧ FuL w (wayN (List.replicate 128 119) m i 0) bx W1.heap.size (.slice p1 m.rcpts.length c1) (.slice p2 m.rcpts.length c2) (.slice p3 (domsM m.rcpts).length c3) wr) (fun _ s13 _ => m.rcpts.length - natI s13)
  case atStart => exact ⟨0, rfl, Nat.zero_le _, HFu.out⟩
  case round =>
    obtain ⟨i, rfl, hi, hF⟩ := hrel
    have HF := Lib.hid hF
    clear hF
    by_cases hlast : i < m.rcpts.length
    · have hli : (i : Int) < (m.rcpts.length : Int) := by omega
      have q8 := BW.cell HF.out.c8
      have hS := BW.calls (w := wr) (fun W _ => repeat_any 119 W)
      have hw1 : wrap64 ((i : Int) + 1) = (i : Int) + 1 := by unfold wrap64; omega
      obtain ⟨g, rfl, -, -, -⟩ := HF.out.put (wayN_fates _ _ (by omega)) hlast
      go_upto_region 5 with (fail)
      refine wp_region_quiet_tail (C := fun w' => ∃ p : BW wr, w' = p.v) 6 (by kernel_rfl) (by kernel_rfl) ⟨⟨wr.drew, ⟨rfl, rfl, rfl, Nat.le_refl _, fun _ _ => rfl⟩⟩, rfl⟩ ?_
      simp only [List.take_succ_cons, List.take_zero, List.drop_succ_cons, List.drop_zero]
      repeat (go_big_quiet_step (exact hS _))
      refine wpQuiet_nil ?_
      rintro W5 ⟨⟨W5, hB5⟩, rfl⟩
      obtain ⟨g', e, ⟨u0, u1, v0, v1⟩, hfz, hst⟩ := (HF.out.keep hB5).put (wayN_fates _ _ (by omega)) hlast
      cases e
      have hst := hst (2, List.replicate 128 119)
      rw [wayN_set _ _ hlast] at hst
      have HS := Lib.hid hst
      have f0 := hfz (i * 2)
      have f1 := hfz (i * 2 + 1)
      clear hst hfz q8 hS hB5
      go_wp2
      go_roundw
      case rel => exact ⟨i + 1, by simp, by omega, HS.out⟩
      case measure => simp [natI]; omega
    · have hli : ¬ (i : Int) < (m.rcpts.length : Int) := by omega
      have hie : i = m.rcpts.length := by omega
      subst hie
      have y9 := HF.out.c9
      have hdn : (domsM m.rcpts).length ≤ 1000000 := by have := domsM_len m.rcpts; omega
      go_upto_region 8 with (fail)
      clear y9
      generalize hww : wr = wq at *
      clear hww
      go_loopw [5, 26] (fun _ s26 wr => ∃ k : Nat, s26 = .int .i64 (k : Int) ∧ k ≤ (domsM m.rcpts).length ∧ FuL w (wayN (List.replicate 128 119) m m.rcpts.length k) bx W1.heap.size (.slice p1 m.rcpts.length c1) (.slice p2 m.rcpts.length c2) (.slice p3 (domsM m.rcpts).length c3) wr) (fun _ s26 _ => (domsM m.rcpts).length - natI s26)
      case atStart => exact ⟨0, rfl, Nat.zero_le _, HF.out⟩
      case round =>
        obtain ⟨k, rfl, hk, hF⟩ := hrel
        have HF2 := Lib.hid hF
        clear hF
        by_cases hkl : k < (domsM m.rcpts).length
        · have hli2 : (k : Int) < ((domsM m.rcpts).length : Int) := by omega
          have hw1 : wrap64 ((k : Int) + 1) = (k : Int) + 1 := by unfold wrap64; omega
          have y9 := HF2.out.c9
          obtain ⟨g, rfl, ⟨u, v0⟩, hfz, hst⟩ := HF2.out.try (wayN_jobs _ _ _ _) hkl
          rw [wayN_try _ _ hkl] at hst
          have HS := Lib.hid hst
          have f0 := hfz (k * 3 + 1)
          clear hst hfz
          go_wp2
          go_roundw
          case rel => exact ⟨k + 1, by simp, by omega, HS.out⟩
          case measure => simp [natI]; omega
        · have hli2 : ¬ (k : Int) < ((domsM m.rcpts).length : Int) := by omega
          have hke : k = (domsM m.rcpts).length := by omega
          subst hke
          have hfu := HF2.out
          rw [wayN_all] at hfu
          have HF3 := Lib.hid hfu
          have hEn := encode_any (fullN 119 m) _ _ _ wr hfu.own.at (shortFull HX.out.1) (HX.out.2.1.keep hfu.below)
          have hbx2 := hfu.box
          unfold entC at hbx2
          obtain ⟨t0, t1, t2, t3, t4, t5, t6, t7, t8, t9⟩ := eboxAll hbx2
          unfold entV entC at hEn
          clear hfu hbx2
          go_wp2_with fail
          refine hEn.mono ?_
          rintro e w7 ⟨hp, hb7⟩
          have HB := Lib.hid (HF3.out.below.trans (hb7.mono HF3.out.below.size))
          clear hEn t0 t1 t2 t3 t4 t5 t6 t7 t8 t9 hb7
          have hmo : mostN m = if mayN (fullN 119 m) then (encB (fullN 119 m)).length else 0 := rfl
          rcases hp with ⟨hy, rfl⟩ | ⟨hy, rfl⟩
          · rw [if_pos hy] at hmo
            have HM := Lib.hid hmo
            clear hmo hy
            go_wp2
            refine bodyPost_ret (v := .int .i64 ((encB (fullN 119 m)).length : Int)) (by simp [results, Tryz.results49, go_sem]) rfl ⟨by rw [HM.out], HB.out⟩
          · rw [hy, if_neg (by simp)] at hmo
            have HM := Lib.hid hmo
            clear hmo hy
            go_wp2
            refine bodyPost_ret (v := .int .i64 0) (by simp [results, Tryz.results49, go_sem]) rfl ⟨by rw [HM.out]; rfl, HB.out⟩
end Go.Proofs.YtlpngibdplnieaaGreatDoor

/- EntryGood: in plain Lean. -/
namespace Go.Proofs.YtlpngibdplnieaaGreatDoor
open Go Go.Sort

theorem domsM_nodup (rs : List RcP) : (domsM rs).Nodup := by
  refine List.Pairwise.imp ?_ (show List.Pairwise (fun x y => cmpB x y < 0) (domsM rs) from domsM_asc rs)
  intro a b h e
  subst e
  rw [cmpB_self] at h
  omega
theorem jobsOk_in : ∀ {l : List JoP} {ds : List Bytes}, jobsOk l ds = true → ∀ j ∈ l, 0 ≤ j.tries ∧ j.tries ≤ 99 ∧ clockB j.due = true
  | [], _, _, j, hj => by cases hj
  | _ :: _, [], h, _, _ => by simp [jobsOk] at h
  | y :: l, d :: ds, h, j, hj => by
    unfold jobsOk jobOk at h
    simp only [Bool.and_eq_true, decide_eq_true_eq] at h
    rcases List.mem_cons.1 hj with rfl | hj
    · exact ⟨h.1.2.1, h.1.2.2.1, h.1.2.2.2⟩
    · exact jobsOk_in h.2 j hj
theorem mailB_four {m : MailP} {a b : Nat} (h : mailB m a b = 0) : m.rcpts.length ≤ a := by
  unfold mailB at h
  split at h
  · omega
  · rename_i h2
    omega
theorem wrong_lens {f : FaP} (h : wrongB f = false) : f.1 ≤ 2 ∧ f.2.length ≤ 128 := by
  unfold wrongB at h
  simp only [Bool.or_eq_false_iff, decide_eq_false_iff_not, Decidable.not_not] at h
  refine ⟨by omega, ?_⟩
  have h2 := h.2.1
  rw [← h2]
  unfold wordB
  rw [List.length_take]
  exact Nat.min_le_left _ _
/-- What may be is small. -/
structure FewX (x : EntP) : Prop where
  may : MayN x
  short : ShortE x
  fates : x.fates.length ≤ 4
  jobs : x.jobs.length ≤ 4
  pos : 0 < x.jobs.length
theorem few_may {x : EntP} (h : MayN x) (hm : ShortM x.mail) : FewX x := by
  have h4 := mailB_four h.mail
  have hd := jobsOk_dom h.jobs
  have hl : x.jobs.length = (domsM x.mail.rcpts).length := by rw [← hd, List.length_map]
  have hn := domsM_len x.mail.rcpts
  have hp := doms_pos domsM_mem (mailB_pos h.mail) (mailB_addr h.mail)
  have hf := h.len
  refine ⟨h, ⟨hm, by omega, by omega, fun f hf => ?_, fun f hf => ?_, fun j hj => ?_⟩, by omega, by omega, by omega⟩
  · have := (wrong_lens (h.fates f hf)).1; omega
  · have := (wrong_lens (h.fates f hf)).2; omega
  · have : j.dom ∈ domsM x.mail.rcpts := by rw [← hd]; exact List.mem_map.2 ⟨j, hj, rfl⟩
    have := doms_short this
    omega
theorem waits_le (x : EntP) (d : Bytes) : (waitsM x d).length ≤ x.fates.length := by
  unfold waitsM plcM
  refine Nat.le_trans (plcB_le _ _ _) ?_
  rw [List.length_zip]
  exact Nat.min_le_right _ _
/-- What End answers at a job's own domain. -/
theorem good_end {x : EntP} (h : MayN x) {k : Nat} {j : JoP} (hk : x.jobs[k]? = some j) {l : List FaP} {due : Int} (he : (endN x j.dom l due).2 = 0) :
    (endN x j.dom l due).1 = endX x k (waitsM x j.dom) l due ∧ l.length = (waitsM x j.dom).length ∧ mayN (endX x k (waitsM x j.dom) l due) = true := by
  obtain ⟨k', h1, h2, h3, -, h5⟩ := may_end ((mayN_iff x).2 h) he
  obtain ⟨hlt, rfl⟩ := List.getElem?_eq_some_iff.1 hk
  have := jobAt_self (by rw [jobsOk_dom h.jobs]; exact domsM_nodup _) hlt
  rw [h1] at this
  injection this with this
  subst this
  exact ⟨h2, h3, h5⟩
theorem want_succ {w : List Nat} {l : List FaP} {n p i : Nat} {v f : FaP} (h1 : w[p]? = some i) (h2 : l[p]? = some f) : wantP w l n v (p + 1) = if i = n then (f, 1) else wantP w l n v p := by
  simp [wantP, h1, h2]
theorem good_fate (x : EntP) (k : Nat) (w : List Nat) (l : List FaP) (due : Int) {n : Nat} {v : FaP} (hv : x.fates[n]? = some v) : (endX x k w l due).fates[n]? = some (wantP w l n v l.length).1 := by
  obtain ⟨hn, rfl⟩ := List.getElem?_eq_some_iff.1 hv
  exact putF_get _ _ _ _ hn _
theorem good_wait {x : EntP} {d : Bytes} {l : List FaP} {n p : Nat} {v : FaP} (hv : x.fates[n]? = some v) (h : (wantP (waitsM x d) l n v p).2 = 1) : v.1 = 0 := by
  obtain ⟨_, h2, h3, -⟩ := waits_mem (wantP_mem _ _ _ _ _ h)
  obtain ⟨hn, rfl⟩ := List.getElem?_eq_some_iff.1 hv
  simpa [waitB] using h3
theorem want_01 (w : List Nat) (l : List FaP) (n : Nat) (v : FaP) : ∀ p, (wantP w l n v p).2 = 0 ∨ (wantP w l n v p).2 = 1
  | 0 => .inl rfl
  | p + 1 => by
    unfold wantP
    split
    · split
      · exact .inr rfl
      · exact want_01 w l n v p
    · exact want_01 w l n v p
theorem good_job (x : EntP) (k : Nat) (w : List Nat) (l : List FaP) (due : Int) {n : Nat} {j : JoP} (hj : x.jobs[n]? = some j) : (endX x k w l due).jobs[n]? = some (if k = n then bumpJ j due else j) := by
  show (x.jobs.modify k _)[n]? = _
  rw [List.getElem?_modify, hj]
  split <;> rfl
theorem bump_tries {j : JoP} {due : Int} : (bumpJ j due).tries = min 99 (j.tries + 1) := by
  show min 98 j.tries + 1 = _
  omega
theorem end_lens (x : EntP) (k : Nat) (w : List Nat) (l : List FaP) (due : Int) : (endX x k w l due).mail = x.mail ∧ (endX x k w l due).fates.length = x.fates.length ∧ (endX x k w l due).jobs.length = x.jobs.length := ⟨rfl, putF_len _ _ _ _, List.length_modify _ _ _⟩
theorem sumN_le {α : Type} (f : α → Nat) (B : Nat) : ∀ {l : List α}, (∀ x ∈ l, f x ≤ B) → sumN f l ≤ l.length * B
  | [], _ => by simp [sumN]
  | y :: l, h => by
    have h1 := h y List.mem_cons_self
    have h2 := sumN_le f B (l := l) fun x hx => h x (List.mem_cons_of_mem _ hx)
    rw [sumN_cons, List.length_cons, Nat.succ_mul]
    omega
/-- Who waits of an entry's first jobs; how many first fates wait. -/
def waitsP (x : EntP) (n : Nat) : Nat := sumN (fun j : JoP => (waitsM x j.dom).length) (x.jobs.take n)
def allP (x : EntP) (n : Nat) : Nat := (x.fates.take n).countP waitB
theorem waitsP_succ {x : EntP} {n : Nat} {j : JoP} (h : x.jobs[n]? = some j) : waitsP x (n + 1) = waitsP x n + (waitsM x j.dom).length := by
  obtain ⟨hn, rfl⟩ := List.getElem?_eq_some_iff.1 h
  unfold waitsP
  rw [List.take_succ_eq_append_getElem hn, sumN_snoc]
theorem allP_succ {x : EntP} {n : Nat} {f : FaP} (h : x.fates[n]? = some f) : allP x (n + 1) = allP x n + if waitB f = true then 1 else 0 := by
  obtain ⟨hn, rfl⟩ := List.getElem?_eq_some_iff.1 h
  unfold allP
  rw [List.take_succ_eq_append_getElem hn, List.countP_append, List.countP_singleton]
theorem waitsP_le {x : EntP} (h : FewX x) (n : Nat) : waitsP x n ≤ 16 := by
  unfold waitsP
  refine Nat.le_trans (sumN_le _ 4 fun j _ => Nat.le_trans (waits_le x j.dom) h.fates) ?_
  rw [List.length_take]
  have := h.jobs
  omega
theorem allP_le {x : EntP} (h : FewX x) (n : Nat) : allP x n ≤ 4 := by
  unfold allP
  refine Nat.le_trans List.countP_le_length ?_
  rw [List.length_take]
  have := h.fates
  omega
theorem good_sum {x : EntP} (h : FewX x) : waitsP x x.jobs.length = allP x x.fates.length ∧ settledB x = decide (allP x x.fates.length = 0) := by
  unfold waitsP allP
  rw [List.take_length, List.take_length]
  exact ⟨waits_sum domsM_mem domsM_nodup h.may, settled_count x⟩
/-- What the law answers, where the entry may not be. -/
theorem good_not {id at_ : Int} {m : MailP} (h : mayN (makeN id at_ m) = false) : mailB m 4 4096 ≠ 0 ∨ id < 1 ∨ 1099511627776 < id ∨ at_ < 0 ∨ 1099511627776 < at_ := by
  rw [may_make] at h
  unfold clockB at h
  simp only [Bool.and_eq_false_iff, decide_eq_false_iff_not] at h
  omega
end Go.Proofs.YtlpngibdplnieaaGreatDoor

/- notice.Make. -/
namespace Go.Proofs.YtlpngibdplnieaaGreatDoor
open Go Go.RowKit Go.Shelf Go.Sort
attribute [local go_sem] bneI

/-- Of whom is told; an entry's notice. -/
def failsOf (x : EntP) (l : List Nat) : List FlP := l.filterMap fun i => match x.mail.rcpts[i]?, x.fates[i]? with
  | some r, some f => some ⟨r.1, statusOf f.2, f.2⟩
  | _, _ => none
def notOf (host : Bytes) (x : EntP) (id : Int) : NotP := ⟨id, host, x.mail.sender, x.mail.envid, x.at_, failsOf x (badM x)⟩
def madeN (host : Bytes) (x : EntP) (id : Int) : NotP × Bool := if mayN x = true ∧ settledB x = true ∧ x.mail.sender ≠ [] ∧ mayNot (notOf host x id) = true then (notOf host x id, true) else (noNot, false)
theorem failsOf_succ {x : EntP} {l : List Nat} {k i : Nat} {r : RcP} {f : FaP} (hk : l[k]? = some i) (hr : x.mail.rcpts[i]? = some r) (hf : x.fates[i]? = some f) : failsOf x (l.take (k + 1)) = failsOf x (l.take k) ++ [⟨r.1, statusOf f.2, f.2⟩] := by
  obtain ⟨hi, rfl⟩ := List.getElem?_eq_some_iff.1 hk
  unfold failsOf
  rw [List.take_succ_eq_append_getElem hi, List.filterMap_append]
  simp [hr, hf]
theorem failsOf_len (x : EntP) (l : List Nat) : (failsOf x l).length ≤ l.length := List.length_filterMap_le _ _
theorem bad_in {x : EntP} {i : Nat} (h : i ∈ badM x) : i < x.mail.rcpts.length ∧ i < x.fates.length := by
  unfold badM plcM at h
  rw [plcB_mem] at h
  have := h.1
  rw [List.length_zip] at this
  omega
theorem bad_len (x : EntP) : (badM x).length ≤ x.fates.length := by
  unfold badM plcM
  refine Nat.le_trans (plcB_le _ _ _) ?_
  rw [List.length_zip]
  exact Nat.min_le_right _ _
theorem statusOf_len (s : Bytes) : (statusOf s).length ≤ s.length + 5 := by
  unfold statusOf
  cases h : (parts 32 s).find? statusB with
  | none => show 5 ≤ s.length + 5; omega
  | some b =>
    have := parts_le 32 s b (List.mem_of_find?_eq_some h)
    show b.length ≤ _
    omega
theorem fails_short {x : EntP} (hs : ShortE x) (ht : ∀ f ∈ x.fates, f.2.length ≤ 1000) (l : List Nat) : ∀ f ∈ failsOf x l, ShortF f := by
  intro g hg
  unfold failsOf at hg
  obtain ⟨i, _, he⟩ := List.mem_filterMap.1 hg
  cases hr : x.mail.rcpts[i]? with
  | none => rw [hr] at he; simp at he
  | some r =>
    cases hf : x.fates[i]? with
    | none => rw [hr, hf] at he; simp at he
    | some f =>
      rw [hr, hf] at he
      have he : (⟨r.1, statusOf f.2, f.2⟩ : FlP) = g := by simpa using he
      subst he
      have h1 := hs.mail.tos r (List.mem_of_getElem? hr)
      have h2 := ht f (List.mem_of_getElem? hf)
      have h3 := statusOf_len f.2
      exact ⟨h1, by show (statusOf f.2).length ≤ _; omega, by show f.2.length ≤ _; omega⟩
def setNot (W : World) (b : Nat) (v0 v1 v2 v3 v4 v5 : Value) : World := (((((W.setCell ⟨b, 0, none⟩ v0).setCell ⟨b, 1, none⟩ v1).setCell ⟨b, 2, none⟩ v2).setCell ⟨b, 3, none⟩ v3).setCell ⟨b, 4, none⟩ v4).setCell ⟨b, 5, none⟩ v5
theorem setNot_below {n : Nat} {W1 W : World} {b : Nat} (h : Below n W1 W) (hb : n ≤ b) (v0 v1 v2 v3 v4 v5 : Value) : Below n W1 (setNot W b v0 v1 v2 v3 v4 v5) :=
  (((((h.setCell (p := ⟨b, 0, none⟩) hb _).setCell (p := ⟨b, 1, none⟩) hb _).setCell (p := ⟨b, 2, none⟩) hb _).setCell (p := ⟨b, 3, none⟩) hb _).setCell (p := ⟨b, 4, none⟩) hb _).setCell (p := ⟨b, 5, none⟩) hb _
theorem setNot_box {W : World} {b : Nat} {z0 z1 z2 z3 z4 z5 : Value} {t : TypeId} (h : W.heap[b]? = some (.cells #[z0, z1, z2, z3, z4, z5] t (0, 0))) (v0 v1 v2 v3 v4 v5 : Value) :
    (setNot W b v0 v1 v2 v3 v4 v5).heap[b]? = some (.cells #[v0, v1, v2, v3, v4, v5] t (0, 0)) := by
  have h := heap_setE (off := 5) (v := v5) (heap_setE (off := 4) (v := v4) (heap_setE (off := 3) (v := v3) (heap_setE (off := 2) (v := v2) (heap_setE (off := 1) (v := v1) (heap_setE (off := 0) (v := v0) h)))))
  simp only [List.setIfInBounds_toArray, List.set_cons_succ, List.set_cons_zero] at h
  exact h
theorem own_setNot {W : World} {base b : Nat} {T : TypeId} {k n : Nat} {v : Value} {xs : List Value} {cs : Array Value} (h : W.ownsRow base T k v n xs) (hb : W.heap[b]? = some (.cells cs 34 (0, 0))) (hT : T ≠ 34) (v0 v1 v2 v3 v4 v5 : Value) : (setNot W b v0 v1 v2 v3 v4 v5).ownsRow base T k v n xs := by
  have b0 := heap_setE (off := 0) (v := v0) hb
  have b1 := heap_setE (off := 1) (v := v1) b0
  have b2 := heap_setE (off := 2) (v := v2) b1
  have b3 := heap_setE (off := 3) (v := v3) b2
  have b4 := heap_setE (off := 4) (v := v4) b3
  exact own_set1 (own_set1 (own_set1 (own_set1 (own_set1 (own_set1 h hb hT) b0 hT) b1 hT) b2 hT) b3 hT) b4 hT
def MakePost (host : Bytes) (x : EntP) (id : Int) (e : Ending) (w' : World) : Prop := ∃ av, e = .returned (.tuple #[notV (madeN host x id).1 av, .bool (madeN host x id).2]) ∧ RowK 3 flE w' av (madeN host x id).1.failed
set_option linter.unusedSimpArgs false in
set_option linter.unusedVariables false in
set_option maxRecDepth 1000000 in
set_option maxHeartbeats 16000000 in
theorem makeNot_any (host : Bytes) (x : EntP) (id : Int) (sv fv jv : Value) (w : World) (hx : EntAt w x sv fv jv) (hs : ShortE x) (hh : host.length ≤ maxLen) (hE : Env w) :
    Calls Tryz.prog 11 #[.string ⟨host.toArray⟩, entV x sv fv jv, .int .i64 id] w fun e w' => MakePost host x id e w' ∧ Below w.heap.size w w' := by
  obtain ⟨p1, c1, rfl, -⟩ := hx.rc.sh
  obtain ⟨p2, c2, rfl, -⟩ := hx.fa.sh
  obtain ⟨p3, c3, rfl, -⟩ := hx.jo.sh
  obtain ⟨W1, hW1⟩ : ∃ W1, W1 = (w.alloc (.cells (entC x (.slice p1 x.mail.rcpts.length c1) (.slice p2 x.fates.length c2) (.slice p3 x.jobs.length c3)).toArray 28)).alloc (.cells (notC noNot (.slice none 0 0)).toArray 34) := ⟨_, rfl⟩
  have hB1 : Below w.heap.size w W1 := by rw [hW1]; exact ((Below.refl _ w).alloc (Nat.le_refl _) _).alloc (by simp) _
  have hb1 : W1.heap[w.heap.size]? = some (.cells (entC x (.slice p1 x.mail.rcpts.length c1) (.slice p2 x.fates.length c2) (.slice p3 x.jobs.length c3)).toArray 28 (0, 0)) := by rw [hW1]; exact (ha_ne (by simp)).trans (ha_eq rfl)
  have hr1 : W1.heap[w.heap.size + 1]? = some (.cells (notC noNot (.slice none 0 0)).toArray 34 (0, 0)) := by rw [hW1]; exact ha_eq (by simp)
  have HX := Lib.hid (And.intro hx (And.intro hs (And.intro hE (And.intro hB1 (And.intro hb1 hr1)))))
  have hMy := may_any x _ _ _ W1 (hx.below hB1) hs (hE.keep hB1)
  have hmade : ∀ b : Bool, mayN x = b → b = false → madeN host x id = (noNot, false) := fun b h1 h2 => by unfold madeN; rw [if_neg]; rintro ⟨h, -⟩; rw [h1, h2] at h; cases h
  unfold entV at hMy ⊢
  unfold entC notC noNot at hW1
  unfold entC at hb1 hMy ⊢
  dsimp only at hW1
  obtain ⟨x0, x1, x2, x3, x4, x5, x6, x7, x8, x9⟩ := eboxAll hb1
  obtain ⟨bx, hbx⟩ : ∃ bx, bx = w.heap.size := ⟨_, rfl⟩
  obtain ⟨br, hbr⟩ : ∃ br, br = w.heap.size + 1 := ⟨_, rfl⟩
  have HBR := Lib.hid (show w.heap.size ≤ br by omega)
  have HBX := Lib.hid (And.intro hbx hbr)
  go_enter Tryz.func11, Tryz.ntmps11
  clear hx hs hE hB1 hr1 hb1 hbx hbr
  go_upto_region 1 with (fail)
  rw [← hW1]
  clear hW1
  have HBXE := HBX.out
  rw [← HBXE.2]
  rw [← HBXE.1] at x0 x1 x2 x3 x4 x5 x6 x7 x8 x9 ⊢
  clear HBXE
  have HX5 := Lib.hid (show W1.heap[br]? = some (.cells (notC noNot (.slice none 0 0)).toArray 34 (0, 0)) by rw [HBX.out.2]; exact HX.out.2.2.2.2.2)
  have HX4 := Lib.hid (show W1.heap[bx]? = some (.cells (entC x (.slice p1 x.mail.rcpts.length c1) (.slice p2 x.fates.length c2) (.slice p3 x.jobs.length c3)).toArray 28 (0, 0)) by rw [HBX.out.1]; exact HX.out.2.2.2.2.1)
  go_wp2_with fail
  refine hMy.mono ?_
  rintro e w2 ⟨rfl, hb2⟩
  have H2 := Lib.hid hb2
  clear hMy hb2 x0 x1 x2 x3 x4 x5 x6 x7 x8 x9
  cases hmy : mayN x with
  | false =>
    have hno := hmade false hmy rfl
    clear hmy hmade
    have hres := (H2.out.block _ (lt_of_cells HX5.out)).trans HX5.out
    have HRES := Lib.hid hres
    have HBB := Lib.hid (HX.out.2.2.2.1.trans (H2.out.mono HX.out.2.2.2.1.size))
    have HNO := Lib.hid (hno)
    unfold noNot notC at hres
    dsimp only at hres
    obtain ⟨c0, c1, c2, c3, c4, c5⟩ := nobox hres
    have f0 := efroz hres 0
    have f1 := efroz hres 1
    have f2 := efroz hres 2
    have f3 := efroz hres 3
    have f4 := efroz hres 4
    have f5 := efroz hres 5
    clear hres
    go_wp2
    clear c0 c1 c2 c3 c4 c5 f0 f1 f2 f3 f4 f5
    have hres := HRES.out
    unfold noNot notC at hres
    dsimp only at hres
    have hbz := setNot_box hres (.int .i64 0) (.string ⟨#[]⟩) (.string ⟨#[]⟩) (.string ⟨#[]⟩) (.int .i64 0) (.slice none 0 0)
    have hBz := setNot_below HBB.out HBR.out (.int .i64 0) (.string ⟨#[]⟩) (.string ⟨#[]⟩) (.string ⟨#[]⟩) (.int .i64 0) (.slice none 0 0)
    obtain ⟨w16, hw16⟩ : ∃ w16, w16 = setNot w2 br (.int .i64 0) (.string ⟨#[]⟩) (.string ⟨#[]⟩) (.string ⟨#[]⟩) (.int .i64 0) (.slice none 0 0) := ⟨_, rfl⟩
    rw [← hw16] at hbz hBz
    unfold setNot at hw16
    rw [← hw16]
    obtain ⟨t0, t1, t2, t3, t4, t5⟩ := nobox hbz
    refine bodyPost_ret (v := .tuple #[notV noNot (.slice none 0 0), .bool false]) (by simp [results, Tryz.results11, go_sem, t0, t1, t2, t3, t4, t5, notV, notC, noNot]) rfl ⟨⟨_, by rw [HNO.out], by rw [HNO.out]; exact RowK.nil⟩, hBz⟩
  | true =>
    have HMY := Lib.hid hmy
    have hSe := settled_any x _ _ _ w2 ((HX.out.1.below HX.out.2.2.2.1).below H2.out) HX.out.2.1
    have hbx := (H2.out.block _ (lt_of_cells HX4.out)).trans HX4.out
    unfold entV entC at hSe
    unfold entC at hbx
    obtain ⟨x0, x1, x2, x3, x4, x5, x6, x7, x8, x9⟩ := eboxAll hbx
    clear hbx hmy hmade
    go_wp2_with fail
    refine hSe.mono ?_
    rintro e w3 ⟨rfl, hb3⟩
    have H3 := Lib.hid (H2.out.trans (hb3.mono H2.out.size))
    clear hSe hb3 x0 x1 x2 x3 x4 x5 x6 x7 x8 x9
    have hbx := (H3.out.block _ (lt_of_cells HX4.out)).trans HX4.out
    unfold entC at hbx
    obtain ⟨x0, x1, x2, x3, x4, x5, x6, x7, x8, x9⟩ := eboxAll hbx
    clear hbx
    cases hse : settledB x with
    | false =>
      have hno : madeN host x id = (noNot, false) := by unfold madeN; rw [if_neg]; rintro ⟨-, h, -⟩; rw [hse] at h; cases h
      clear hse
      have hres := (H3.out.block _ (lt_of_cells HX5.out)).trans HX5.out
      have HRES := Lib.hid hres
      have HBB := Lib.hid (HX.out.2.2.2.1.trans (H3.out.mono HX.out.2.2.2.1.size))
      have HNO := Lib.hid (hno)
      unfold noNot notC at hres
      dsimp only at hres
      obtain ⟨c0, c1, c2, c3, c4, c5⟩ := nobox hres
      have f0 := efroz hres 0
      have f1 := efroz hres 1
      have f2 := efroz hres 2
      have f3 := efroz hres 3
      have f4 := efroz hres 4
      have f5 := efroz hres 5
      clear hres
      go_wp2
      clear c0 c1 c2 c3 c4 c5 f0 f1 f2 f3 f4 f5
      have hres := HRES.out
      unfold noNot notC at hres
      dsimp only at hres
      have hbz := setNot_box hres (.int .i64 0) (.string ⟨#[]⟩) (.string ⟨#[]⟩) (.string ⟨#[]⟩) (.int .i64 0) (.slice none 0 0)
      have hBz := setNot_below HBB.out HBR.out (.int .i64 0) (.string ⟨#[]⟩) (.string ⟨#[]⟩) (.string ⟨#[]⟩) (.int .i64 0) (.slice none 0 0)
      obtain ⟨w16, hw16⟩ : ∃ w16, w16 = setNot w3 br (.int .i64 0) (.string ⟨#[]⟩) (.string ⟨#[]⟩) (.string ⟨#[]⟩) (.int .i64 0) (.slice none 0 0) := ⟨_, rfl⟩
      rw [← hw16] at hbz hBz
      unfold setNot at hw16
      rw [← hw16]
      obtain ⟨t0, t1, t2, t3, t4, t5⟩ := nobox hbz
      refine bodyPost_ret (v := .tuple #[notV noNot (.slice none 0 0), .bool false]) (by simp [results, Tryz.results11, go_sem, t0, t1, t2, t3, t4, t5, notV, notC, noNot]) rfl ⟨⟨_, by rw [HNO.out], by rw [HNO.out]; exact RowK.nil⟩, hBz⟩
    | true =>
      have HSE := Lib.hid hse
      clear hse
      by_cases hsn : x.mail.sender = []
      · have hno : madeN host x id = (noNot, false) := by unfold madeN; rw [if_neg]; rintro ⟨-, -, h, -⟩; exact h hsn
        rw [hsn] at x2
        clear hsn
        have hres := (H3.out.block _ (lt_of_cells HX5.out)).trans HX5.out
        have HRES := Lib.hid hres
        have HBB := Lib.hid (HX.out.2.2.2.1.trans (H3.out.mono HX.out.2.2.2.1.size))
        have HNO := Lib.hid (hno)
        unfold noNot notC at hres
        dsimp only at hres
        obtain ⟨c0, c1, c2, c3, c4, c5⟩ := nobox hres
        have f0 := efroz hres 0
        have f1 := efroz hres 1
        have f2 := efroz hres 2
        have f3 := efroz hres 3
        have f4 := efroz hres 4
        have f5 := efroz hres 5
        clear hres
        go_wp2
        clear c0 c1 c2 c3 c4 c5 f0 f1 f2 f3 f4 f5
        have hres := HRES.out
        unfold noNot notC at hres
        dsimp only at hres
        have hbz := setNot_box hres (.int .i64 0) (.string ⟨#[]⟩) (.string ⟨#[]⟩) (.string ⟨#[]⟩) (.int .i64 0) (.slice none 0 0)
        have hBz := setNot_below HBB.out HBR.out (.int .i64 0) (.string ⟨#[]⟩) (.string ⟨#[]⟩) (.string ⟨#[]⟩) (.int .i64 0) (.slice none 0 0)
        obtain ⟨w16, hw16⟩ : ∃ w16, w16 = setNot w3 br (.int .i64 0) (.string ⟨#[]⟩) (.string ⟨#[]⟩) (.string ⟨#[]⟩) (.int .i64 0) (.slice none 0 0) := ⟨_, rfl⟩
        rw [← hw16] at hbz hBz
        unfold setNot at hw16
        rw [← hw16]
        obtain ⟨t0, t1, t2, t3, t4, t5⟩ := nobox hbz
        refine bodyPost_ret (v := .tuple #[notV noNot (.slice none 0 0), .bool false]) (by simp [results, Tryz.results11, go_sem, t0, t1, t2, t3, t4, t5, notV, notC, noNot]) rfl ⟨⟨_, by rw [HNO.out], by rw [HNO.out]; exact RowK.nil⟩, hBz⟩
      · have HSN := Lib.hid hsn
        have hsn2 : (x.mail.sender == []) = false := by simpa using hsn
        have hsn3 : x.mail.sender.isEmpty = false := by simpa using hsn
        have hsn4 : ¬ (⟨x.mail.sender.toArray⟩ : ByteArray) = ⟨#[]⟩ := fun e => hsn (by injection e with e; have := congrArg Array.toList e; simpa using this)
        go_upto_region 4 with (fail)
        clear hsn hsn2 hsn3 hsn4 x0 x1 x2 x3 x4 x5 x6 x7 x8 x9
        have hal : Below w3.heap.size w3 (w3.alloc (.cells (notC (notOf host x id) (.slice none 0 0)).toArray 34)) := (Below.refl _ _).alloc (Nat.le_refl _) _
        have hxn : (w3.alloc (.cells (notC (notOf host x id) (.slice none 0 0)).toArray 34)).heap[w3.heap.size]? = some (.cells (notC (notOf host x id) (.slice none 0 0)).toArray 34 (0, 0)) := ha_eq rfl
        unfold notC notOf at hal hxn
        dsimp only at hal hxn
        generalize hw4 : World.alloc w3 _ = w4 at hal hxn ⊢
        obtain ⟨bq, hbq⟩ : ∃ bq, bq = w3.heap.size := ⟨_, rfl⟩
        rw [← hbq] at hxn ⊢
        have hgeq : w.heap.size ≤ bq := by rw [hbq]; exact Nat.le_trans HX.out.2.2.2.1.size H3.out.size
        have hnr : br ≠ bq := by have h1 := lt_of_cells HX5.out; have h2 := H3.out.size; omega
        have H4 := Lib.hid (And.intro (H3.out.trans (hal.mono H3.out.size)) (And.intro (show w4.heap[bq]? = some (.cells (notC (notOf host x id) (.slice none 0 0)).toArray 34 (0, 0)) from hxn) (And.intro hgeq hnr)))
        clear hw4 hbq hal hxn hgeq hnr
        have hBa := bad_any x _ _ _ w4 ((HX.out.1.below HX.out.2.2.2.1).below H4.out.1) HX.out.2.1
        have hbx := (H4.out.1.block _ (lt_of_cells HX4.out)).trans HX4.out
        unfold entV entC at hBa
        unfold entC at hbx
        obtain ⟨x0, x1, x2, x3, x4, x5, x6, x7, x8, x9⟩ := eboxAll hbx
        clear hbx
        go_wp2_with fail
        refine hBa.mono ?_
        rintro e w5 ⟨⟨lv, rfl, hlo⟩, hb5⟩
        clear hBa x0 x1 x2 x3 x4 x5 x6 x7 x8 x9
        obtain ⟨lp, lc, rfl⟩ := own_shape hlo
        have hM5 : MkB w x bx bq br (notOf host x id) (.slice none 0 0) (.slice p1 x.mail.rcpts.length c1) (.slice p2 x.fates.length c2) (.slice p3 x.jobs.length c3) (.slice lp (badM x).length lc) (badM x) w5 := by
          have h45 := H4.out.1.trans (hb5.mono H4.out.1.size)
          have hge := HX.out.2.2.2.1.trans (H4.out.1.mono HX.out.2.2.2.1.size)
          exact ⟨HX.out.2.2.2.1.trans (h45.mono HX.out.2.2.2.1.size), (h45.block _ (lt_of_cells HX4.out)).trans HX4.out, (hb5.block _ (lt_of_cells H4.out.2.1)).trans H4.out.2.1, H4.out.2.2.1, (h45.block _ (lt_of_cells HX5.out)).trans HX5.out, H4.out.2.2.2, ownsRow_less hlo (by have := hge.size; omega)⟩
        have HM5 := Lib.hid hM5
        have hbl := Nat.le_trans (bad_len x) HX.out.2.1.fates
        have hfx := few_may ((mayN_iff x).1 HMY.out) HX.out.2.1.mail
        have hb4 : (badM x).length ≤ 4 := Nat.le_trans (bad_len x) hfx.fates
        have hft : ∀ f ∈ x.fates, f.2.length ≤ 1000 := fun f hf => by have := (wrong_lens (hfx.may.fates f hf)).2; omega
        have HFT := Lib.hid hft
        clear hlo hb5 hM5 hbl hfx hft
        obtain ⟨nn, hnn⟩ : ∃ nn, nn = notOf host x id := ⟨_, rfl⟩
        rw [← hnn] at HM5
        have HNN := Lib.hid hnn
        clear hnn
        go_wp2_with fail
        go_loopw [40] (fun s40 wr => ∃ (k : Nat) (av : Value), s40 = .int .i64 (k : Int) ∧ k ≤ (badM x).length ∧ MkB w x bx bq br nn av (.slice p1 x.mail.rcpts.length c1) (.slice p2 x.fates.length c2) (.slice p3 x.jobs.length c3) (.slice lp (badM x).length lc) (badM x) wr ∧ wr.ownsRow w.heap.size 55 3 av (failsOf x ((badM x).take k)).length ((failsOf x ((badM x).take k)).flatMap flE)) (fun s40 _ => (badM x).length - natI s40)
        case atStart => exact ⟨0, .slice none 0 0, rfl, Nat.zero_le _, HM5.out, ⟨rfl, .inl ⟨rfl, rfl⟩⟩⟩
        case round =>
          obtain ⟨k, av, rfl, hk, hM, ho⟩ := hrel
          have HM := Lib.hid (And.intro hM ho)
          by_cases hlast : k < (badM x).length
          · have hli : (k : Int) < ((badM x).length : Int) := by omega
            have hw1 : wrap64 ((k : Int) + 1) = (k : Int) + 1 := by unfold wrap64; omega
            obtain ⟨b3, o3, rfl, hc3⟩ := (own_nat hM.bad).at k hlast
            obtain ⟨i, hi⟩ : ∃ i, (badM x)[k]? = some i := ⟨_, List.getElem?_eq_getElem hlast⟩
            have hie : (badM x)[k] = i := by rw [List.getElem?_eq_getElem hlast] at hi; injection hi
            have hc3' := hc3 k hlast
            rw [hie] at hc3'
            have z0 : wr.cell? ⟨b3, o3 + k, none⟩ = some (.int .i64 (i : Int)) := by have := hc3' 0 _ rfl; simpa [natV] using this
            have hin := bad_in (List.mem_of_getElem? hi)
            obtain ⟨r, hr⟩ : ∃ r, x.mail.rcpts[i]? = some r := ⟨_, List.getElem?_eq_getElem hin.1⟩
            obtain ⟨f, hf⟩ : ∃ f, x.fates[i]? = some f := ⟨_, List.getElem?_eq_getElem hin.2⟩
            have hsu := failsOf_succ hi hr hf
            have HSU := Lib.hid hsu
            have hal : (failsOf x ((badM x).take k)).length ≤ 1000 := by
              have h1 := failsOf_len x ((badM x).take k)
              rw [List.length_take] at h1
              omega
            clear hc3 hc3' hie hM ho hsu hi hin
            go_upto_region 7 with (fail)
            clear z0
            refine makeR7 _ w x bx bq br nn av _ _ _ _ (badM x) (failsOf x ((badM x).take k)) i r f wr HM.out.1 HM.out.2 HX.out.1 hr hf (by have := HFT.out f (List.mem_of_getElem? hf); omega) hal HX.out.2.2.1 (fun _ _ _ _ _ h => h) ?_
            rintro v44 v45 v46 v47 v48 v49 v50 v51 v52 v53 v54 v55 v56 v57 v58 v59 v60 v61 v62 v63 v64 v65 v66 v67 v68 v69 w8 ⟨av', hM8, ho8⟩
            rw [← HSU.out] at ho8
            have H8 := Lib.hid (And.intro hM8 ho8)
            clear hM8 ho8 hr hf hal
            go_wp2
            go_roundw
            case rel => exact ⟨k + 1, av', by simp, by omega, H8.out.1, H8.out.2⟩
            case measure => simp [natI]; omega
          · have hli : ¬ (k : Int) < ((badM x).length : Int) := by omega
            rw [List.take_of_length_le (by omega)] at ho
            clear HM
            obtain ⟨ap, ac, rfl⟩ := own_shape ho
            have HM := Lib.hid (And.intro hM ho)
            have hnf : nn.failed = failsOf x (badM x) := by rw [HNN.out]; rfl
            have hro : RowK 3 flE wr (.slice ap (failsOf x (badM x)).length ac) nn.failed := by rw [hnf]; exact own_rowK (k := 3) (enc := flE) (fun _ => rfl) ho
            have hsn : ShortN nn := by
              rw [HNN.out]
              refine ⟨hh, HX.out.2.1.mail.sender, HX.out.2.1.mail.envid, ?_, fails_short HX.out.2.1 HFT.out _⟩
              have h1 := failsOf_len x (badM x)
              show (failsOf x (badM x)).length ≤ _
              omega
            have hMn := mayNot_any nn _ wr hro hsn (HX.out.2.2.1.keep hM.below)
            have hbx := hM.nb
            have HRO := Lib.hid (And.intro hro hnf)
            unfold notV at hMn
            unfold notC at hbx hMn
            obtain ⟨x0, x1, x2, x3, x4, x5⟩ := nobox hbx
            clear hM ho hnf hro hsn hbx
            go_wp2_with fail
            refine hMn.mono ?_
            rintro e w9 ⟨rfl, hb9⟩
            have hM9 := HM.out.1.keep hb9
            have HM9 := Lib.hid hM9
            have HRO9 := Lib.hid (HRO.out.1.below hb9)
            have hO9 := Lib.hid (HM.out.2.kept (grownBy_of_below hb9 none) (Classical.em _))
            clear hMn hb9 x0 x1 x2 x3 x4 x5
            cases hmn : mayNot nn with
            | false =>
              have hno : madeN host x id = (noNot, false) := by unfold madeN; rw [if_neg]; rintro ⟨-, -, -, h⟩; rw [← HNN.out, hmn] at h; cases h
              clear hmn hM9
              have hres := HM9.out.res
              have HRES := Lib.hid hres
              have HBB := Lib.hid (HM9.out.below)
              have HNO := Lib.hid (hno)
              unfold noNot notC at hres
              dsimp only at hres
              obtain ⟨c0, c1, c2, c3, c4, c5⟩ := nobox hres
              have f0 := efroz hres 0
              have f1 := efroz hres 1
              have f2 := efroz hres 2
              have f3 := efroz hres 3
              have f4 := efroz hres 4
              have f5 := efroz hres 5
              clear hres
              go_wp2
              clear c0 c1 c2 c3 c4 c5 f0 f1 f2 f3 f4 f5
              have hres := HRES.out
              unfold noNot notC at hres
              dsimp only at hres
              have hbz := setNot_box hres (.int .i64 0) (.string ⟨#[]⟩) (.string ⟨#[]⟩) (.string ⟨#[]⟩) (.int .i64 0) (.slice none 0 0)
              have hBz := setNot_below HBB.out HBR.out (.int .i64 0) (.string ⟨#[]⟩) (.string ⟨#[]⟩) (.string ⟨#[]⟩) (.int .i64 0) (.slice none 0 0)
              obtain ⟨w16, hw16⟩ : ∃ w16, w16 = setNot w9 br (.int .i64 0) (.string ⟨#[]⟩) (.string ⟨#[]⟩) (.string ⟨#[]⟩) (.int .i64 0) (.slice none 0 0) := ⟨_, rfl⟩
              rw [← hw16] at hbz hBz
              unfold setNot at hw16
              rw [← hw16]
              obtain ⟨t0, t1, t2, t3, t4, t5⟩ := nobox hbz
              refine bodyPost_ret (v := .tuple #[notV noNot (.slice none 0 0), .bool false]) (by simp [results, Tryz.results11, go_sem, t0, t1, t2, t3, t4, t5, notV, notC, noNot]) rfl ⟨⟨_, by rw [HNO.out], by rw [HNO.out]; exact RowK.nil⟩, hBz⟩
            | true =>
              have hyes : madeN host x id = (nn, true) := by unfold madeN; rw [if_pos ⟨HMY.out, HSE.out, HSN.out, by rw [← HNN.out]; exact hmn⟩, ← HNN.out]
              have HYES := Lib.hid hyes
              have hbx := hM9.nb
              have hres := hM9.res
              have HRES := Lib.hid hres
              unfold noNot notC at hres
              dsimp only at hres
              unfold notC at hbx
              obtain ⟨x0, x1, x2, x3, x4, x5⟩ := nobox hbx
              obtain ⟨c0, c1, c2, c3, c4, c5⟩ := nobox hres
              have f0 := efroz hres 0
              have f1 := efroz hres 1
              have f2 := efroz hres 2
              have f3 := efroz hres 3
              have f4 := efroz hres 4
              have f5 := efroz hres 5
              clear hres hbx hmn hyes hM9
              go_wp2
              clear c0 c1 c2 c3 c4 c5 f0 f1 f2 f3 f4 f5 x0 x1 x2 x3 x4 x5
              have hres := HRES.out
              unfold noNot notC at hres
              dsimp only at hres
              have hbz := setNot_box hres (.int .i64 nn.id) (.string ⟨nn.host.toArray⟩) (.string ⟨nn.dest.toArray⟩) (.string ⟨nn.envid.toArray⟩) (.int .i64 nn.at_) (.slice ap (failsOf x (badM x)).length ac)
              have hBz := setNot_below HM9.out.below HBR.out (.int .i64 nn.id) (.string ⟨nn.host.toArray⟩) (.string ⟨nn.dest.toArray⟩) (.string ⟨nn.envid.toArray⟩) (.int .i64 nn.at_) (.slice ap (failsOf x (badM x)).length ac)
              have hOz := own_setNot hO9.out hres (by decide) (.int .i64 nn.id) (.string ⟨nn.host.toArray⟩) (.string ⟨nn.dest.toArray⟩) (.string ⟨nn.envid.toArray⟩) (.int .i64 nn.at_) (.slice ap (failsOf x (badM x)).length ac)
              obtain ⟨w16, hw16⟩ : ∃ w16, w16 = setNot w9 br (.int .i64 nn.id) (.string ⟨nn.host.toArray⟩) (.string ⟨nn.dest.toArray⟩) (.string ⟨nn.envid.toArray⟩) (.int .i64 nn.at_) (.slice ap (failsOf x (badM x)).length ac) := ⟨_, rfl⟩
              rw [← hw16] at hbz hBz hOz
              unfold setNot at hw16
              rw [← hw16]
              obtain ⟨t0, t1, t2, t3, t4, t5⟩ := nobox hbz
              refine bodyPost_ret (v := .tuple #[notV nn (.slice ap (failsOf x (badM x)).length ac), .bool true]) (by simp [results, Tryz.results11, go_sem, t0, t1, t2, t3, t4, t5, notV, notC, noNot]) rfl ⟨⟨_, by rw [HYES.out], by rw [HYES.out]; show RowK 3 flE _ _ nn.failed; rw [HRO.out.2]; exact own_rowK (k := 3) (enc := flE) (fun _ => rfl) hOz⟩, hBz⟩
end Go.Proofs.YtlpngibdplnieaaGreatDoor
