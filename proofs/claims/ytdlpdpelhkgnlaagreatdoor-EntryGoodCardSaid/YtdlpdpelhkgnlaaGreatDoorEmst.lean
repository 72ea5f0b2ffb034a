/- entry.Most. -/
import Derived.Test.YtdlpdpelhkgnlaaGreatDoorEmla
import Derived.Test.YtdlpdpelhkgnlaaGreatDoorEmk
import Derived.Test.YtdlpdpelhkgnlaaGreatDoorEenw
import Derived.Test.YtdlpdpelhkgnlaaGreatDoorEown
import Derived.Lib.Repeat
namespace Go.Proofs.YtdlpdpelhkgnlaaGreatDoor
open Go Go.RowKit Go.Shelf Go.Sort
attribute [local go_sem] bneI

theorem repeat_any (c : UInt8) (w : World) : Calls Tryz.prog 61 #[.string ⟨#[c]⟩, .int .i64 128] w fun e w' => e = .returned (.string ⟨(List.replicate 128 c).toArray⟩) ∧ Below w.heap.size w w' := by
  have h := Tryz.strings_Repeat ⟨#[c]⟩ 128 w (by decide) (by show 1 * 128 ≤ _; decide)
  have e := Lib.repeatL_replicate c 1 128
  rw [show (⟨#[c]⟩ : ByteArray).data.toList = List.replicate 1 c from rfl, e] at h
  exact h
theorem fates_mem {t : Bytes} {n i : Nat} {f : FaP} (h : f ∈ fatF t n i) : f = (2, t) ∨ f = (0, []) := by
  unfold fatF at h
  rcases List.mem_append.1 h with h | h
  · exact .inl (List.eq_of_mem_replicate h)
  · exact .inr (List.eq_of_mem_replicate h)
theorem foldB_len {s d : Bytes} (h : foldB s = some d) : d.length ≤ 253 := by
  unfold foldB at h
  split at h
  · rename_i hm
    injection h with h
    rw [← h]
    unfold mayB at hm
    simp only [Bool.and_eq_true, decide_eq_true_eq] at hm
    exact hm.1.1
  · cases h
theorem parseB_len {s l d : Bytes} (h : parseB s = some (l, d)) : d.length ≤ 253 := by
  unfold parseB at h
  split at h
  · split at h
    · cases h
    · obtain ⟨e, he, h2⟩ := Option.map_eq_some_iff.1 h
      injection h2 with _ h2
      rw [← h2]; exact foldB_len he
  · cases h
theorem doms_short {rs : List RcP} {d : Bytes} (h : d ∈ domsM rs) : d.length ≤ 253 := by
  have h := (domsM_mem rs d).1 h
  unfold domsOf at h
  obtain ⟨r, _, hr⟩ := List.mem_filterMap.1 h
  obtain ⟨p, hp, e⟩ := Option.map_eq_some_iff.1 hr
  obtain ⟨l, d2⟩ := p
  cases e
  exact parseB_len hp
theorem shortFull {c : UInt8} {m : MailP} (h : ShortM m) : ShortE (fullN c m) := by
  have hd : ∀ d ∈ domsM m.rcpts, d.length ≤ 1000000 := fun d hd => by
    have := doms_short hd
    omega
  refine ⟨h, ?_, ?_, ?_, ?_, ?_⟩
  · show (List.replicate m.rcpts.length _).length ≤ _
    rw [List.length_replicate]; exact h.rcpts
  · show ((domsM m.rcpts).map _).length ≤ _
    rw [List.length_map]
    have := domsM_len m.rcpts
    have := h.rcpts
    omega
  · intro f hf
    have : f = (2, List.replicate 128 c) := List.eq_of_mem_replicate hf
    rw [this]; show 2 < 256; decide
  · intro f hf
    have : f = (2, List.replicate 128 c) := List.eq_of_mem_replicate hf
    rw [this]
    show (List.replicate 128 c).length ≤ _
    rw [List.length_replicate]; decide
  · intro j hj
    obtain ⟨d, hdm, rfl⟩ := List.mem_map.1 hj
    exact hd d hdm
theorem ful_start {w W1 w2 : World} {t : Bytes} {m : MailP} {p1 p2 p3 : Option Addr} {c1 c2 c3 : Nat} (hB1 : Below w.heap.size w W1) (hb2 : Below W1.heap.size W1 w2)
    (ho : OwnE w2 W1.heap.size (makeN 1099511627776 1099511627776 m) (.slice p1 m.rcpts.length c1) (.slice p2 m.rcpts.length c2) (.slice p3 (domsM m.rcpts).length c3)) :
    FuL w (wayN t m 0 0) w2.heap.size W1.heap.size (.slice p1 m.rcpts.length c1) (.slice p2 m.rcpts.length c2) (.slice p3 (domsM m.rcpts).length c3) (w2.alloc (.cells (entC (makeN 1099511627776 1099511627776 m) (.slice p1 m.rcpts.length c1) (.slice p2 m.rcpts.length c2) (.slice p3 (domsM m.rcpts).length c3)).toArray 32)) := by
  have k : ∀ {T : TypeId} {s : Nat} {v : Value} {n : Nat} {xs : List Value} (o : Obj), w2.ownsRow W1.heap.size T s v n xs → (w2.alloc o).ownsRow W1.heap.size T s v n xs := fun o h => h.kept (World.grownBy_alloc w2 _ none) (Classical.em _)
  rw [wayN_zero]
  exact ⟨(hB1.trans (hb2.mono hB1.size)).alloc (by have := hB1.size; have := hb2.size; omega) _, ha_eq rfl, ⟨k _ ho.rc, k _ ho.fa, k _ ho.jo⟩, hB1.size⟩
theorem make_rc (i a : Int) (m : MailP) : (makeN i a m).mail.rcpts.length = m.rcpts.length := rfl
theorem make_lens (i a : Int) (m : MailP) : (makeN i a m).fates.length = m.rcpts.length ∧ (makeN i a m).jobs.length = (domsM m.rcpts).length := ⟨by simp [makeN], by simp [makeN]⟩
set_option maxRecDepth 100000 in
set_option maxHeartbeats 8000000 in
theorem most_any (m : MailP) (sv : Value) (w : World) (hr : RowK 2 rcE w sv m.rcpts) (hs : ShortM m) (hE : Env w) :
    Calls Tryz.prog 19 #[mailV m sv] w fun e w' => e = .returned (.int .i64 (mostN m : Int)) ∧ Below w.heap.size w w' := by
  obtain ⟨p, c, rfl, -⟩ := hr.sh
  obtain ⟨W1, hW1⟩ : ∃ W1, W1 = (w.alloc (.cells (mailC m (.slice p m.rcpts.length c)).toArray 24)) := ⟨_, rfl⟩
  have hB1 : Below w.heap.size w W1 := by rw [hW1]; exact (Below.refl _ w).alloc (Nat.le_refl _) _
  have hb1 : W1.heap[w.heap.size]? = some (.cells (mailC m (.slice p m.rcpts.length c)).toArray 24 (0, 0)) := by rw [hW1]; exact ha_eq rfl
  have hMk := make_any 1099511627776 1099511627776 m (.slice p m.rcpts.length c) W1 (hr.below hB1) hs (hE.keep hB1)
  have HX := Lib.hid (And.intro hs (And.intro hE hB1))
  unfold mailV at hMk ⊢
  unfold mailC at hMk hW1 hb1 ⊢
  obtain ⟨x0, x1, x2, x3, x4⟩ := mbox hb1
  clear hr hs hE hB1 hb1
  go_enter Tryz.func19, Tryz.ntmps19
  go_upto_region 1 with (fail)
  rw [← hW1]
  clear hW1
  go_wp2_with fail
  refine hMk.mono ?_
  rintro e w2 ⟨⟨rv, fv, jv, rfl, hown⟩, hb2⟩
  clear hMk x0 x1 x2 x3 x4
  obtain ⟨p1, c1, rfl⟩ := own_shape hown.rc
  obtain ⟨p2, c2, rfl⟩ := own_shape hown.fa
  obtain ⟨p3, c3, rfl⟩ := own_shape hown.jo
  rw [make_rc, (make_lens _ _ m).1, (make_lens _ _ m).2] at hown
  rw [make_rc, (make_lens _ _ m).1, (make_lens _ _ m).2]
  have HO := Lib.hid (And.intro hown hb2)
  clear hown hb2
  unfold entV entC
  go_upto_region 2 with (fail)
  have hFu := ful_start (t := List.replicate 128 119) HX.out.2.2 HO.out.2 HO.out.1
  unfold entC at hFu
  generalize hW3 : World.alloc w2 _ = w3 at hFu ⊢
  clear hW3
  have hfree : w.heap.size ≤ W1.heap.size := HX.out.2.2.size
  obtain ⟨bx, hbx⟩ : ∃ bx, bx = w2.heap.size := ⟨_, rfl⟩
  rw [← hbx] at hFu ⊢
  have HFu := Lib.hid hFu
  have y8 := hFu.c8
  have hn := HX.out.1.rcpts
  clear hFu hbx hfree
  go_wp2_with fail
  clear y8
  go_loopw [4, 13] (fun _ s13 wr => ∃ i : Nat, s13 = .int .i64 (i : Int) ∧ i ≤ m.rcpts.length ∧ FuL w (wayN (List.replicate 128 119) m i 0) bx W1.heap.size (.slice p1 m.rcpts.length c1) (.slice p2 m.rcpts.length c2) (.slice p3 (domsM m.rcpts).length c3) wr) (fun _ s13 _ => m.rcpts.length - natI s13)
  case atStart => exact ⟨0, rfl, Nat.zero_le _, HFu.out⟩
  case round =>
    obtain ⟨i, rfl, hi, hF⟩ := hrel
    have HF := Lib.hid hF
    clear hF
    by_cases hlast : i < m.rcpts.length
    · have hli : (i : Int) < (m.rcpts.length : Int) := by omega
      have q8 := BW.cell HF.out.c8
      have hS := BW.calls (w := wr) (fun W _ => repeat_any 119 W)
      have hw1 : wrap64 ((i : Int) + 1) = (i : Int) + 1 := by unfold wrap64; omega
      obtain ⟨g, rfl, -, -, -⟩ := HF.out.put (wayN_fates _ _ (by omega)) hlast
      go_upto_region 5 with (fail)
      refine wp_region_quiet_tail (C := fun w' => ∃ p : BW wr, w' = p.v) 6 (by kernel_rfl) (by kernel_rfl) ⟨⟨wr.drew, ⟨rfl, rfl, rfl, Nat.le_refl _, fun _ _ => rfl⟩⟩, rfl⟩ ?_
      simp only [List.take_succ_cons, List.take_zero, List.drop_succ_cons, List.drop_zero]
      repeat (go_big_quiet_step (exact hS _))
      refine wpQuiet_nil ?_
      rintro W5 ⟨⟨W5, hB5⟩, rfl⟩
      obtain ⟨g', e, ⟨u0, u1, v0, v1⟩, hfz, hst⟩ := (HF.out.keep hB5).put (wayN_fates _ _ (by omega)) hlast
      cases e
      have hst := hst (2, List.replicate 128 119)
      rw [wayN_set _ _ hlast] at hst
      have HS := Lib.hid hst
      have f0 := hfz (i * 2)
      have f1 := hfz (i * 2 + 1)
      clear hst hfz q8 hS hB5
      go_wp2
      go_roundw
      case rel => exact ⟨i + 1, by simp, by omega, HS.out⟩
      case measure => simp [natI]; omega
    · have hli : ¬ (i : Int) < (m.rcpts.length : Int) := by omega
      have hie : i = m.rcpts.length := by omega
      subst hie
      have y9 := HF.out.c9
      have hdn : (domsM m.rcpts).length ≤ 1000000 := by have := domsM_len m.rcpts; omega
      go_upto_region 8 with (fail)
      clear y9
      generalize hww : wr = wq at *
      clear hww
      go_loopw [5, 26] (fun _ s26 wr => ∃ k : Nat, s26 = .int .i64 (k : Int) ∧ k ≤ (domsM m.rcpts).length ∧ FuL w (wayN (List.replicate 128 119) m m.rcpts.length k) bx W1.heap.size (.slice p1 m.rcpts.length c1) (.slice p2 m.rcpts.length c2) (.slice p3 (domsM m.rcpts).length c3) wr) (fun _ s26 _ => (domsM m.rcpts).length - natI s26)
      case atStart => exact ⟨0, rfl, Nat.zero_le _, HF.out⟩
      case round =>
        obtain ⟨k, rfl, hk, hF⟩ := hrel
        have HF2 := Lib.hid hF
        clear hF
        by_cases hkl : k < (domsM m.rcpts).length
        · have hli2 : (k : Int) < ((domsM m.rcpts).length : Int) := by omega
          have hw1 : wrap64 ((k : Int) + 1) = (k : Int) + 1 := by unfold wrap64; omega
          have y9 := HF2.out.c9
          obtain ⟨g, rfl, ⟨u, v0⟩, hfz, hst⟩ := HF2.out.try (wayN_jobs _ _ _ _) hkl
          rw [wayN_try _ _ hkl] at hst
          have HS := Lib.hid hst
          have f0 := hfz (k * 3 + 1)
          clear hst hfz
          go_wp2
          go_roundw
          case rel => exact ⟨k + 1, by simp, by omega, HS.out⟩
          case measure => simp [natI]; omega
        · have hli2 : ¬ (k : Int) < ((domsM m.rcpts).length : Int) := by omega
          have hke : k = (domsM m.rcpts).length := by omega
          subst hke
          have hfu := HF2.out
          rw [wayN_all] at hfu
          have HF3 := Lib.hid hfu
          have hEn := encode_any (fullN 119 m) _ _ _ wr hfu.own.at (shortFull HX.out.1) (HX.out.2.1.keep hfu.below)
          have hbx2 := hfu.box
          unfold entC at hbx2
          obtain ⟨t0, t1, t2, t3, t4, t5, t6, t7, t8, t9⟩ := eboxAll hbx2
          unfold entV entC at hEn
          clear hfu hbx2
          go_wp2_with fail
          refine hEn.mono ?_
          rintro e w7 ⟨hp, hb7⟩
          have HB := Lib.hid (HF3.out.below.trans (hb7.mono HF3.out.below.size))
          clear hEn t0 t1 t2 t3 t4 t5 t6 t7 t8 t9 hb7
          have hmo : mostN m = if mayN (fullN 119 m) then (encB (fullN 119 m)).length else 0 := rfl
          rcases hp with ⟨hy, rfl⟩ | ⟨hy, rfl⟩
          · rw [if_pos hy] at hmo
            have HM := Lib.hid hmo
            clear hmo hy
            go_wp2
            refine bodyPost_ret (v := .int .i64 ((encB (fullN 119 m)).length : Int)) (by simp [results, Tryz.results19, go_sem]) rfl ⟨by rw [HM.out], HB.out⟩
          · rw [hy, if_neg (by simp)] at hmo
            have HM := Lib.hid hmo
            clear hmo hy
            go_wp2
            refine bodyPost_ret (v := .int .i64 0) (by simp [results, Tryz.results19, go_sem]) rfl ⟨by rw [HM.out]; rfl, HB.out⟩
end Go.Proofs.YtdlpdpelhkgnlaaGreatDoor
