/- NoticeBack: for every notice and every text the law returns true, and the arguments read behind the call as they read before; the listed variables are tied to the text of the seat's pruned copy of the project. -/
import Derived.Test.YtlpngibdplnieaaGreatDoorEcde
import Derived.Test.YtlpngibdplnieaaGreatDoorMr
import Derived.Test.YtlpngibdplnieaaGreatDoorCards
import Derived.Test.YtlpngibdplnieaaGreatDoorTie
import Derived.SevenTiedAt
import Derived.ChangeMaps5
namespace Go.Proofs.YtlpngibdplnieaaGreatDoor
open Go Go.ChangeShapes Go.WideShapes Go.ChangeAt Go.RowKit Go.Deep

theorem flFields : ∃ f0 f1 f2, Tryz.prog.underlying 55 = some (.struct #[f0, f1, f2]) ∧ (f0.type = 9 ∧ f1.type = 9 ∧ f2.type = 9) ∧ f0.offset = 0 ∧ f1.offset = 1 ∧ f2.offset = 2 := by
  have h : ((Tryz.prog.fieldsOf 55).toList.map fun f => (f.type, f.offset)) = [(9, 0), (9, 1), (9, 2)] := by kernel_rfl
  have h2 : Tryz.prog.underlying 55 = some (.struct (Tryz.prog.fieldsOf 55)) := by kernel_rfl
  rw [h2]
  obtain ⟨fs, hfs⟩ : ∃ fs, fs = Tryz.prog.fieldsOf 55 := ⟨_, rfl⟩
  rw [← hfs] at h ⊢
  clear h2 hfs
  obtain ⟨fs⟩ := fs
  rcases fs with _ | ⟨f0, _ | ⟨f1, _ | ⟨f2, _ | ⟨f3, fs⟩⟩⟩⟩ <;> simp at h
  exact ⟨f0, f1, f2, rfl, ⟨h.1.1, h.2.1.1, h.2.2.1⟩, h.1.2, h.2.1.2, h.2.2.2⟩
theorem notFields : ∃ f0 f1 f2 f3 f4 f5, Tryz.prog.underlying 34 = some (.struct #[f0, f1, f2, f3, f4, f5]) ∧ (f0.type = 3 ∧ f1.type = 9 ∧ f2.type = 9 ∧ f3.type = 9 ∧ f4.type = 3 ∧ f5.type = 32) ∧ f0.offset = 0 ∧ f1.offset = 1 ∧ f2.offset = 2 ∧ f3.offset = 3 ∧ f4.offset = 4 ∧ f5.offset = 5 := by
  have h : ((Tryz.prog.fieldsOf 34).toList.map fun f => (f.type, f.offset)) = [(3, 0), (9, 1), (9, 2), (9, 3), (3, 4), (32, 5)] := by kernel_rfl
  have h2 : Tryz.prog.underlying 34 = some (.struct (Tryz.prog.fieldsOf 34)) := by kernel_rfl
  rw [h2]
  obtain ⟨fs, hfs⟩ : ∃ fs, fs = Tryz.prog.fieldsOf 34 := ⟨_, rfl⟩
  rw [← hfs] at h ⊢
  clear h2 hfs
  obtain ⟨fs⟩ := fs
  rcases fs with _ | ⟨f0, _ | ⟨f1, _ | ⟨f2, _ | ⟨f3, _ | ⟨f4, _ | ⟨f5, _ | ⟨f6, fs⟩⟩⟩⟩⟩⟩⟩ <;> simp at h
  exact ⟨f0, f1, f2, f3, f4, f5, rfl, ⟨h.1.1, h.2.1.1, h.2.2.1.1, h.2.2.2.1.1, h.2.2.2.2.1.1, h.2.2.2.2.2.1⟩, h.1.2, h.2.1.2, h.2.2.1.2, h.2.2.2.1.2, h.2.2.2.2.1.2, h.2.2.2.2.2.2⟩
theorem kFl : Tryz.prog.cellsOf 55 = 3 := by kernel_rfl
theorem kNot : Tryz.prog.cellsOf 34 = 6 := by kernel_rfl
theorem kFls : Tryz.prog.cellsOf 32 = 1 := by kernel_rfl
section rows
variable {H : Type} {enc : TypeId × Value → H}
variable {W : World} {base : Nat} {spare : Nat → Bool} {held : Bool} {n : Nat}
set_option maxRecDepth 100000 in
theorem open_fl {cs : List Value} {x : DataW H × List MemPlace} (hcl : cs.length = 3) (ht : DataW.trod enc Tryz.prog W base spare held n 55 cs = some x) : ∃ f : FlP, True ∧ flE f = cs := by
  obtain ⟨f0, f1, f2, hu, ⟨t0, t1, t2⟩, o0, o1, o2⟩ := flFields
  obtain ⟨ys, n', _, _, hlen, hyl, hf⟩ := DataW.trod_struct hu ht
  have g0 := hf 0 f0 rfl
  have g1 := hf 1 f1 rfl
  have g2 := hf 2 f2 rfl
  rw [t0, o0, kStr] at g0
  rw [t1, o1, kStr] at g1
  rw [t2, o2, kStr] at g2
  match cs, hcl with
  | [x0, x1, x2], _ =>
    match ys, hyl with
    | [y0, y1, y2], _ =>
      obtain ⟨s0, e0, _, _⟩ := DataW.trod_string Tryz.underlying9 (show DataW.trod enc Tryz.prog W base spare held n' 9 [x0] = some y0 from g0)
      obtain ⟨s1, e1, _, _⟩ := DataW.trod_string Tryz.underlying9 (show DataW.trod enc Tryz.prog W base spare held n' 9 [x1] = some y1 from g1)
      obtain ⟨s2, e2, _, _⟩ := DataW.trod_string Tryz.underlying9 (show DataW.trod enc Tryz.prog W base spare held n' 9 [x2] = some y2 from g2)
      injection e0 with e0 _
      injection e1 with e1 _
      injection e2 with e2 _
      exact ⟨⟨s0.data.toList, s1.data.toList, s2.data.toList⟩, trivial, by rw [e0, e1, e2]; rfl⟩
set_option maxRecDepth 100000 in
theorem open_not {cs : List Value} {x : DataW H × List MemPlace} (hcl : cs.length = 6) (ht : DataW.trod enc Tryz.prog W base spare held n 34 cs = some x) : ∃ (m : NotP) (fv : Value), RowK 3 flE W fv m.failed ∧ notC m fv = cs := by
  obtain ⟨f0, f1, f2, f3, f4, f5, hu, ⟨t0, t1, t2, t3, t4, t5⟩, o0, o1, o2, o3, o4, o5⟩ := notFields
  obtain ⟨ys, n', _, _, hlen, hyl, hf⟩ := DataW.trod_struct hu ht
  have g0 := hf 0 f0 rfl
  have g1 := hf 1 f1 rfl
  have g2 := hf 2 f2 rfl
  have g3 := hf 3 f3 rfl
  have g4 := hf 4 f4 rfl
  have g5 := hf 5 f5 rfl
  rw [t0, o0, kInt] at g0
  rw [t1, o1, kStr] at g1
  rw [t2, o2, kStr] at g2
  rw [t3, o3, kStr] at g3
  rw [t4, o4, kInt] at g4
  rw [t5, o5, kFls] at g5
  match cs, hcl with
  | [x0, x1, x2, x3, x4, x5], _ =>
    match ys, hyl with
    | [y0, y1, y2, y3, y4, y5], _ =>
      obtain ⟨k0, e0, _, _⟩ := DataW.trod_int Tryz.underlying3 (show DataW.trod enc Tryz.prog W base spare held n' 3 [x0] = some y0 from g0)
      obtain ⟨s1, e1, _, _⟩ := DataW.trod_string Tryz.underlying9 (show DataW.trod enc Tryz.prog W base spare held n' 9 [x1] = some y1 from g1)
      obtain ⟨s2, e2, _, _⟩ := DataW.trod_string Tryz.underlying9 (show DataW.trod enc Tryz.prog W base spare held n' 9 [x2] = some y2 from g2)
      obtain ⟨s3, e3, _, _⟩ := DataW.trod_string Tryz.underlying9 (show DataW.trod enc Tryz.prog W base spare held n' 9 [x3] = some y3 from g3)
      obtain ⟨k4, e4, _, _⟩ := DataW.trod_int Tryz.underlying3 (show DataW.trod enc Tryz.prog W base spare held n' 3 [x4] = some y4 from g4)
      obtain ⟨xs, hR, _, _⟩ := open_rowK (en := flE) (Q := fun _ : FlP => True) Tryz.underlying32 kFl (fun _ => by show 0 < 3; decide) (fun n cs x hc ht => open_fl hc ht) (show DataW.trod enc Tryz.prog W base spare held n' 32 [x5] = some y5 from g5)
      injection e0 with e0 _
      injection e1 with e1 _
      injection e2 with e2 _
      injection e3 with e3 _
      injection e4 with e4 _
      exact ⟨⟨k0, s1.data.toList, s2.data.toList, s3.data.toList, k4, xs⟩, x5, hR, by rw [e0, e1, e2, e3, e4]; rfl⟩
set_option maxRecDepth 100000 in
/-- A notice that came in as an argument. -/
theorem open_notArg {b0 : Nat} {r : Reach} {v : Value} {d : DataW H} {p : List MemPlace} (hv : Value.okWide Tryz.prog W r b0 34 v) (h : DataW.Trod enc Tryz.prog W base spare held 34 v d p) :
    ∃ (m : NotP) (fv : Value), v = notV m fv ∧ RowK 3 flE W fv m.failed := by
  obtain ⟨fuel, hf⟩ := h
  obtain ⟨f0, f1, f2, f3, f4, f5, hu, -⟩ := notFields
  obtain ⟨cs, rfl, hs⟩ := okWide_struct hu hv
  rw [kNot] at hs
  have hf : DataW.trod enc Tryz.prog W base spare held fuel 34 cs.toList = some (d, p) := hf
  obtain ⟨m, fv, hR, e⟩ := open_not (by simpa using hs) hf
  exact ⟨m, fv, by unfold notV; rw [e], hR⟩
end rows
set_option maxRecDepth 100000 in
theorem nback_lifted (os : Os) (started : os.Started) (H : Type) (enc : TypeId × Value → H) :
    ReturnsInHanded {} Tryz.checked os 7 .any (fun w args => (Rows.noticeBackSpec.pre enc Tryz.prog Tryz.f7 [] false w args ∧ laidMetH Tryz.prog laid8 w) ∧ sizedMet enc Tryz.prog Tryz.f7 (OpenSpec.ofChange Rows.noticeBackSpec) false w args)
      (Rows.noticeBackSpec.post enc Tryz.prog Tryz.f7 false true false false) := by
  refine lift_shaped (C := Tryz.checked) (X := fun w _ => laidMetH Tryz.prog laid8 w) (fun _ _ _ hh h => h.of_heap hh) ownKnob_none started (by kernel_rfl) Tryz.func7
    (ChangeSpec.witness_shaped (enc := enc) (C := Tryz.checked) (os := os) (X := fun w _ => laidMetH Tryz.prog laid8 w) false (doorW os laid8) #[.agg #[.int .i64 0, .string ⟨#[]⟩, .string ⟨#[]⟩, .string ⟨#[]⟩, .int .i64 0, .slice none 0 0], .string ⟨#[]⟩] 8 (doorW_os _ _) (World.shaped_of_ZipB (by kernel_rfl) (by kernel_rfl)) (by kernel_rfl) (by kernel_rfl) (by kernel_rfl) (door8 os _)) ?_
  intro W base args ds gs before hval0 hW hL hsh
  have hval : ∀ (j : Nat) t v, Tryz.f7.params[j]? = some t → args[j]? = some v → Value.okWide Tryz.prog W .any base t v := hval0
  have hW' := hW
  obtain ⟨p, q, hA0, hV, rfl, _, _⟩ := hW
  have hA : DataW.TrodAll enc Tryz.prog W 0 (fun _ => true) true Tryz.f7.params.toList args.toList ds p := hA0
  rw [Tryz.params7] at hA hval
  obtain ⟨v0, v1, d0, d1, p0, p1, rfl, rfl, rfl, h0, h1⟩ := trodAll_two hA
  obtain ⟨rfl, rfl⟩ := trodVars_none hV
  obtain ⟨m, fv, rfl, hAt⟩ := open_notArg (hval 0 34 v0 rfl rfl) h0
  obtain ⟨⟨⟨bl⟩⟩, rfl, rfl, rfl, hs⟩ := ChangeMaps.open_string Tryz.underlying9 (hval 1 9 v1 rfl rfl) h1
  clear hA0 hval0
  simp only [List.append_nil] at hW'
  have hlt : ∀ y ∈ p0, y.block < W.heap.size := fun y hy => by simpa using hW'.lt y hy
  refine (noticeBack_any m bl fv W hAt (env8_of_laid hL hsh)).mono ?_
  rintro e W' ⟨rfl, hb⟩
  have h1' := Below.trod lays (by kernel_rfl) (of_decide_eq_true (by kernel_rfl)) h0 hb hlt
  refine ⟨_, rfl, _, _, _, [], p0, [], hW', ?_, ?_, rfl, hb.frame _, fun h => by cases h⟩
  · exact trodAll_mk1 (shut_bool Tryz.underlying4 _)
  · have e : p0 = p0 ++ [] := by rw [List.append_nil]
    rw [e]
    exact trodAll_mk2 h1' (ChangeMaps.shut_string Tryz.underlying9 hs)

theorem nback_said : Rows.NoticeBackSaid :=
  OpenClaim.holds_of_wide 7 Tryz.f7 rfl rfl rfl rfl rfl rfl rfl ⟨rfl, rfl, rfl, rfl, rfl⟩ rfl rfl rfl rfl rfl (by kernel_rfl) Tryz.func7 (by kernel_rfl)
    (of_decide_eq_true (by kernel_rfl)) (by unfold Func.isWrapper; first | (rw [if_pos (by decide +kernel)]; kernel_rfl) | (rw [if_neg (by decide +kernel)]; exact ⟨rfl, rfl⟩))
    (fun os started H enc _ => nback_lifted os started H enc)

theorem noticeBack_holds : Rows.NoticeBackCardSaid :=
  Claim7.holds_tied_plain_at .later [] [.data, .data, .data, .data, .sentinel, .sentinel, .funcsDeep, .pinned] true (true, "95457cd79ddec3a01cab169418f381e2d13144ac56758564d2cc10fdc8dba771") true
    nback_said (fun _ h => by cases h) (by kernel_rfl) (fun _ h => by cases h) noticeBack_row_tie rfl ⟨rfl, rfl⟩ (by kernel_rfl) rfl
    (fun f fn hf hfn => by
      obtain rfl : f = 7 := Option.some.inj ((show Tryz.prog.funcNamed "mailroom/mailroomlaw22.NoticeBack" = some 7 by kernel_rfl).symm.trans hf) |>.symm
      obtain rfl : fn = Tryz.f7 := (Option.some.inj (Tryz.func7.symm.trans hfn)).symm
      exact ⟨by kernel_rfl, fun j t ht => by
        rw [Tryz.params7] at ht
        have hm : t ∈ [34, 9] := by simpa using Array.mem_of_getElem? ht
        have hall : ([34, 9].all fun u => !Tryz.prog.wantsStandIn u) = true := by kernel_rfl
        exact (show Tryz.prog.wantsStandIn t = false by simpa using List.all_eq_true.1 hall t hm)⟩)
    (by kernel_rfl)
#print axioms noticeBack_holds
end Go.Proofs.YtlpngibdplnieaaGreatDoor
