/- NoticeMay: for every entry, host, numbers and fate the law returns true, and the arguments read behind the call as they read before; the listed variables are tied to the text of the seat's pruned copy of the project. -/
import Derived.Test.YtlpngibdplnieaaGreatDoorMd
import Derived.Test.YtlpngibdplnieaaGreatDoorMp
import Derived.Test.YtlpngibdplnieaaGreatDoorCards
import Derived.Test.YtlpngibdplnieaaGreatDoorTie
import Derived.SevenTiedAt
namespace Go.Proofs.YtlpngibdplnieaaGreatDoor
open Go Go.ChangeShapes Go.WideShapes Go.ChangeAt Go.RowKit Go.Deep Go.ChangeMaps

section rows
variable {H : Type} {enc : TypeId × Value → H}
theorem trodAll_six {P : Program} {w : World} {base : Nat} {spare : Nat → Bool} {held : Bool} {t t' t'' t3 t4 t5 : TypeId} {args : Array Value} {ds : List (DataW H)} {ps : List MemPlace} (h : DataW.TrodAll enc P w base spare held [t, t', t'', t3, t4, t5] args.toList ds ps) :
    ∃ v v' v'' v3 v4 v5 d d' d'' d3 d4 d5 p p' p'' p3 p4 p5, args = #[v, v', v'', v3, v4, v5] ∧ ds = [d, d', d'', d3, d4, d5] ∧ ps = p ++ p' ++ p'' ++ p3 ++ p4 ++ p5 ∧ DataW.Trod enc P w base spare held t v d p ∧ DataW.Trod enc P w base spare held t' v' d' p' ∧ DataW.Trod enc P w base spare held t'' v'' d'' p'' ∧ DataW.Trod enc P w base spare held t3 v3 d3 p3 ∧ DataW.Trod enc P w base spare held t4 v4 d4 p4 ∧ DataW.Trod enc P w base spare held t5 v5 d5 p5 := by
  obtain ⟨v, vs, d, ds', p, q, hargs, rfl, rfl, hd, hrest⟩ := trodAll_cons h
  obtain ⟨v', vs', d', ds'', p', q', rfl, rfl, rfl, hd', hrest'⟩ := trodAll_cons hrest
  obtain ⟨v'', vs'', d'', ds''', p'', q'', rfl, rfl, rfl, hd'', hrest''⟩ := trodAll_cons hrest'
  obtain ⟨v3, vs3, d3, ds3, p3, q3, rfl, rfl, rfl, hd3, hrest3⟩ := trodAll_cons hrest''
  obtain ⟨v4, vs4, d4, ds4, p4, q4, rfl, rfl, rfl, hd4, hrest4⟩ := trodAll_cons hrest3
  obtain ⟨v5, vs5, d5, ds5, p5, q5, rfl, rfl, rfl, hd5, hrest5⟩ := trodAll_cons hrest4
  obtain ⟨rfl, rfl, rfl⟩ := trodAll_nil hrest5
  exact ⟨v, v', v'', v3, v4, v5, d, d', d'', d3, d4, d5, p, p', p'', p3, p4, p5, by cases args; simp_all, rfl, by simp, hd, hd', hd'', hd3, hd4, hd5⟩
theorem trodAll_mk5 {P : Program} {w : World} {base : Nat} {spare : Nat → Bool} {held : Bool} {t t' t'' t3 t4 : TypeId} {v v' v'' v3 v4 : Value} {d d' d'' d3 d4 : DataW H} {p p' p'' p3 p4 : List MemPlace} (h : DataW.Trod enc P w base spare held t v d p) (h' : DataW.Trod enc P w base spare held t' v' d' p')
    (h'' : DataW.Trod enc P w base spare held t'' v'' d'' p'') (h3 : DataW.Trod enc P w base spare held t3 v3 d3 p3) (h4 : DataW.Trod enc P w base spare held t4 v4 d4 p4) : DataW.TrodAll enc P w base spare held [t, t', t'', t3, t4] [v, v', v'', v3, v4] [d, d', d'', d3, d4] (p ++ (p' ++ (p'' ++ (p3 ++ p4)))) := ⟨p, p' ++ (p'' ++ (p3 ++ p4)), h, trodAll_mk4 h' h'' h3 h4, rfl⟩
theorem trodAll_mk6 {P : Program} {w : World} {base : Nat} {spare : Nat → Bool} {held : Bool} {t t' t'' t3 t4 t5 : TypeId} {v v' v'' v3 v4 v5 : Value} {d d' d'' d3 d4 d5 : DataW H} {p p' p'' p3 p4 p5 : List MemPlace} (h : DataW.Trod enc P w base spare held t v d p) (h' : DataW.Trod enc P w base spare held t' v' d' p')
    (h'' : DataW.Trod enc P w base spare held t'' v'' d'' p'') (h3 : DataW.Trod enc P w base spare held t3 v3 d3 p3) (h4 : DataW.Trod enc P w base spare held t4 v4 d4 p4) (h5 : DataW.Trod enc P w base spare held t5 v5 d5 p5) : DataW.TrodAll enc P w base spare held [t, t', t'', t3, t4, t5] [v, v', v'', v3, v4, v5] [d, d', d'', d3, d4, d5] (p ++ (p' ++ (p'' ++ (p3 ++ (p4 ++ p5))))) := ⟨p, p' ++ (p'' ++ (p3 ++ (p4 ++ p5))), h, trodAll_mk5 h' h'' h3 h4 h5, rfl⟩
set_option maxRecDepth 100000 in
/-- An entry that came in as an argument. -/
theorem open_entArg {W : World} {base b0 : Nat} {r : Reach} {spare : Nat → Bool} {held : Bool} {v : Value} {d : DataW H} {p : List MemPlace} (hv : Value.okWide Tryz.prog W r b0 28 v) (h : DataW.Trod enc Tryz.prog W base spare held 28 v d p) :
    ∃ (x : EntP) (sv fv jv : Value), v = entV x sv fv jv ∧ EntAt W x sv fv jv ∧ InE x := by
  obtain ⟨fuel, hf⟩ := h
  obtain ⟨f0, f1, f2, f3, f4, f5, hu, -⟩ := entFields
  obtain ⟨cs, rfl, hs⟩ := okWide_struct hu hv
  rw [kEnt] at hs
  have hf : DataW.trod enc Tryz.prog W base spare held fuel 28 cs.toList = some (d, p) := hf
  obtain ⟨x, sv, fv, jv, hA, hI, e⟩ := open_ent (by simpa using hs) hf
  exact ⟨x, sv, fv, jv, by unfold entV; rw [e], hA, hI⟩
set_option maxRecDepth 100000 in
/-- A fate that came in as an argument. -/
theorem open_fateArg {W : World} {base b0 : Nat} {r : Reach} {spare : Nat → Bool} {held : Bool} {v : Value} {d : DataW H} {p : List MemPlace} (hv : Value.okWide Tryz.prog W r b0 61 v) (h : DataW.Trod enc Tryz.prog W base spare held 61 v d p) :
    ∃ f : FaP, v = .agg #[.int .u8 (f.1 : Int), .string ⟨f.2.toArray⟩] ∧ f.1 < 256 ∧ f.2.length ≤ maxLen := by
  obtain ⟨fuel, hf⟩ := h
  obtain ⟨f0, f1, hu, -⟩ := fateFields
  obtain ⟨cs, rfl, hs⟩ := okWide_struct hu hv
  rw [kFate] at hs
  have hf : DataW.trod enc Tryz.prog W base spare held fuel 61 cs.toList = some (d, p) := hf
  obtain ⟨f, hQ, e⟩ := open_fate (by simpa using hs) hf
  exact ⟨f, by show Value.agg cs = Value.agg (faE f).toArray; rw [e], hQ.1, hQ.2⟩
end rows
set_option maxRecDepth 100000 in
theorem nmay_lifted (os : Os) (started : os.Started) (H : Type) (enc : TypeId × Value → H) :
    ReturnsInHanded {} Tryz.checked os 4 .any (fun w args => (Rows.noticeMaySpec.pre enc Tryz.prog Tryz.f4 [] false w args ∧ laidMetH Tryz.prog laid6 w) ∧ sizedMet enc Tryz.prog Tryz.f4 (OpenSpec.ofChange Rows.noticeMaySpec) false w args)
      (Rows.noticeMaySpec.post enc Tryz.prog Tryz.f4 false true false false) := by
  refine lift_shaped (C := Tryz.checked) (X := fun w _ => laidMetH Tryz.prog laid6 w) (fun _ _ _ hh h => h.of_heap hh) ownKnob_none started (by kernel_rfl) Tryz.func4
    (ChangeSpec.witness_shaped (enc := enc) (C := Tryz.checked) (os := os) (X := fun w _ => laidMetH Tryz.prog laid6 w) false (doorW os laid6) #[.agg #[.int .i64 0, .int .i64 0, .string ⟨#[]⟩, .slice none 0 0, .bool false, .string ⟨#[]⟩, .string ⟨#[]⟩, .bool false, .slice none 0 0, .slice none 0 0], .string ⟨#[]⟩, .int .i64 0, .int .i64 0, .agg #[.int .u8 0, .string ⟨#[]⟩], .int .i64 0] 8 (doorW_os _ _) (World.shaped_of_ZipB (by kernel_rfl) (by kernel_rfl)) (by kernel_rfl) (by kernel_rfl) (by kernel_rfl) (door6 os _)) ?_
  intro W base args ds gs before hval0 hW hL hsh
  have hval : ∀ (j : Nat) t v, Tryz.f4.params[j]? = some t → args[j]? = some v → Value.okWide Tryz.prog W .any base t v := hval0
  have hW' := hW
  obtain ⟨p, q, hA0, hV, rfl, _, _⟩ := hW
  have hA : DataW.TrodAll enc Tryz.prog W 0 (fun _ => true) true Tryz.f4.params.toList args.toList ds p := hA0
  rw [Tryz.params4] at hA hval
  obtain ⟨v0, v1, v2, v3, v4, v5, d0, d1, d2, d3, d4, d5, p0, p1, p2, p3, p4, p5, rfl, rfl, rfl, h0, h1, h2, h3, h4, h5⟩ := trodAll_six hA
  obtain ⟨rfl, rfl⟩ := trodVars_none hV
  obtain ⟨x, sv, fv, jv, rfl, hAt, hIn⟩ := open_entArg (hval 0 28 v0 rfl rfl) h0
  obtain ⟨s1, rfl, rfl, rfl, l1⟩ := open_string Tryz.underlying9 (hval 1 9 v1 rfl rfl) h1
  obtain ⟨id, rfl, rfl, rfl, wi⟩ := open_int Tryz.underlying3 (hval 2 3 v2 rfl rfl) h2
  obtain ⟨now, rfl, rfl, rfl, wn⟩ := open_int Tryz.underlying3 (hval 3 3 v3 rfl rfl) h3
  obtain ⟨f, rfl, hf, hfl⟩ := open_fateArg (hval 4 61 v4 rfl rfl) h4
  obtain ⟨due, rfl, rfl, rfl, wd⟩ := open_int Tryz.underlying3 (hval 5 3 v5 rfl rfl) h5
  clear hA0 hval0
  simp only [List.append_nil] at hW'
  have hlt0 : ∀ y ∈ p0, y.block < W.heap.size := fun y hy => by simpa using hW'.lt y (List.mem_append_left _ hy)
  have hlt4 : ∀ y ∈ p4, y.block < W.heap.size := fun y hy => by simpa using hW'.lt y (List.mem_append_right _ hy)
  have hc := noticeMay_any x s1.data.toList id now f due sv fv jv W hAt (fun f hf => (hIn.fate f hf).1) (env_of_laid hL hsh (by simp [laid6]) (by kernel_rfl))
  rw [Array.toArray_toList] at hc
  refine hc.mono ?_
  rintro e W' ⟨rfl, hb⟩
  have h0' := Below.trod lays (by kernel_rfl) (of_decide_eq_true (by kernel_rfl)) h0 hb hlt0
  have h4' := Below.trod lays (by kernel_rfl) (of_decide_eq_true (by kernel_rfl)) h4 hb hlt4
  refine ⟨_, rfl, _, _, _, [], p0 ++ p4, [], hW', ?_, ?_, rfl, hb.frame _, fun h => by cases h⟩
  · exact trodAll_mk1 (shut_bool Tryz.underlying4 _)
  · have e : p0 ++ p4 = p0 ++ ([] ++ ([] ++ ([] ++ (p4 ++ [])))) := by simp
    rw [e]
    exact trodAll_mk6 h0' (shut_string Tryz.underlying9 l1) (shut_int Tryz.underlying3 wi) (shut_int Tryz.underlying3 wn) h4' (shut_int Tryz.underlying3 wd)

theorem nmay_said : Rows.NoticeMaySaid :=
  OpenClaim.holds_of_wide 4 Tryz.f4 rfl rfl rfl rfl rfl rfl rfl ⟨rfl, rfl, rfl, rfl, rfl⟩ rfl rfl rfl rfl rfl (by kernel_rfl) Tryz.func4 (by kernel_rfl)
    (of_decide_eq_true (by kernel_rfl)) (by unfold Func.isWrapper; first | (rw [if_pos (by decide +kernel)]; kernel_rfl) | (rw [if_neg (by decide +kernel)]; exact ⟨rfl, rfl⟩))
    (fun os started H enc _ => nmay_lifted os started H enc)

theorem noticeMay_holds : Rows.NoticeMayCardSaid :=
  Claim7.holds_tied_plain_at .later [] [.data, .data, .data, .data, .funcsDeep, .pinned] true (true, "95457cd79ddec3a01cab169418f381e2d13144ac56758564d2cc10fdc8dba771") true
    nmay_said (fun _ h => by cases h) (by kernel_rfl) (fun _ h => by cases h) noticeMay_row_tie rfl ⟨rfl, rfl⟩ (by kernel_rfl) rfl
    (fun f fn hf hfn => by
      obtain rfl : f = 4 := Option.some.inj ((show Tryz.prog.funcNamed "mailroom/mailroomlaw22.NoticeMay" = some 4 by kernel_rfl).symm.trans hf) |>.symm
      obtain rfl : fn = Tryz.f4 := (Option.some.inj (Tryz.func4.symm.trans hfn)).symm
      exact ⟨by kernel_rfl, fun j t ht => by
        rw [Tryz.params4] at ht
        have hm : t ∈ [28, 9, 3, 3, 61, 3] := by simpa using Array.mem_of_getElem? ht
        have hall : ([28, 9, 3, 3, 61, 3].all fun u => !Tryz.prog.wantsStandIn u) = true := by kernel_rfl
        exact (show Tryz.prog.wantsStandIn t = false by simpa using List.all_eq_true.1 hall t hm)⟩)
    (by kernel_rfl)
#print axioms noticeMay_holds
end Go.Proofs.YtlpngibdplnieaaGreatDoor
