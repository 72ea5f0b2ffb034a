/- EntryGood: for every mail, numbers, fates and list of numbers the law returns true, and the arguments read behind the call as they read before; the listed variables are tied to the text of the seat's pruned copy of the project. -/
import Derived.Test.YtdlpdpelhkgnlaaGreatDoorMd
import Derived.Test.YtdlpdpelhkgnlaaGreatDoorEgdh
import Derived.Test.YtdlpdpelhkgnlaaGreatDoorCards
import Derived.Test.YtdlpdpelhkgnlaaGreatDoorTie
import Derived.SevenTiedAt
namespace Go.Proofs.YtdlpdpelhkgnlaaGreatDoor
open Go Go.ChangeShapes Go.WideShapes Go.ChangeAt Go.RowKit Go.Deep

section rows
variable {H : Type} {enc : TypeId × Value → H}
theorem trodAll_five {P : Program} {w : World} {base : Nat} {spare : Nat → Bool} {held : Bool} {t t' t'' t3 t4 : TypeId} {args : Array Value} {ds : List (DataW H)} {ps : List MemPlace} (h : DataW.TrodAll enc P w base spare held [t, t', t'', t3, t4] args.toList ds ps) :
    ∃ v v' v'' v3 v4 d d' d'' d3 d4 p p' p'' p3 p4, args = #[v, v', v'', v3, v4] ∧ ds = [d, d', d'', d3, d4] ∧ ps = p ++ p' ++ p'' ++ p3 ++ p4 ∧ DataW.Trod enc P w base spare held t v d p ∧ DataW.Trod enc P w base spare held t' v' d' p' ∧ DataW.Trod enc P w base spare held t'' v'' d'' p'' ∧ DataW.Trod enc P w base spare held t3 v3 d3 p3 ∧ DataW.Trod enc P w base spare held t4 v4 d4 p4 := by
  obtain ⟨v, vs, d, ds', p, q, hargs, rfl, rfl, hd, hrest⟩ := trodAll_cons h
  obtain ⟨v', vs', d', ds'', p', q', rfl, rfl, rfl, hd', hrest'⟩ := trodAll_cons hrest
  obtain ⟨v'', vs'', d'', ds''', p'', q'', rfl, rfl, rfl, hd'', hrest''⟩ := trodAll_cons hrest'
  obtain ⟨v3, vs3, d3, ds3, p3, q3, rfl, rfl, rfl, hd3, hrest3⟩ := trodAll_cons hrest''
  obtain ⟨v4, vs4, d4, ds4, p4, q4, rfl, rfl, rfl, hd4, hrest4⟩ := trodAll_cons hrest3
  obtain ⟨rfl, rfl, rfl⟩ := trodAll_nil hrest4
  exact ⟨v, v', v'', v3, v4, d, d', d'', d3, d4, p, p', p'', p3, p4, by cases args; simp_all, rfl, by simp, hd, hd', hd'', hd3, hd4⟩
theorem trodAll_mk5 {P : Program} {w : World} {base : Nat} {spare : Nat → Bool} {held : Bool} {t t' t'' t3 t4 : TypeId} {v v' v'' v3 v4 : Value} {d d' d'' d3 d4 : DataW H} {p p' p'' p3 p4 : List MemPlace} (h : DataW.Trod enc P w base spare held t v d p) (h' : DataW.Trod enc P w base spare held t' v' d' p')
    (h'' : DataW.Trod enc P w base spare held t'' v'' d'' p'') (h3 : DataW.Trod enc P w base spare held t3 v3 d3 p3) (h4 : DataW.Trod enc P w base spare held t4 v4 d4 p4) : DataW.TrodAll enc P w base spare held [t, t', t'', t3, t4] [v, v', v'', v3, v4] [d, d', d'', d3, d4] (p ++ (p' ++ (p'' ++ (p3 ++ p4)))) := ⟨p, p' ++ (p'' ++ (p3 ++ p4)), h, trodAll_mk4 h' h'' h3 h4, rfl⟩
set_option maxRecDepth 100000 in
/-- A mail that came in as an argument. -/
theorem open_mailArg {W : World} {base b0 : Nat} {r : Reach} {spare : Nat → Bool} {held : Bool} {v : Value} {d : DataW H} {p : List MemPlace} (hv : Value.okWide Tryz.prog W r b0 24 v) (h : DataW.Trod enc Tryz.prog W base spare held 24 v d p) :
    ∃ (m : MailP) (sv : Value), v = mailV m sv ∧ RowK 2 rcE W sv m.rcpts ∧ InM m := by
  obtain ⟨fuel, hf⟩ := h
  obtain ⟨f0, f1, f2, f3, f4, hu, -⟩ := mailFields
  obtain ⟨cs, rfl, hs⟩ := okWide_struct hu hv
  rw [kMail] at hs
  have hf : DataW.trod enc Tryz.prog W base spare held fuel 24 cs.toList = some (d, p) := hf
  obtain ⟨m, sv, hR, hI, e⟩ := open_mail (by simpa using hs) hf
  exact ⟨m, sv, by unfold mailV; rw [e], hR, hI⟩
set_option maxRecDepth 100000 in
/-- Fates that came in as an argument. -/
theorem open_fatesArg {W : World} {base b0 : Nat} {r : Reach} {spare : Nat → Bool} {held : Bool} {v : Value} {d : DataW H} {p : List MemPlace} (hv : Value.okWide Tryz.prog W r b0 25 v) (h : DataW.Trod enc Tryz.prog W base spare held 25 v d p) :
    ∃ l : List FaP, RowK 2 faE W v l ∧ ∀ f ∈ l, f.1 < 256 ∧ f.2.length ≤ maxLen := by
  obtain ⟨fuel, hf⟩ := h
  obtain ⟨q, len, cap, rfl⟩ := okWide_slice Tryz.underlying25 hv
  obtain ⟨xs, hR, hQ, _⟩ := open_rowK (en := faE) (Q := fun f : FaP => f.1 < 256 ∧ f.2.length ≤ maxLen) Tryz.underlying25 kFate (fun _ => by show 0 < 2; decide) (fun n cs x hc ht => open_fate hc ht) hf
  exact ⟨xs, hR, hQ⟩
set_option maxRecDepth 100000 in
/-- Numbers that came in as an argument. -/
theorem open_intsArg {W : World} {base b0 : Nat} {r : Reach} {spare : Nat → Bool} {held : Bool} {v : Value} {d : DataW H} {p : List MemPlace} (hv : Value.okWide Tryz.prog W r b0 26 v) (h : DataW.Trod enc Tryz.prog W base spare held 26 v d p) :
    ∃ l : List Int, RowK 1 intE W v l := by
  obtain ⟨fuel, hf⟩ := h
  obtain ⟨q, len, cap, rfl⟩ := okWide_slice Tryz.underlying26 hv
  obtain ⟨xs, hR, _, _⟩ := open_rowK (en := intE) (Q := fun _ : Int => True) Tryz.underlying26 kInt (fun _ => by show 0 < 1; decide) (fun n cs x hc ht => by
    match cs, hc with
    | [x0], _ =>
      obtain ⟨k1, e1, _, _⟩ := DataW.trod_int Tryz.underlying3 ht
      injection e1 with e1 _
      exact ⟨k1, trivial, by rw [e1]; rfl⟩) hf
  exact ⟨xs, hR⟩
end rows
set_option maxRecDepth 100000 in
theorem good_lifted (os : Os) (started : os.Started) (H : Type) (enc : TypeId × Value → H) :
    ReturnsInHanded {} Tryz.checked os 3 .any (fun w args => (Rows.entryGoodSpec.pre enc Tryz.prog Tryz.f3 [] false w args ∧ laidMetH Tryz.prog laid6 w) ∧ sizedMet enc Tryz.prog Tryz.f3 (OpenSpec.ofChange Rows.entryGoodSpec) false w args)
      (Rows.entryGoodSpec.post enc Tryz.prog Tryz.f3 false true false false) := by
  refine lift_shaped (C := Tryz.checked) (X := fun w _ => laidMetH Tryz.prog laid6 w) (fun _ _ _ hh h => h.of_heap hh) ownKnob_none started (by kernel_rfl) Tryz.func3
    (ChangeSpec.witness_shaped (enc := enc) (C := Tryz.checked) (os := os) (X := fun w _ => laidMetH Tryz.prog laid6 w) false (doorW os laid6) #[.agg #[.string ⟨#[]⟩, .slice none 0 0, .bool false, .string ⟨#[]⟩, .string ⟨#[]⟩], .int .i64 0, .int .i64 0, .slice none 0 0, .slice none 0 0] 8 (doorW_os _ _) (World.shaped_of_ZipB (by kernel_rfl) (by kernel_rfl)) (by kernel_rfl) (by kernel_rfl) (by kernel_rfl) (door6 os _)) ?_
  intro W base args ds gs before hval0 hW hL hsh
  have hval : ∀ (j : Nat) t v, Tryz.f3.params[j]? = some t → args[j]? = some v → Value.okWide Tryz.prog W .any base t v := hval0
  have hW' := hW
  obtain ⟨p, q, hA0, hV, rfl, _, _⟩ := hW
  have hA : DataW.TrodAll enc Tryz.prog W 0 (fun _ => true) true Tryz.f3.params.toList args.toList ds p := hA0
  rw [Tryz.params3] at hA hval
  obtain ⟨v0, v1, v2, v3, v4, d0, d1, d2, d3, d4, p0, p1, p2, p3, p4, rfl, rfl, rfl, h0, h1, h2, h3, h4⟩ := trodAll_five hA
  obtain ⟨rfl, rfl⟩ := trodVars_none hV
  obtain ⟨m, sv, rfl, hm, hIm⟩ := open_mailArg (hval 0 24 v0 rfl rfl) h0
  obtain ⟨id, rfl, rfl, rfl, wi⟩ := open_int Tryz.underlying3 (hval 1 3 v1 rfl rfl) h1
  obtain ⟨at_, rfl, rfl, rfl, wa⟩ := open_int Tryz.underlying3 (hval 2 3 v2 rfl rfl) h2
  obtain ⟨l, hl, hfl⟩ := open_fatesArg (hval 3 25 v3 rfl rfl) h3
  obtain ⟨ns, hn⟩ := open_intsArg (hval 4 26 v4 rfl rfl) h4
  obtain ⟨q0, c0, rfl, -⟩ := hl.sh
  obtain ⟨q1, c1, rfl, -⟩ := hn.sh
  clear hA0 hval0
  simp only [List.append_nil] at hW'
  have hlt0 : ∀ y ∈ p0, y.block < W.heap.size := fun y hy => by simpa using hW'.lt y (List.mem_append_left _ (List.mem_append_left _ hy))
  have hlt3 : ∀ y ∈ p3, y.block < W.heap.size := fun y hy => by simpa using hW'.lt y (List.mem_append_left _ (List.mem_append_right _ hy))
  have hlt4 : ∀ y ∈ p4, y.block < W.heap.size := fun y hy => by simpa using hW'.lt y (List.mem_append_right _ hy)
  refine (goodLaw_any m id at_ l ns sv q0 q1 c0 c1 W hm hl (fun f hf => (hfl f hf).1) hn (env_of_laid hL hsh (by simp [laid6]) (by kernel_rfl))).mono ?_
  rintro e W' ⟨rfl, hb⟩
  have h0' := Below.trod lays (by kernel_rfl) (of_decide_eq_true (by kernel_rfl)) h0 hb hlt0
  have h3' := Below.trod lays (by kernel_rfl) (of_decide_eq_true (by kernel_rfl)) h3 hb hlt3
  have h4' := Below.trod lays (by kernel_rfl) (of_decide_eq_true (by kernel_rfl)) h4 hb hlt4
  refine ⟨_, rfl, _, _, _, [], p0 ++ p3 ++ p4, [], hW', ?_, ?_, rfl, hb.frame _, fun h => by cases h⟩
  · exact trodAll_mk1 (shut_bool Tryz.underlying4 _)
  · have e : p0 ++ p3 ++ p4 = p0 ++ ([] ++ ([] ++ (p3 ++ p4))) := by simp
    rw [e]
    exact trodAll_mk5 h0' (shut_int Tryz.underlying3 wi) (shut_int Tryz.underlying3 wa) h3' h4'

theorem good_said : Rows.EntryGoodSaid :=
  OpenClaim.holds_of_wide 3 Tryz.f3 rfl rfl rfl rfl rfl rfl rfl ⟨rfl, rfl, rfl, rfl, rfl⟩ rfl rfl rfl rfl rfl (by kernel_rfl) Tryz.func3 (by kernel_rfl)
    (of_decide_eq_true (by kernel_rfl)) (by unfold Func.isWrapper; first | (rw [if_pos (by decide +kernel)]; kernel_rfl) | (rw [if_neg (by decide +kernel)]; exact ⟨rfl, rfl⟩))
    (fun os started H enc _ => good_lifted os started H enc)

theorem entryGood_holds : Rows.EntryGoodCardSaid :=
  Claim7.holds_tied_plain_at .later [] [.data, .data, .data, .data, .funcsDeep, .pinned] true (true, "076526a22015966aae7be76a6944393b430b017f9f774ae950cb085284895831") true
    good_said (fun _ h => by cases h) (by kernel_rfl) (fun _ h => by cases h) entryGood_row_tie rfl ⟨rfl, rfl⟩ (by kernel_rfl) rfl
    (fun f fn hf hfn => by
      obtain rfl : f = 3 := Option.some.inj ((show Tryz.prog.funcNamed "mailroom/mailroomlaw20.EntryGood" = some 3 by kernel_rfl).symm.trans hf) |>.symm
      obtain rfl : fn = Tryz.f3 := (Option.some.inj (Tryz.func3.symm.trans hfn)).symm
      exact ⟨by kernel_rfl, fun j t ht => by
        rw [Tryz.params3] at ht
        have hm : t ∈ [24, 3, 3, 25, 26] := by simpa using Array.mem_of_getElem? ht
        have hall : ([24, 3, 3, 25, 26].all fun u => !Tryz.prog.wantsStandIn u) = true := by kernel_rfl
        exact (show Tryz.prog.wantsStandIn t = false by simpa using List.all_eq_true.1 hall t hm)⟩)
    (by kernel_rfl)
#print axioms entryGood_holds
end Go.Proofs.YtdlpdpelhkgnlaaGreatDoor
