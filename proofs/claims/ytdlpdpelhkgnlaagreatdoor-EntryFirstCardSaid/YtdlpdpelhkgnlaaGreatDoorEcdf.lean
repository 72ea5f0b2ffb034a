/- EntryFirst: for every list of entries and every time the law returns true, and the arguments read behind the call as they read before; the listed variables are tied to the text of the seat's pruned copy of the project. -/
import Derived.Test.YtdlpdpelhkgnlaaGreatDoorMd
import Derived.Test.YtdlpdpelhkgnlaaGreatDoorEfst
import Derived.Test.YtdlpdpelhkgnlaaGreatDoorCards
import Derived.Test.YtdlpdpelhkgnlaaGreatDoorTie
import Derived.SevenTiedAt
namespace Go.Proofs.YtdlpdpelhkgnlaaGreatDoor
open Go Go.ChangeShapes Go.WideShapes Go.ChangeAt Go.RowKit Go.Deep

section rows
variable {H : Type} {enc : TypeId × Value → H}
set_option maxRecDepth 100000 in
/-- Entries that came in as an argument. -/
theorem open_entsArg {W : World} {base b0 : Nat} {r : Reach} {spare : Nat → Bool} {held : Bool} {v : Value} {d : DataW H} {p : List MemPlace} (hv : Value.okWide Tryz.prog W r b0 46 v) (h : DataW.Trod enc Tryz.prog W base spare held 46 v d p) :
    ∃ (l : List EntP) (q : Option Addr) (b o c : Nat), v = .slice q l.length c ∧ (l ≠ [] → q = some ⟨b, o, none⟩) ∧ EntsAt W b o l ∧ (∀ x ∈ l, InE x) ∧ l.length ≤ maxLen := by
  obtain ⟨fuel, hf⟩ := h
  obtain ⟨q, len, cap, rfl⟩ := okWide_slice Tryz.underlying46 hv
  rcases open_slice Tryz.underlying46 hf with ⟨h0, _⟩ | ⟨a, len', cap', m, n, D, Pl, hcs, hb, hl, hm, hmm, hx, hi⟩
  · simp [Value.cells] at h0
    obtain ⟨rfl, rfl, rfl⟩ := h0
    exact ⟨[], none, 0, 0, 0, rfl, fun h => absurd rfl h, ⟨fun hi => by simp at hi⟩, fun x hx => by simp at hx, Nat.zero_le _⟩
  · simp [Value.cells] at hcs
    obtain ⟨rfl, rfl, rfl⟩ := hcs
    rw [kEnt] at hi
    have hle : len ≤ m := by rw [hmm]; split <;> omega
    by_cases h0 : len = 0
    · subst h0
      exact ⟨[], some a, 0, 0, cap, rfl, fun h => absurd rfl h, ⟨fun hi => by simp at hi⟩, fun x hx => by simp at hx, Nat.zero_le _⟩
    · have hex : ∀ i, i < len → ∃ y : EntP × Value × Value × Value, InE y.1 ∧ EntAt W y.1 y.2.1 y.2.2.1 y.2.2.2 ∧ ∀ j u, (entC y.1 y.2.1 y.2.2.1 y.2.2.2)[j]? = some u → W.cell? ((a.add (i * 10)).add j) = some u := by
        intro i hil
        obtain ⟨cs', hc, ht⟩ := hi i (by omega)
        obtain ⟨_, hcl, hat⟩ := World.cells?_some hc
        obtain ⟨x, sv, fv, jv, hA, hI, e⟩ := open_ent hcl ht
        refine ⟨(x, sv, fv, jv), hI, hA, fun j u hu => ?_⟩
        rw [e] at hu
        have hj : j < 10 := by rw [← hcl]; exact (List.getElem?_eq_some_iff.1 hu).1
        rw [hat j hj]; exact hu
      obtain ⟨y0, _⟩ := hex 0 (by omega)
      have hex2 : ∀ i, ∃ y : EntP × Value × Value × Value, i < len → (InE y.1 ∧ EntAt W y.1 y.2.1 y.2.2.1 y.2.2.2 ∧ ∀ j u, (entC y.1 y.2.1 y.2.2.1 y.2.2.2)[j]? = some u → W.cell? ((a.add (i * 10)).add j) = some u) := fun i => by
        by_cases hil : i < len
        · obtain ⟨y, hy⟩ := hex i hil
          exact ⟨y, fun _ => hy⟩
        · exact ⟨y0, fun h => absurd h hil⟩
      obtain ⟨f, hf'⟩ := Classical.axiomOfChoice hex2
      have hlen : ((List.range len).map fun i => (f i).1).length = len := by simp
      have hc0 := (hf' 0 (by omega)).2.2 0 _ rfl
      obtain ⟨b, o, sp⟩ := a
      have hsp : sp = none := by
        have := World.cell?_spot hc0
        simpa [Addr.add] using this
      subst hsp
      refine ⟨(List.range len).map fun i => (f i).1, some ⟨b, o, none⟩, b, o, cap, by rw [hlen], fun _ => rfl, ⟨fun {i x} hxi {W'} hB => ?_⟩, fun x hx => ?_, by rw [hlen]; omega⟩
      · obtain ⟨hil, e⟩ := List.getElem?_eq_some_iff.1 hxi
        have hil' : i < len := by simpa using hil
        simp only [List.getElem_map, List.getElem_range] at e
        subst e
        obtain ⟨_, hA, hcs⟩ := hf' i hil'
        refine ⟨_, _, _, hA.below hB, fun j u hu => ?_⟩
        have := hcs j u hu
        rw [addrk2, addrk2] at this
        exact (hB.cell (p := ⟨_, _, none⟩) (cell_lt this)).trans this
      · obtain ⟨i, hi', rfl⟩ := List.mem_map.1 hx
        exact (hf' i (List.mem_range.1 hi')).1
end rows
set_option maxRecDepth 100000 in
theorem first_lifted (os : Os) (started : os.Started) (H : Type) (enc : TypeId × Value → H) :
    ReturnsInHanded {} Tryz.checked os 4 .any (fun w args => (Rows.entryFirstSpec.pre enc Tryz.prog Tryz.f4 [] false w args ∧ laidMetH Tryz.prog laid6 w) ∧ sizedMet enc Tryz.prog Tryz.f4 (OpenSpec.ofChange Rows.entryFirstSpec) false w args)
      (Rows.entryFirstSpec.post enc Tryz.prog Tryz.f4 false true false false) := by
  refine lift_shaped (C := Tryz.checked) (X := fun w _ => laidMetH Tryz.prog laid6 w) (fun _ _ _ hh h => h.of_heap hh) ownKnob_none started (by kernel_rfl) Tryz.func4
    (ChangeSpec.witness_shaped (enc := enc) (C := Tryz.checked) (os := os) (X := fun w _ => laidMetH Tryz.prog laid6 w) false (doorW os laid6) #[.slice none 0 0, .int .i64 0] 8 (doorW_os _ _) (World.shaped_of_ZipB (by kernel_rfl) (by kernel_rfl)) (by kernel_rfl) (by kernel_rfl) (by kernel_rfl) (door6 os _)) ?_
  intro W base args ds gs before hval0 hW hL hsh
  have hval : ∀ (j : Nat) t v, Tryz.f4.params[j]? = some t → args[j]? = some v → Value.okWide Tryz.prog W .any base t v := hval0
  have hW' := hW
  obtain ⟨p, q, hA0, hV, rfl, _, _⟩ := hW
  have hA : DataW.TrodAll enc Tryz.prog W 0 (fun _ => true) true Tryz.f4.params.toList args.toList ds p := hA0
  rw [Tryz.params4] at hA hval
  obtain ⟨v0, v1, d0, d1, p0, p1, rfl, rfl, rfl, h0, h1⟩ := trodAll_two hA
  obtain ⟨rfl, rfl⟩ := trodVars_none hV
  obtain ⟨l, q, b, o, c, rfl, hq, hE, hIn, _⟩ := open_entsArg (hval 0 46 v0 rfl rfl) h0
  obtain ⟨now, rfl, rfl, rfl, wn⟩ := open_int Tryz.underlying3 (hval 1 3 v1 rfl rfl) h1
  clear hA0 hval0
  simp only [List.append_nil] at hW'
  have hlt : ∀ y ∈ p0, y.block < W.heap.size := fun y hy => by simpa using hW'.lt y hy
  refine (firstLaw_any l q b o c now W hq hE (fun x hx f hf => ((hIn x hx).fate f hf).1) (env_of_laid hL hsh (by simp [laid6]) (by kernel_rfl))).mono ?_
  rintro e W' ⟨rfl, hb⟩
  have h0' := Below.trod lays (by kernel_rfl) (of_decide_eq_true (by kernel_rfl)) h0 hb hlt
  refine ⟨_, rfl, _, _, _, [], p0, [], hW', ?_, ?_, rfl, hb.frame _, fun h => by cases h⟩
  · exact trodAll_mk1 (shut_bool Tryz.underlying4 _)
  · have e : p0 = p0 ++ [] := by rw [List.append_nil]
    rw [e]
    exact trodAll_mk2 h0' (shut_int Tryz.underlying3 wn)

theorem first_said : Rows.EntryFirstSaid :=
  OpenClaim.holds_of_wide 4 Tryz.f4 rfl rfl rfl rfl rfl rfl rfl ⟨rfl, rfl, rfl, rfl, rfl⟩ rfl rfl rfl rfl rfl (by kernel_rfl) Tryz.func4 (by kernel_rfl)
    (of_decide_eq_true (by kernel_rfl)) (by unfold Func.isWrapper; first | (rw [if_pos (by decide +kernel)]; kernel_rfl) | (rw [if_neg (by decide +kernel)]; exact ⟨rfl, rfl⟩))
    (fun os started H enc _ => first_lifted os started H enc)

theorem entryFirst_holds : Rows.EntryFirstCardSaid :=
  Claim7.holds_tied_plain_at .later [] [.data, .data, .data, .data, .funcsDeep, .pinned] true (true, "076526a22015966aae7be76a6944393b430b017f9f774ae950cb085284895831") true
    first_said (fun _ h => by cases h) (by kernel_rfl) (fun _ h => by cases h) entryFirst_row_tie rfl ⟨rfl, rfl⟩ (by kernel_rfl) rfl
    (fun f fn hf hfn => by
      obtain rfl : f = 4 := Option.some.inj ((show Tryz.prog.funcNamed "mailroom/mailroomlaw20.EntryFirst" = some 4 by kernel_rfl).symm.trans hf) |>.symm
      obtain rfl : fn = Tryz.f4 := (Option.some.inj (Tryz.func4.symm.trans hfn)).symm
      exact ⟨by kernel_rfl, fun j t ht => by
        rw [Tryz.params4] at ht
        have hm : t ∈ [46, 3] := by simpa using Array.mem_of_getElem? ht
        have hall : ([46, 3].all fun u => !Tryz.prog.wantsStandIn u) = true := by kernel_rfl
        exact (show Tryz.prog.wantsStandIn t = false by simpa using List.all_eq_true.1 hall t hm)⟩)
    (by kernel_rfl)
#print axioms entryFirst_holds
end Go.Proofs.YtdlpdpelhkgnlaaGreatDoor
