/- The contracts of package tally: the map's keys; room, Add. -/
import Derived.Test.YthhcigmdocldnaaDoorTallyC
import Derived.WideKeyRuns
import Derived.Laws.StructEq
namespace Go.Proofs.YthhcigmdocldnaaDoor
open Go Go.RowKit Go.Shelf Go.Sort

theorem str_inj {a b : Bytes} (h : str a = str b) : a = b := by
  unfold str at h
  injection h with h
  injection h with h
  simpa using congrArg Array.toList h
theorem eK_inj {p q : Bytes × Nat} (h : eK p = eK q) : p = q := by
  unfold eK at h
  injection h with h
  have h1 := congrArg (fun a => a[0]?) h
  have h2 := congrArg (fun a => a[1]?) h
  simp at h1 h2
  exact Prod.ext (str_inj h1) (by omega)
theorem placeFields : ∃ f0 f1, Tryd.prog.underlying 78 = some (.struct #[f0, f1]) ∧ f0.name ≠ "_" ∧ f1.name ≠ "_" ∧ f0.type = 9 ∧ f1.type = 5 ∧ f0.offset = 0 ∧ f1.offset = 1 := by
  have h : ((Tryd.prog.fieldsOf 78).toList.map fun f => (decide (f.name = "_"), f.type, f.offset)) = [(false, 9, 0), (false, 5, 1)] := by kernel_rfl
  have h2 : Tryd.prog.underlying 78 = some (.struct (Tryd.prog.fieldsOf 78)) := by kernel_rfl
  rw [h2]
  obtain ⟨fs, hfs⟩ : ∃ fs, fs = Tryd.prog.fieldsOf 78 := ⟨_, rfl⟩
  rw [← hfs] at h ⊢
  clear h2 hfs
  obtain ⟨fs⟩ := fs
  rcases fs with _ | ⟨f0, _ | ⟨f1, _ | ⟨f2, fs⟩⟩⟩ <;> simp at h
  exact ⟨f0, f1, rfl, h.1.1, h.2.1, h.1.2.1, h.2.2.1, h.1.2.2, h.2.2.2⟩
theorem fieldsOf_of {P : Program} {t : TypeId} {fs : Array Field} (h : P.underlying t = some (.struct fs)) : P.fieldsOf t = fs := by
  unfold Program.fieldsOf; rw [h]
theorem placeEq (p q : Bytes × Nat) (w : World) : (Op.equal 78 (eK p) (eK q)).run Tryd.prog w = .ok (decide (q = p)) w := by
  unfold eK str
  obtain ⟨f0, f1, hu, a0, a1, b0, b1, c0, c1⟩ := placeFields
  have hf := fieldsOf_of hu
  have h := run_equalIn_agg (P := Tryd.prog) w 9999 78 #[.string ⟨p.1.toArray⟩, .int .u8 (p.2 : Int)] #[.string ⟨q.1.toArray⟩, .int .u8 (q.2 : Int)] (by rw [hf]; exact hu) (by kernel_rfl)
  rw [show Op.equal 78 = Op.equalIn (9999 + 1) 78 from rfl]
  rw [h]
  have u0 := Tryd.underlying9
  have u1 := Tryd.underlying5
  rw [hf]
  simp only [Op.eqFields]
  simp [go_sem, a0, a1, b0, b1, c0, c1]
  by_cases e : q = p
  · subst e; simp
  · by_cases e1 : p.1 = q.1
    · have e2 : ¬ (p.2 : Int) = (q.2 : Int) := fun h => e (Prod.ext e1.symm (by omega))
      simp [e1, e2, e]
    · simp [e1, e]
theorem placeCheckAt (e : Bool) (d : Nat) (k : Bytes × Nat) (w : World) : (Instr.checkKey e (d + 1 + 1) 78 (eK k)).run Tryd.prog w = .ok () w := by
  unfold eK str
  obtain ⟨f0, f1, hu, a0, a1, b0, b1, c0, c1⟩ := placeFields
  have u0 := Tryd.underlying9
  have u1 := Tryd.underlying5
  simp [Instr.checkKey, run_underlying hu, run_underlying u0, run_underlying u1, go_sem, a0, a1, b0, b1, c0, c1]
theorem placeCheck (e : Bool) (k : Bytes × Nat) (w : World) : (Instr.checkKey e 10000 78 (eK k)).run Tryd.prog w = .ok () w := placeCheckAt e 9998 k w
theorem find_asking {P : Program} {K : Type} [DecidableEq K] {kt : TypeId} {enc : K → Value} (heq : ∀ p q w, (Op.equal kt (enc p) (enc q)).run P w = .ok (decide (q = p)) w) (k : K) :
    ∀ (es : List MapEntry) (l : List K) (n : Nat) (w : World), es.map (·.key) = l.map enc → (Instr.findAsking kt (enc k) es n).run P w = .ok ((l.findIdx? fun x => decide (x = k)).bind fun i => (es[i]?).map fun e => (n + i, e.val)) w
  | [], [], n, w, _ => by simp [Instr.findAsking]
  | e :: es, x :: l, n, w, h => by
    simp at h
    have ih := find_asking heq k es l (n + 1) w h.2
    unfold Instr.findAsking
    rw [h.1]
    simp only [Sem.run_bind, heq, Result.andThen_ok]
    by_cases hx : x = k
    · simp [hx, List.findIdx?_cons]
    · simp only [hx, decide_false, Bool.false_eq_true, if_false, ih, List.findIdx?_cons]
      cases (l.findIdx? fun x => decide (x = k)) with
      | none => rfl
      | some i => simp [Nat.add_comm, Nat.add_left_comm]
theorem placeLaw : KLaw Tryd.prog 78 eK where
  chk := placeCheck
  find k es l w h := by
    obtain ⟨f0, f1, hu, _⟩ := placeFields
    rw [run_findKey_eq w (by rw [hu])]
    have := find_asking placeEq k es l 0 w h
    simpa using this
  same k := by
    simp [eK, str, Instr.sameBits, beq_toListBytes]

/-! ### The domains, as a list of their own -/
def insB (x : Bytes) : List Bytes → List Bytes
  | [] => [x]
  | y :: l => if cmpB x y < 0 then x :: y :: l else if x = y then y :: l else y :: insB x l
theorem mem_insB {x z : Bytes} : ∀ {l : List Bytes}, z ∈ insB x l ↔ z = x ∨ z ∈ l
  | [] => by simp [insB]
  | y :: l => by
    unfold insB
    split
    · simp
    · split
      · rename_i h; subst h; simp
      · simp [mem_insB (l := l)]; constructor <;> (rintro (h | h | h) <;> simp [h])
theorem asc_insB {x : Bytes} : ∀ {l : List Bytes}, Asc cmpB l → Asc cmpB (insB x l)
  | [], _ => by simp [insB, Asc]
  | y :: l, h => by
    unfold Asc at h ⊢
    rw [List.pairwise_cons] at h
    unfold insB
    split
    · rename_i hxy
      rw [List.pairwise_cons, List.pairwise_cons]
      refine ⟨fun z hz => ?_, h.1, h.2⟩
      rcases List.mem_cons.1 hz with e | e
      · rw [e]; exact hxy
      · exact cmpB_trans hxy (h.1 z e)
    · split
      · rw [List.pairwise_cons]; exact h
      · rename_i h1 h2
        rw [List.pairwise_cons]
        refine ⟨fun z hz => ?_, asc_insB h.2⟩
        rcases mem_insB.1 hz with e | e
        · rw [e]
          have := cmpB_swap x y
          have h3 : cmpB x y ≠ 0 := fun e0 => h2 (cmpB_eq e0)
          omega
        · exact h.1 z e
def domsL (l : Ent) : List Bytes := (l.map (·.1.1)).foldr insB []
theorem mem_foldr_insB {x : Bytes} : ∀ {l : List Bytes}, x ∈ l.foldr insB [] ↔ x ∈ l
  | [] => by simp
  | y :: l => by simp [mem_insB, mem_foldr_insB (l := l)]
theorem asc_foldr_insB : ∀ {l : List Bytes}, Asc cmpB (l.foldr insB [])
  | [] => List.Pairwise.nil
  | _ :: l => asc_insB (asc_foldr_insB (l := l))
theorem mem_domsL {l : Ent} {d : Bytes} : d ∈ domsL l ↔ d ∈ l.map (·.1.1) := mem_foldr_insB
theorem asc_domsL (l : Ent) : Asc cmpB (domsL l) := asc_foldr_insB
theorem domsL_uniq {l : Ent} {ds : List Bytes} (h : Asc cmpB ds) (hm : ∀ d, d ∈ ds ↔ d ∈ l.map (·.1.1)) : ds = domsL l := Asc.uniq ordB h (asc_domsL l) (fun d => (hm d).trans mem_domsL.symm)
theorem length_insB {x : Bytes} : ∀ {l : List Bytes}, (insB x l).length ≤ l.length + 1
  | [] => by simp [insB]
  | y :: l => by
    unfold insB
    split
    · simp
    · split
      · simp
      · have := length_insB (x := x) (l := l); simp; omega
theorem length_foldr_insB : ∀ {l : List Bytes}, (l.foldr insB []).length ≤ l.length
  | [] => by simp
  | y :: l => by
    have := length_foldr_insB (l := l)
    have := length_insB (x := y) (l := l.foldr insB [])
    simp; omega
theorem length_domsL (l : Ent) : (domsL l).length ≤ l.length := by
  have := length_foldr_insB (l := l.map (·.1.1))
  simpa [domsL] using this
theorem domains_any' (b bm : Nat) (names : Int) (l : Ent) (w : World) (h : TallyAt w b bm names l) (hl : l.length ≤ 1000000) :
    Calls Tryd.prog 13 #[.pointer (some ⟨b, 0, none⟩)] w fun e w' => ∃ v, e = .returned v ∧ w'.ownsRow (w.heap.size + 1) 9 1 v (domsL l).length ((domsL l).map str) ∧ Below w.heap.size w w' := by
  refine (domains_any b bm names l w h hl).mono ?_
  rintro e w' ⟨v, ds, rfl, hA, hm, ho, hb⟩
  obtain rfl := domsL_uniq hA hm
  exact ⟨v, rfl, ho, hb⟩

theorem containsS_mem (ds : List Bytes) (d : Bytes) : Lib.containsS (ds.map fun x => ⟨x.toArray⟩) ⟨d.toArray⟩ = decide (d ∈ ds) := by
  rw [Bool.eq_iff_iff, Lib.containsS_iff]
  simp
def roomB (names : Int) (l : Ent) (d : Bytes) : Bool := decide (((domsL l).length : Int) < names) || decide (d ∈ domsL l)

theorem contains_own {W : World} {base : Nat} {v : Value} {ds : List Bytes} {n : Nat} (hn : n = ds.length) (h : W.ownsRow base 9 1 v n (ds.map str)) (hl : n ≤ 1000000) (d : Bytes) :
    Calls Tryd.prog 64 #[v, .string ⟨d.toArray⟩] W fun e w' => e = .returned (.bool (decide (d ∈ ds))) ∧ w' = W := by
  rcases h.2 with ⟨rfl, h0⟩ | ⟨g, cap, cur, rfl, hgb, hgc, hcap, hcm, hcs, htk⟩
  · have : ds = [] := List.eq_nil_of_length_eq_zero (by omega)
    subst this
    simpa using Tryd.slices_Contains_string_empty none 0 ⟨d.toArray⟩ W
  · obtain ⟨g', cap', e', _, _, _, _, _, H2⟩ := Lib.holds_of_ownsRow h (by simp)
    injection e' with e1 _ e3
    injection e1 with e1
    injection e1 with e1
    subst e1; subst e3
    have hz : ∀ j, j < (ds.map fun x => (⟨x.toArray⟩ : ByteArray)).length → W.cell? ⟨g, 0 + j, none⟩ = some (.string ((ds.map fun x => (⟨x.toArray⟩ : ByteArray)).getD j ByteArray.empty)) := by
      intro j hj
      simp at hj
      have := (H2 j (by simpa using hj)).1
      rw [this]
      simp [str, hj, List.getD]
    have := Tryd.slices_Contains_string g 0 n cap (ds.map fun x => ⟨x.toArray⟩) ⟨d.toArray⟩ W (by simp [hn]) (by omega) hz
    rw [List.take_of_length_le (by simp [hn]), containsS_mem] at this
    exact this

set_option maxRecDepth 100000 in
theorem room_any (b bm : Nat) (names : Int) (l : Ent) (d : Bytes) (w : World) (h : TallyAt w b bm names l) (hl : l.length ≤ 1000000) :
    Calls Tryd.prog 43 #[.pointer (some ⟨b, 0, none⟩), .string ⟨d.toArray⟩] w fun e w' => e = .returned (.bool (roomB names l d)) ∧ Below w.heap.size w w' := by
  have hlt := h.lt
  have hbm := h.2.lt
  have hle := length_domsL l
  have HD := domains_any' b bm names l w h hl
  go_enter Tryd.func43, Tryd.ntmps43
  go_wp2_with fail
  refine HD.mono ?_
  rintro e w' ⟨v, rfl, ho, hb⟩
  have h2 := h.below hb hlt hbm
  obtain ⟨c0, c1⟩ := h2.obj
  have HC := contains_own rfl ho (by omega) d
  have hsh : ∃ p n c, v = .slice p n c ∧ n = (domsL l).length := by
    rcases ho.2 with ⟨rfl, h0⟩ | ⟨g, cap, cur, rfl, _⟩
    · exact ⟨none, 0, 0, rfl, h0.symm⟩
    · exact ⟨_, _, _, rfl, rfl⟩
  obtain ⟨p, n, c, rfl, hn⟩ := hsh
  clear h h2 ho HD hle
  have hB : roomB names l d = (decide ((n : Int) < names) || decide (d ∈ domsL l)) := by rw [hn]; rfl
  clear hn
  have HB := Lib.hid hB
  clear hB
  by_cases hc : (n : Int) < names
  · go_wp2
    refine bodyPost_ret (v := .bool true) (by simp [results, Tryd.results43, go_sem]) rfl ⟨?_, hb⟩
    rw [HB.out]
    simp [hc]
  · go_wp2_with fail
    refine HC.mono ?_
    rintro e w' ⟨rfl, rfl⟩
    go_wp2
    refine bodyPost_ret (v := .bool (decide (d ∈ domsL l))) (by simp [results, Tryd.results43, go_sem]; intro hx; omega) rfl ⟨?_, hb⟩
    rw [HB.out]
    simp
    intro hx; omega
end Go.Proofs.YthhcigmdocldnaaDoor
