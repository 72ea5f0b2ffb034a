/- DeleteFunc, MinFunc over entries; first. -/
import Derived.Test.YtojhledbfaninaaCfirst
namespace Go.Proofs.Ytojhledbfaninaa
open Go Go.RowKit Go.Shelf Go.Sort
attribute [local go_sem] bneI

theorem frozE {w : World} {g : Nat} {ps : List EM} (h : ERow w g ps) {i : Nat} (hi : i < ps.length) :
    w.frozen? ⟨g, i * 6, none⟩ = false ∧ w.frozen? ⟨g, i * 6 + 1, none⟩ = false ∧ w.frozen? ⟨g, i * 6 + 2, none⟩ = false ∧ w.frozen? ⟨g, i * 6 + 3, none⟩ = false ∧ w.frozen? ⟨g, i * 6 + 4, none⟩ = false ∧ w.frozen? ⟨g, i * 6 + 5, none⟩ = false :=
  ⟨(h.cell hi (k := 0) rfl).2, (h.cell hi (k := 1) rfl).2, (h.cell hi (k := 2) rfl).2, (h.cell hi (k := 3) rfl).2, (h.cell hi (k := 4) rfl).2, (h.cell hi (k := 5) rfl).2⟩
theorem clearE {W : World} {g : Nat} {zs : List EM} (h : ERow W g zs) {i : Nat} (hi : i < zs.length) (c : Nat) (ty : TypeId) :
    (Builtin.clear_ #[34] ty #[.slice (some ⟨g, i * 6, none⟩) (zs.length - i) c]).run Try.prog W = .ok (.tuple #[]) (W.setCells g (i * 6) (Builtin.zeroCells #[.string ⟨#[]⟩, .string ⟨#[]⟩, .int .u8 0, .slice none 0 0, .int .i64 0, .int .i64 0] (zs.length - i)).toList) ∧
    ERow (W.setCells g (i * 6) (Builtin.zeroCells #[.string ⟨#[]⟩, .string ⟨#[]⟩, .int .u8 0, .slice none 0 0, .int .i64 0, .int .i64 0] (zs.length - i)).toList) g (zs.take i) := by
  obtain ⟨Z, hZ⟩ : ∃ Z, Z = (Builtin.zeroCells #[.string ⟨#[]⟩, .string ⟨#[]⟩, .int .u8 0, .slice none 0 0, .int .i64 0, .int .i64 0] (zs.length - i)).toList := ⟨_, rfl⟩
  have hl : Z.length = (zs.length - i) * 6 := by rw [hZ]; simp [Builtin.zeroCells]
  have h1 : ∀ v ∈ Z, v.oneCell' = true := by
    intro v hv
    rw [hZ] at hv
    simp only [Builtin.zeroCells, Array.toList_map, List.mem_map] at hv
    obtain ⟨k, _, rfl⟩ := hv
    have hk : k % 6 < 6 := Nat.mod_lt _ (by decide)
    show (#[Value.string ⟨#[]⟩, .string ⟨#[]⟩, .int .u8 0, .slice none 0 0, .int .i64 0, .int .i64 0][k % 6]!).oneCell' = true
    generalize k % 6 = r at hk
    match r, hk with
    | 0, _ => rfl
    | 1, _ => rfl
    | 2, _ => rfl
    | 3, _ => rfl
    | 4, _ => rfl
    | 5, _ => rfl
    | n + 6, h => omega
  have hst := stores_of_holds Try.prog (show Holds id W g 0 _ from h) (i * 6) Z (by rw [hl, size_flatK]; simp; omega) h1
  rw [Nat.zero_add] at hst
  constructor
  · rw [← hZ]
    have hz := Try.zeroValue27
    obtain ⟨m, hm⟩ : ∃ m, zs.length - i = m + 1 := ⟨zs.length - i - 1, by omega⟩
    rw [hm] at hZ ⊢
    have hz2 : ∀ w, (zeroValue 27).run Try.prog w = .ok (.agg #[.string ⟨#[]⟩, .string ⟨#[]⟩, .int .u8 0, .slice none 0 0, .int .i64 0, .int .i64 0]) w := hz
    simp [Builtin.clear_, run_underlying Try.underlying34, hz2, Value.cells, ← hZ, hst]
  · rw [← hZ]
    intro j hj
    have hj' : j < (zs.take i).length * 6 := by simpa [size_flatK] using hj
    have hli : (zs.take i).length = i := by simp; omega
    have := (h.take i) j hj
    rw [World.frozen?_setCells]
    rw [World.cell?_setCells_out g Z (i * 6) W ⟨g, 0 + j, none⟩ (fun _ _ => .inl (by show 0 + j < i * 6; omega))]
    exact this
set_option maxRecDepth 100000 in
set_option maxHeartbeats 2000000 in
theorem deleteE_any (n1 : Nat) (w1 : World) (f : PE → Bool) (cb : Nat) (hd : Counts n1 w1 44 #[.pointer (some ⟨cb, 0, none⟩)] (fun p => !f p)) (hn1 : n1 ≤ w1.heap.size)
    (ps : List EM) (g cap : Nat) (w : World) (hw : Below n1 w1 w) (hr : ERow w g ps) (hg : g < w.heap.size) (hgn : n1 ≤ g) (hn : ps.length ≤ 1000000) (hcap : ps.length ≤ cap) :
    Calls Try.prog 43 #[.slice (some ⟨g, 0, none⟩) ps.length cap, .func (.func 44) #[] #[.pointer (some ⟨cb, 0, none⟩)]] w fun e w' =>
      e = .returned (.slice (some ⟨g, 0, none⟩) (ps.filter fun x => f x.1).length cap) ∧ ERow w' g (ps.filter fun x => f x.1) ∧ Below n1 w1 w' := by
  have hI := indexE_any n1 w1 f cb hd hn1 ps g cap w hw hr hg hn
  have HH := Lib.hid (And.intro hw (And.intro hr (And.intro hd (And.intro hn1 hgn))))
  clear hw hr hd hn1 hgn
  go_enter Try.func43, Try.ntmps43
  go_wp2_with fail
  refine hI.mono ?_
  rintro e w2 ⟨he, hb2⟩
  rcases he with ⟨rfl, hall⟩ | ⟨k, hk, rfl, ha, hno⟩
  · have hfil : (ps.filter fun x => f x.1) = ps := List.filter_eq_self.2 hall
    have HF := Lib.hid (And.intro hfil hb2)
    clear hall hfil hb2 hI
    go_wp2
    refine bodyPost_ret (v := .slice (some ⟨g, 0, none⟩) ps.length cap) (by simp [results, Try.results43, go_sem]) rfl ?_
    rw [HF.out.1]
    exact ⟨rfl, HH.out.2.1.below HF.out.2 hg, HH.out.1.trans (HF.out.2.mono (Nat.le_trans HH.out.2.2.2.1 HH.out.1.size))⟩
  · have hk1 : ((k : Int) == -1) = false := beq_eq_false_iff_ne.2 (by omega)
    have HF := Lib.hid (And.intro (DInv.start hk ha hno) hb2)
    clear ha hno hb2 hI
    go_wp2_with fail
    go_loopw [5, 6] (fun s5 s6 wr => ∃ (i j : Nat) (zs : List EM), s5 = .int .i64 (i : Int) ∧ s6 = .int .i64 (j : Int) ∧ j ≤ ps.length ∧ DInv f ps j i zs ∧ ERow wr g zs ∧ Below n1 w1 wr ∧ w2.heap.size ≤ wr.heap.size) (fun _ s6 _ => ps.length - natI s6)
    case atStart =>
      exact ⟨k, k + 1, ps, rfl, by simp, by omega, HF.out.1, HH.out.2.1.below HF.out.2 hg, HH.out.1.trans (HF.out.2.mono (Nat.le_trans HH.out.2.2.2.1 HH.out.1.size)), Nat.le_refl _⟩
    case round =>
      obtain ⟨i, j, zs, rfl, rfl, hj, hD, hR, hB, hsz⟩ := hrel
      have hzl := hD.len
      have hij := hD.lt
      by_cases hlast : j < ps.length
      · have hli : (j : Int) < (ps.length : Int) := by omega
        obtain ⟨c0, c1, c2, c3, c4, c5⟩ := hR.six (i := j) (by omega)
        have hgw : g < wr.heap.size := cell_lt c0
        have hget := hD.get hlast
        have hkeep := hD.keep hlast
        have hskip := hD.skip hlast
        rw [hget] at c0 c1 c2 c3 c4 c5
        clear hget
        obtain ⟨x, hx⟩ : ∃ x, x = ps[j] := ⟨_, rfl⟩
        rw [← hx] at c0 c1 c2 c3 c4 c5 hkeep hskip
        clear hx
        have HD := Lib.hid (And.intro hkeep (And.intro hskip (And.intro hR (And.intro hB hsz))))
        have hcall := HH.out.2.2.1 (wr.alloc (ebox x)) x (hB.trans ((((Below.refl _ wr).alloc (Nat.le_refl _) _)).mono (Nat.le_trans HH.out.2.2.2.1 hB.size)))
        clear hD hkeep hskip hR hB hsz
        obtain ⟨⟨d, ii, m, mx, age, unt⟩, p, n, c⟩ := x
        rw [lit_ev] at hcall
        dsimp only at c0 c1 c2 c3 c4 c5 hcall HD
        replace hcall : Calls Try.prog 44 #[.agg #[.string ⟨d.toArray⟩, .string ⟨ii.toArray⟩, .int .u8 (m : Int), .slice p n c, .int .i64 age, .int .i64 unt], .pointer (some ⟨cb, 0, none⟩)] (wr.alloc (.cells #[.string ⟨d.toArray⟩, .string ⟨ii.toArray⟩, .int .u8 (m : Int), .slice p n c, .int .i64 age, .int .i64 unt] 27)) _ := hcall
        generalize hfx : f ⟨d, ii, m, mx, age, unt⟩ = r at hcall HD
        clear hfx
        go_wp2_with fail
        refine hcall.mono ?_
        rintro e w4 ⟨rfl, hb4⟩
        have hB4 : Below wr.heap.size wr w4 := ((Below.refl _ wr).alloc (Nat.le_refl _) _).trans (hb4.mono (by simp))
        have hbox : w4.heap[wr.heap.size]? = some (.cells #[.string ⟨d.toArray⟩, .string ⟨ii.toArray⟩, .int .u8 (m : Int), .slice p n c, .int .i64 age, .int .i64 unt] 27 (0, 0)) := (hb4.block _ (by simp)).trans (ha_eq rfl)
        have hR4 : ERow w4 g zs := HD.out.2.2.1.below hB4 hgw
        have hB14 : Below n1 w1 w4 := HD.out.2.2.2.1.trans (hB4.mono (Nat.le_trans HH.out.2.2.2.1 HD.out.2.2.2.1.size))
        have hsz4 : w2.heap.size ≤ w4.heap.size := Nat.le_trans HD.out.2.2.2.2 hB4.size
        clear c0 c1 c2 c3 c4 c5 hcall hb4 hB4
        cases r
        · have HE := Lib.hid (And.intro (HD.out.2.1 (by simp)) (And.intro hR4 (And.intro hB14 hsz4)))
          clear HD hR4 hB14 hsz4 hbox
          go_wp2
          go_roundw
          case rel => exact ⟨i, j + 1, zs, rfl, by simp, by omega, HE.out.1, HE.out.2.1, HE.out.2.2.1, HE.out.2.2.2⟩
          case measure => simp [natI]; omega
        · obtain ⟨c0, c1, c2, c3, c4, c5⟩ := box6 hbox
          obtain ⟨z0, z1, z2, z3, z4, z5⟩ := hR4.six (i := i) (by omega)
          obtain ⟨f0, f1, f2, f3, f4, f5⟩ := frozE hR4 (i := i) (by omega)
          have hst := (hR4.store (i := i) (by omega) (⟨d, ii, m, mx, age, unt⟩, p, n, c)).2
          have HE := Lib.hid (And.intro (HD.out.1 (by simp)) (And.intro hst (And.intro hB14 hsz4)))
          clear HD hR4 hB14 hsz4 hbox hst
          go_wp2
          go_roundw
          case rel =>
            refine ⟨i + 1, j + 1, _, by simp, by simp, by omega, HE.out.1, HE.out.2.1, ?_, by simpa [World.setCell] using HE.out.2.2.2⟩
            have h1 := HE.out.2.2.1
            have hng := HH.out.2.2.2.2
            repeat (first | with_reducible exact h1 | refine Below.setCell ?_ (by dsimp only; omega) _)
          case measure => simp [natI]; omega
      · have hli : ¬ (j : Int) < (ps.length : Int) := by omega
        obtain rfl : j = ps.length := by omega
        have hfil := hD.fil
        rw [List.take_length] at hfil
        have hlen : i = (ps.filter fun x => f x.1).length := by rw [← hfil]; simp; omega
        have hcl := fun ty => (clearE hR (show i < zs.length by omega) (cap - i) ty).1
        have hrow := (clearE hR (show i < zs.length by omega) (cap - i) 0).2
        rw [hfil] at hrow
        rw [hzl] at hcl hrow
        obtain ⟨Z, hZ⟩ : ∃ Z, Z = (Builtin.zeroCells #[.string ⟨#[]⟩, .string ⟨#[]⟩, .int .u8 0, .slice none 0 0, .int .i64 0, .int .i64 0] (ps.length - i)).toList := ⟨_, rfl⟩
        rw [← hZ] at hcl hrow
        clear hZ
        have hfin : Below n1 w1 (wr.setCells g (i * 6) Z) := hB.grown (grownBy_setCells wr g (i * 6) Z) (Nat.le_trans HH.out.2.2.2.1 hB.size) (fun k e => by cases e; exact HH.out.2.2.2.2)
        have HE := Lib.hid (And.intro hlen (And.intro hrow hfin))
        clear hfil hlen hrow hfin hD hR hB hzl
        have hip : i < ps.length := hij
        go_wp2
        refine bodyPost_ret (v := .slice (some ⟨g, 0, none⟩) i cap) (by simp [results, Try.results43, go_sem]) rfl ?_
        exact ⟨by rw [← HE.out.1], HE.out.2.1, HE.out.2.2⟩
end Go.Proofs.Ytojhledbfaninaa
