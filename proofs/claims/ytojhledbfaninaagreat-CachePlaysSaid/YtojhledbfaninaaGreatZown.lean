/- Copies of texts lie in blocks that may be written: Copy, own, Of, All again. -/
import Derived.Test.YtojhledbfaninaaGreatZlearn
namespace Go.Proofs.YtojhledbfaninaaGreat
open Go Go.RowKit Go.Shelf Go.Sort
attribute [local go_sem] bneI

/-- A block of cells, none of them frozen. -/
def NF (w : World) (k : Nat) : Prop := ∃ cs t, w.heap[k]? = some (.cells cs t (0, 0))
theorem NF.lt {w : World} {k : Nat} (h : NF w k) : k < w.heap.size := by
  obtain ⟨cs, t, h⟩ := h
  exact (Array.getElem?_eq_some_iff.1 h).1
theorem NF.below {w w' : World} {k : Nat} (h : NF w k) (hb : Below w.heap.size w w') : NF w' k := by
  have hl := h.lt
  obtain ⟨cs, t, h⟩ := h
  exact ⟨cs, t, (hb.block k hl).trans h⟩
theorem NF.setCell {w : World} {k : Nat} (h : NF w k) (b off : Nat) (v : Value) : NF (w.setCell ⟨b, off, none⟩ v) k := by
  obtain ⟨cs, t, h⟩ := h
  by_cases e : k = b
  · subst e
    exact ⟨_, t, heap_setCell_self h⟩
  · exact ⟨cs, t, (Below.heap_setCell w ⟨b, off, none⟩ v k e).trans h⟩
theorem NF.grown {w w' : World} {k g : Nat} (h : NF w k) (hg : w.grownBy w' (some g)) (hk : k ≠ g) : NF w' k := by
  have hl := h.lt
  obtain ⟨cs, t, h⟩ := h
  exact ⟨cs, t, (hg.block k hl (fun e => hk (Option.some.inj e))).trans h⟩
theorem NF.frozen {w : World} {k : Nat} (h : NF w k) (off : Nat) : w.frozen? ⟨k, off, none⟩ = false := by
  obtain ⟨cs, t, h⟩ := h
  exact froz6 h off
theorem MxL.mono {W : World} {P P' : Nat → Prop} {h : SH} {mx : List Bytes} (hm : MxAt W (fun k => P k ∧ NF W k) h mx) (hp : ∀ k, P k → P' k) : MxAt W (fun k => P' k ∧ NF W k) h mx := hm.mono fun k hk => ⟨hp k hk.1, hk.2⟩
theorem MxL.setCell {W : World} {P : Nat → Prop} {h : SH} {mx : List Bytes} {b off : Nat} {v : Value} (hm : MxAt W (fun k => P k ∧ NF W k) h mx) (hb : ∀ k, P k → k ≠ b) : MxAt (W.setCell ⟨b, off, none⟩ v) (fun k => P k ∧ NF (W.setCell ⟨b, off, none⟩ v) k) h mx :=
  (MxAt.setCell (a := ⟨b, off, none⟩) (v := v) hm fun k hk => hb k hk.1).mono fun k hk => ⟨hk.1, hk.2.setCell b off v⟩
theorem MxL.below {W W' : World} {P : Nat → Prop} {h : SH} {mx : List Bytes} (hm : MxAt W (fun k => P k ∧ NF W k) h mx) (hb : Below W.heap.size W W') : MxAt W' (fun k => P k ∧ NF W' k) h mx :=
  (MxAt.below hm hb).mono fun k hk => ⟨hk.1, hk.2.below hb⟩
theorem mx_ownL {w : World} {base n : Nat} {v : Value} {mx : List Bytes} (hn : n = mx.length) (h : w.ownsRow base 9 1 v n (mx.map str)) : ∃ h' : SH, v = shV h' ∧ MxAt w (fun k => base ≤ k ∧ NF w k) h' mx := by
  subst hn
  rcases h.2 with ⟨rfl, h0⟩ | ⟨g, cap, cur, rfl, hb, hg, _⟩
  · exact ⟨(none, 0, 0), rfl, h0.symm, fun _ => rfl, fun a e => (by cases e)⟩
  · refine ⟨(some ⟨g, 0, none⟩, mx.length, cap), rfl, rfl, fun e => (by cases e), fun a e => ?_⟩
    cases e
    exact ⟨fun _ => ⟨hb, _, _, hg⟩, fun j u hj => h.cells (g := g) rfl j (str u) (by simp [hj])⟩
theorem cloneMxL_any (h : SH) (mx : List Bytes) (B : Nat → Prop) (w : World) (hm : MxAt w B h mx) (hn : mx.length ≤ 1000000) :
    Calls Tryz.prog 21 #[shV h] w fun e w' => ∃ h' : SH, e = .returned (shV h') ∧ MxAt w' (fun k => w.heap.size ≤ k ∧ NF w' k) h' mx ∧ Below w.heap.size w w' := by
  rcases hm.shape with ⟨rfl, p, c, rfl⟩ | ⟨hne, b, o, c, rfl, -, hb, hc⟩
  · cases p with
    | none =>
      refine (Tryz.slices_Clone_string_nil 0 c w).mono ?_
      rintro e w' ⟨rfl, rfl⟩
      exact ⟨(none, 0, 0), rfl, ⟨rfl, fun _ => rfl, fun a e => (by cases e)⟩, Below.refl _ _⟩
    | some a =>
      refine (Tryz.slices_Clone_string_zero a c w).mono ?_
      rintro e w' ⟨v, rfl, ho, _, hB⟩
      obtain ⟨h', rfl, hm'⟩ := mx_ownL (mx := []) rfl ho
      exact ⟨h', rfl, hm', hB⟩
  · have hz : ∀ j, j < (mx.map fun x => (⟨x.toArray⟩ : ByteArray)).length → w.cell? ⟨b, o + j, none⟩ = some (.string ((mx.map fun x => (⟨x.toArray⟩ : ByteArray)).getD j ByteArray.empty)) := by
      intro j hj
      simp at hj
      rw [hc j mx[j] (List.getElem?_eq_getElem hj)]
      simp [str, hj, List.getD]
    refine (Tryz.slices_Clone_string b o mx.length c _ w (by simp) (by omega) hz).mono ?_
    rintro e w' ⟨v, rfl, ho, _, hB⟩
    rw [List.take_of_length_le (by simp), List.map_map] at ho
    obtain ⟨h', rfl, hm'⟩ := mx_ownL (mx := mx) rfl ho
    exact ⟨h', rfl, hm', hB⟩

set_option maxRecDepth 100000 in
set_option maxHeartbeats 2000000 in
theorem polCopyL_any (m : Nat) (h : SH) (mx : List Bytes) (age : Int) (B : Nat → Prop) (w : World) (hm : MxAt w B h mx) (hn : mx.length ≤ 1000000) :
    Calls Tryz.prog 10 #[pcl m h age] w fun e w' => ∃ h' : SH, e = .returned (pcl m h' age) ∧ MxAt w' (fun k => w.heap.size ≤ k ∧ NF w' k) h' mx ∧ Below w.heap.size w w' := by
  have hC := fun (W : World) (hb : Below w.heap.size w W) => cloneMxL_any h mx B W (hm.below hb) hn
  obtain ⟨p, n, c⟩ := h
  unfold pcl shV
  unfold shV at hC
  dsimp only at hC ⊢
  clear hm
  obtain ⟨W, hW⟩ : ∃ W, W = (w.alloc (.cells #[.int .u8 (m : Int), .slice p n c, .int .i64 age] 34)).alloc (.cells #[.int .u8 0, .slice none 0 0, .int .i64 0] 34) := ⟨_, rfl⟩
  have hB : Below w.heap.size w W := by rw [hW]; exact ((Below.refl _ w).alloc (Nat.le_refl _) _).alloc (by simp) _
  have hCW := hC W hB
  clear hC
  have hs : W.heap.size = w.heap.size + 2 := by rw [hW]; simp
  have hbox : W.heap[w.heap.size]? = some (.cells #[.int .u8 (m : Int), .slice p n c, .int .i64 age] 34 (0, 0)) := by rw [hW, ha_ne (by simp), ha_eq rfl]
  have hres : W.heap[w.heap.size + 1]? = some (.cells #[.int .u8 0, .slice none 0 0, .int .i64 0] 34 (0, 0)) := by rw [hW, ha_eq (by simp)]
  have c1 : W.cell? ⟨w.heap.size, 1, none⟩ = some (.slice p n c) := by simp [World.cell?, hbox]
  go_enter Tryz.func10, Tryz.ntmps10
  go_wp2_with fail
  rw [← hW]
  clear hW
  have HB := Lib.hid (And.intro hB (And.intro hbox (And.intro hres hs)))
  clear hB hbox hres
  refine hCW.mono ?_
  rintro e w1 ⟨⟨p', n', c'⟩, rfl, hm', hb1⟩
  have hbox1 := (hb1.block _ (by rw [HB.out.2.2.2]; omega)).trans HB.out.2.1
  have hres1 := (hb1.block _ (by rw [HB.out.2.2.2]; omega)).trans HB.out.2.2.1
  dsimp only
  have d0 : w1.cell? ⟨w.heap.size, 0, none⟩ = some (.int .u8 (m : Int)) := by simp [World.cell?, hbox1]
  have d1 : w1.cell? ⟨w.heap.size, 1, none⟩ = some (.slice p n c) := by simp [World.cell?, hbox1]
  have d2 : w1.cell? ⟨w.heap.size, 2, none⟩ = some (.int .i64 age) := by simp [World.cell?, hbox1]
  have z0 : w1.cell? ⟨w.heap.size + 1, 0, none⟩ = some (.int .u8 0) := by simp [World.cell?, hres1]
  have z1 : w1.cell? ⟨w.heap.size + 1, 1, none⟩ = some (.slice none 0 0) := by simp [World.cell?, hres1]
  have z2 : w1.cell? ⟨w.heap.size + 1, 2, none⟩ = some (.int .i64 0) := by simp [World.cell?, hres1]
  have f0 := froz6 hbox1
  have f1 := froz6 hres1
  have HM := Lib.hid (And.intro hm' hb1)
  clear hm' hb1 hbox1 hres1 hCW
  go_wp2
  have hM2 : MxAt w1 (fun k => w.heap.size + 2 ≤ k ∧ NF w1 k) (p', n', c') mx := MxL.mono HM.out.1 (fun k hk => by omega)
  have hB2 : Below w.heap.size w w1 := HB.out.1.trans (HM.out.2.mono (by omega))
  refine bodyPost_ret (v := .agg #[.int .u8 (m : Int), .slice p' n' c', .int .i64 age]) (by simp [results, Tryz.results10, go_sem, z0, z1, z2]) rfl ⟨(p', n', c'), rfl, ?_, ?_⟩
  · refine MxL.mono (P := fun k => w.heap.size + 2 ≤ k) ?_ (fun k hk => by omega)
    repeat (first | with_reducible exact hM2 | refine MxL.setCell (P := fun k => w.heap.size + 2 ≤ k) ?_ (by intro k hk; (try dsimp only at *); omega))
  · exact (((hB2.setCell (p := ⟨w.heap.size, 1, none⟩) (Nat.le_refl _) _).setCell (p := ⟨w.heap.size + 1, 0, none⟩) (Nat.le_succ _) _).setCell (p := ⟨w.heap.size + 1, 1, none⟩) (Nat.le_succ _) _).setCell (p := ⟨w.heap.size + 1, 2, none⟩) (Nat.le_succ _) _

set_option maxRecDepth 100000 in
set_option maxHeartbeats 2000000 in
theorem ownL_any (x : EM) (B : Nat → Prop) (w : World) (hm : MxAt w B x.2 x.1.mx) (hn : x.1.mx.length ≤ 1000000) :
    Calls Tryz.prog 26 #[evp x] w fun e w' => ∃ h' : SH, e = .returned (evp (x.1, h')) ∧ MxAt w' (fun k => w.heap.size ≤ k ∧ NF w' k) h' x.1.mx ∧ Below w.heap.size w w' := by
  obtain ⟨⟨d, i, m, mx, age, unt⟩, p, n, c⟩ := x
  dsimp only at hm hn ⊢
  have hC := fun (W : World) (hb : Below w.heap.size w W) => polCopyL_any m (p, n, c) mx age B W (hm.below hb) hn
  rw [lit_ev]
  unfold pcl shV at hC
  dsimp only at hC ⊢
  clear hm
  obtain ⟨W, hW⟩ : ∃ W, W = (w.alloc (.cells #[.string ⟨d.toArray⟩, .string ⟨i.toArray⟩, .int .u8 (m : Int), .slice p n c, .int .i64 age, .int .i64 unt] 51)).alloc (.cells #[.string ⟨#[]⟩, .string ⟨#[]⟩, .int .u8 0, .slice none 0 0, .int .i64 0, .int .i64 0] 51) := ⟨_, rfl⟩
  have hB : Below w.heap.size w W := by rw [hW]; exact ((Below.refl _ w).alloc (Nat.le_refl _) _).alloc (by simp) _
  have hCW := hC W hB
  clear hC
  have hs : W.heap.size = w.heap.size + 2 := by rw [hW]; simp
  have hbox : W.heap[w.heap.size]? = some (.cells #[.string ⟨d.toArray⟩, .string ⟨i.toArray⟩, .int .u8 (m : Int), .slice p n c, .int .i64 age, .int .i64 unt] 51 (0, 0)) := by rw [hW, ha_ne (by simp), ha_eq rfl]
  have hres : W.heap[w.heap.size + 1]? = some (.cells #[.string ⟨#[]⟩, .string ⟨#[]⟩, .int .u8 0, .slice none 0 0, .int .i64 0, .int .i64 0] 51 (0, 0)) := by rw [hW, ha_eq (by simp)]
  obtain ⟨c0, c1, c2, c3, c4, c5⟩ := box6 hbox
  go_enter Tryz.func26, Tryz.ntmps26
  go_wp2_with fail
  rw [← hW]
  clear hW
  have HB := Lib.hid (And.intro hB (And.intro hbox (And.intro hres hs)))
  clear hB hbox hres
  refine hCW.mono ?_
  rintro e w1 ⟨⟨p', n', c'⟩, rfl, hm', hb1⟩
  have hbox1 := (hb1.block _ (by rw [HB.out.2.2.2]; omega)).trans HB.out.2.1
  have hres1 := (hb1.block _ (by rw [HB.out.2.2.2]; omega)).trans HB.out.2.2.1
  dsimp only
  clear c0 c1 c2 c3 c4 c5
  obtain ⟨c0, c1, c2, c3, c4, c5⟩ := box6 hbox1
  obtain ⟨z0, z1, z2, z3, z4, z5⟩ := box6 hres1
  have f0 := froz6 hbox1
  have f1 := froz6 hres1
  have HM := Lib.hid (And.intro hm' hb1)
  clear hm' hb1 hbox1 hres1 hCW
  go_wp2
  have hM2 : MxAt w1 (fun k => w.heap.size + 2 ≤ k ∧ NF w1 k) (p', n', c') mx := MxL.mono HM.out.1 (fun k hk => by omega)
  have hB2 : Below w.heap.size w w1 := HB.out.1.trans (HM.out.2.mono (by omega))
  refine bodyPost_ret (v := .agg #[.string ⟨d.toArray⟩, .string ⟨i.toArray⟩, .int .u8 (m : Int), .slice p' n' c', .int .i64 age, .int .i64 unt]) (by simp [results, Tryz.results26, go_sem, z0, z1, z2, z3, z4, z5]) rfl ⟨(p', n', c'), rfl, ?_, ?_⟩
  · refine MxL.mono (P := fun k => w.heap.size + 2 ≤ k) ?_ (fun k hk => by omega)
    repeat (first | with_reducible exact hM2 | refine MxL.setCell (P := fun k => w.heap.size + 2 ≤ k) ?_ (by intro k hk; (try dsimp only at *); omega))
  · repeat (first | with_reducible exact hB2 | refine Below.setCell ?_ (by dsimp only; omega) _)

def OfPostL (w : World) (o : Option PE) (e : Ending) (w' : World) : Prop :=
  (o = none ∧ e = .returned (.tuple #[evp zeroM, .bool false])) ∨ ∃ x : EM, o = some x.1 ∧ e = .returned (.tuple #[evp x, .bool true]) ∧ MxAt w' (fun k => w.heap.size ≤ k ∧ NF w' k) x.2 x.1.mx
set_option maxRecDepth 100000 in
set_option maxHeartbeats 2000000 in
theorem ofL_any (b bm : Nat) (most : Int) (B : Nat → Prop) (L : List PE) (w : World) (h : CacheIs w B b bm most L) (hf : FewE L) (d : Bytes) (now : Int) :
    Calls Tryz.prog 19 #[.pointer (some ⟨b, 0, none⟩), .string ⟨d.toArray⟩, .int .i64 now] w fun e w' => OfPostL w (ofE d now L) e w' ∧ Below w.heap.size w w' := by
  obtain ⟨l, hc, hE⟩ := h
  have hlook := ents_look hE hc.map.nodup hc.key d
  obtain ⟨W, hW⟩ : ∃ W, W = w.alloc (.cells #[.string ⟨#[]⟩, .string ⟨#[]⟩, .int .u8 0, .slice none 0 0, .int .i64 0, .int .i64 0] 51) := ⟨_, rfl⟩
  have hB : Below w.heap.size w W := by rw [hW]; exact (Below.refl _ w).alloc (Nat.le_refl _) _
  have hres : W.heap[w.heap.size]? = some (.cells #[.string ⟨#[]⟩, .string ⟨#[]⟩, .int .u8 0, .slice none 0 0, .int .i64 0, .int .i64 0] 51 (0, 0)) := by rw [hW, ha_eq rfl]
  have hsz : W.heap.size = w.heap.size + 1 := by rw [hW]; simp
  have hcW := hc.below hB
  have hlk := hcW.lookup d
  unfold str at hlk
  obtain ⟨c0, c1⟩ := hcW.cells
  obtain ⟨z0, z1, z2, z3, z4, z5⟩ := box6 hres
  have fz := froz6 hres
  cases hlo : look l d with
  | none =>
    rw [hlo, look_none.1 hlo] at hlk
    rw [hlo] at hlook
    have hof : ofE d now L = none := by unfold ofE; rw [← hlook]; rfl
    have HH := Lib.hid (And.intro hof (And.intro hB (And.intro hsz hres)))
    clear hof hB hcW hc hE hlook hlo hres hsz
    simp only [Option.map_none, Option.getD_none] at hlk
    unfold zeroM at hlk
    rw [lit_ev] at hlk
    go_enter Tryz.func19, Tryz.ntmps19
    go_upto_region 3 with (fail)
    rw [← hW]
    clear hW z0 z1 z2 z3 z4 z5 fz
    go_upto_region 4 with (fail)
    generalize hwC : World.alloc _ _ = wC
    have hBC : Below w.heap.size w wC := by rw [← hwC]; exact HH.out.2.1.alloc HH.out.2.1.size _
    have hresC : wC.heap[w.heap.size]? = some (.cells #[.string ⟨#[]⟩, .string ⟨#[]⟩, .int .u8 0, .slice none 0 0, .int .i64 0, .int .i64 0] 51 (0, 0)) := by rw [← hwC]; exact (ha_ne (by rw [HH.out.2.2.1]; omega)).trans HH.out.2.2.2
    have hAC : W.heap.size = w.heap.size + 1 := HH.out.2.2.1
    clear hwC hlk c0 c1 hAC
    obtain ⟨z0, z1, z2, z3, z4, z5⟩ := box6 hresC
    have fz := froz6 hresC
    go_wp2
    refine bodyPost_ret (v := .tuple #[.agg #[.string ⟨#[]⟩, .string ⟨#[]⟩, .int .u8 0, .slice none 0 0, .int .i64 0, .int .i64 0], .bool false]) (by simp [results, Tryz.results19, go_sem, z0, z1, z2, z3, z4, z5]) rfl ⟨.inl ⟨HH.out.1, rfl⟩, ?_⟩
    repeat (first | with_reducible exact hBC | refine Below.setCell ?_ (by dsimp only; omega) _)
  | some x =>
    have hhas : has l d = true := by
      cases hx : has l d with
      | false => rw [look_none.2 hx] at hlo; cases hlo
      | true => rfl
    rw [hlo, hhas] at hlk
    rw [hlo] at hlook
    have hof : ofE d now L = if now < x.1.unt then some x.1 else none := by unfold ofE; rw [← hlook]; rfl
    have hmx := hcW.mxs _ (look_mem hlo)
    have hfx : x.1.mx.length ≤ 1000000 := hf _ ((hE.mem _).2 (List.mem_map.2 ⟨_, look_mem hlo, rfl⟩))
    have HH := Lib.hid (And.intro hof (And.intro hB (And.intro hsz hres)))
    have HM := Lib.hid (And.intro hmx hfx)
    clear hof hB hcW hc hE hlook hlo hres hsz hmx hfx hhas
    obtain ⟨⟨d1, i1, m1, mx1, age1, unt1⟩, p1, n1, cc1⟩ := x
    simp only [Option.map_some, Option.getD_some] at hlk
    rw [lit_ev] at hlk
    go_enter Tryz.func19, Tryz.ntmps19
    go_upto_region 3 with (fail)
    rw [← hW]
    clear hW z0 z1 z2 z3 z4 z5 fz
    go_upto_region 4 with (fail)
    generalize hwC : World.alloc _ _ = wC
    have hBC : Below w.heap.size w wC := by rw [← hwC]; exact HH.out.2.1.alloc HH.out.2.1.size _
    have hresC : wC.heap[w.heap.size]? = some (.cells #[.string ⟨#[]⟩, .string ⟨#[]⟩, .int .u8 0, .slice none 0 0, .int .i64 0, .int .i64 0] 51 (0, 0)) := by rw [← hwC]; exact (ha_ne (by rw [HH.out.2.2.1]; omega)).trans HH.out.2.2.2
    have hAC : W.heap.size = w.heap.size + 1 := HH.out.2.2.1
    have hbx : wC.heap[W.heap.size]? = some (.cells #[.string ⟨d1.toArray⟩, .string ⟨i1.toArray⟩, .int .u8 (m1 : Int), .slice p1 n1 cc1, .int .i64 age1, .int .i64 unt1] 51 (0, 0)) := by rw [← hwC]; exact ha_eq rfl
    have hWC : Below W.heap.size W wC := by rw [← hwC]; exact (Below.refl _ _).alloc (Nat.le_refl _) _
    have hO := ownL_any (⟨d1, i1, m1, mx1, age1, unt1⟩, (p1, n1, cc1)) B wC (HM.out.1.below hWC) HM.out.2
    rw [lit_ev] at hO
    rw [hAC] at hbx
    have HC := Lib.hid (And.intro hBC hresC)
    clear hwC hlk c0 c1 hWC
    obtain ⟨y0, y1, y2, y3, y4, y5⟩ := box6 hbx
    rw [hAC]
    by_cases hlt : now < unt1
    · have hn : ¬ unt1 ≤ now := by omega
      have HL := Lib.hid hlt
      clear hresC hBC hbx hlt
      go_wp2_with fail
      refine hO.mono ?_
      rintro e w5 ⟨⟨p', n', c'⟩, rfl, hm5, hb5⟩
      have hres5 := (hb5.block _ (Array.getElem?_eq_some_iff.1 HC.out.2).1).trans HC.out.2
      obtain ⟨z0, z1, z2, z3, z4, z5⟩ := box6 hres5
      have fz := froz6 hres5
      have hlt5 : w.heap.size < wC.heap.size := (Array.getElem?_eq_some_iff.1 HC.out.2).1
      have HN := Lib.hid (And.intro (MxL.mono (P' := fun k => w.heap.size + 1 ≤ k) hm5 (fun k hk => Nat.le_trans hlt5 hk)) (HC.out.1.trans (hb5.mono HC.out.1.size)))
      clear hm5 hb5 hres5 hO y0 y1 y2 y3 y4 y5 hlt5
      rw [lit_ev]
      go_wp2
      refine bodyPost_ret (v := .tuple #[.agg #[.string ⟨d1.toArray⟩, .string ⟨i1.toArray⟩, .int .u8 (m1 : Int), .slice p' n' c', .int .i64 age1, .int .i64 unt1], .bool true]) (by simp [results, Tryz.results19, go_sem, z0, z1, z2, z3, z4, z5]) rfl ⟨.inr ⟨(⟨d1, i1, m1, mx1, age1, unt1⟩, (p', n', c')), HH.out.1.trans (if_pos HL.out), rfl, ?_⟩, ?_⟩
      · have h1 := HN.out.1
        refine MxL.mono (P := fun k => w.heap.size + 1 ≤ k) ?_ (fun k hk => by omega)
        repeat (first | with_reducible exact h1 | refine MxL.setCell (P := fun k => w.heap.size + 1 ≤ k) ?_ (by intro k hk; (try dsimp only at *); omega))
      · have h1 := HN.out.2
        repeat (first | with_reducible exact h1 | refine Below.setCell ?_ (by dsimp only; omega) _)
    · have hn : unt1 ≤ now := by omega
      have HL := Lib.hid hlt
      clear hbx hO hlt
      obtain ⟨z0, z1, z2, z3, z4, z5⟩ := box6 hresC
      have fz := froz6 hresC
      go_wp2
      refine bodyPost_ret (v := .tuple #[.agg #[.string ⟨#[]⟩, .string ⟨#[]⟩, .int .u8 0, .slice none 0 0, .int .i64 0, .int .i64 0], .bool false]) (by simp [results, Tryz.results19, go_sem, z0, z1, z2, z3, z4, z5]) rfl ⟨.inl ⟨HH.out.1.trans (if_neg (by have := HL.out; omega)), rfl⟩, ?_⟩
      repeat (first | with_reducible exact hBC | refine Below.setCell ?_ (by dsimp only; omega) _)

/-- What All hands back: its block and its texts may be written. -/
def AllPostL (w : World) (L : List PE) (e : Ending) (w' : World) : Prop :=
  ∃ v zs, e = .returned v ∧ zs.map (·.1) = L ∧ RowE w' v zs ∧ (∀ g, v.ownBlock = some g → zs ≠ [] → v = .slice (some ⟨g, 0, none⟩) zs.length (match v with | .slice _ _ c => c | _ => 0) ∧ w.heap.size ≤ g ∧ NF w' g ∧ TextsE w' (fun k => k ≠ g) zs) ∧ TextsE w' (fun k => w.heap.size ≤ k ∧ NF w' k) zs
/-- All under way. -/
structure AInvL (w wr : World) (B : Nat → Prop) (L : List PE) (g i : Nat) (zs : List EM) : Prop where
  inv : AInv w wr B L g i zs
  nf : NF wr g
  done : ∀ (j : Nat) (hj : j < zs.length), j < i → MxAt wr (fun k => k ≠ g ∧ NF wr k) zs[j].2 zs[j].1.mx
theorem MxAt.and {W : World} {B B' : Nat → Prop} {h : SH} {mx : List Bytes} (h1 : MxAt W B h mx) (h2 : MxAt W B' h mx) : MxAt W (fun k => B k ∧ B' k) h mx :=
  ⟨h1.1, h1.2.1, fun a ha => ⟨fun hn => ⟨(h1.2.2 a ha).1 hn, (h2.2.2 a ha).1 hn⟩, (h1.2.2 a ha).2⟩⟩
theorem NF.setCells {w : World} {g : Nat} : ∀ (vs : List Value) (s : Nat) (w : World), NF w g → NF (w.setCells g s vs) g
  | [], _, _, h => h
  | v :: vs, s, w, h => NF.setCells (w := w) vs (s + 1) _ (h.setCell g s v)
theorem AInvL.step {w wr w5 : World} {B : Nat → Prop} {L : List PE} {g i : Nat} {zs : List EM} (h : AInvL w wr B L g i zs) (hi : i < zs.length) (hg : w.heap.size ≤ g) (hgw : g < wr.heap.size) (hb : Below wr.heap.size wr w5) (s : SH) (hm : MxAt w5 (fun k => wr.heap.size ≤ k ∧ NF w5 k) s zs[i].1.mx) :
    AInvL w (w5.setCells g (i * 6) (ecells (zs[i].1, s))) B L g (i + 1) (zs.set i (zs[i].1, s)) := by
  have hgr := grownBy_setCells w5 g (i * 6) (ecells (zs[i].1, s))
  refine ⟨h.inv.step hi hg hgw hb s (hm.mono fun k hk => hk.1), NF.setCells (w := w5) _ _ _ (h.nf.below hb), fun j hj hlt => ?_⟩
  have keepB : ∀ {t : SH} {m : List Bytes}, MxAt w5 (fun k => k ≠ g ∧ NF w5 k) t m → MxAt (w5.setCells g (i * 6) (ecells (zs[i].1, s))) (fun k => k ≠ g ∧ NF (w5.setCells g (i * 6) (ecells (zs[i].1, s))) k) t m := fun hm' =>
    (hm'.keep fun a v hv hBa => cell_grown hgr hv (fun e => hBa.1 (by injection e with e; exact e.symm))).mono fun k hk => ⟨hk.1, hk.2.grown hgr hk.1⟩
  by_cases e : i = j
  · subst e
    simp only [List.getElem_set_self]
    exact keepB (hm.mono fun k hk => ⟨fun e => by rw [e] at hk; exact absurd hgw (Nat.not_lt.2 hk.1), hk.2⟩)
  · have hj' : j < zs.length := by simpa using hj
    simp only [List.getElem_set_ne e]
    exact keepB (MxL.below (h.done j hj' (by omega)) hb)

set_option maxRecDepth 100000 in
set_option maxHeartbeats 2000000 in
theorem allL_any (b bm : Nat) (most : Int) (B : Nat → Prop) (L : List PE) (w : World) (h : CacheIs w B b bm most L) (hl : L.length ≤ 1000) (hf : FewE L) :
    Calls Tryz.prog 15 #[.pointer (some ⟨b, 0, none⟩)] w fun e w' => AllPostL w L e w' ∧ Below w.heap.size w w' := by
  obtain ⟨l, hc, hE⟩ := h
  have hL := list_any b bm most _ L w ⟨l, hc.lts, hE⟩ hl
  clear hc hE
  go_enter Tryz.func15, Tryz.ntmps15
  go_wp2_with fail
  refine hL.mono ?_
  rintro e w2 ⟨v, ps, rfl, hmap, ho, hb2⟩
  clear hL
  have hpl : ps.length = L.length := by have := congrArg List.length hmap; simpa using this
  rcases ho.1.2 with ⟨rfl, h0⟩ | ⟨g, cap, cur, rfl, hgb, hgc, hcap, hcm, hcs, htk⟩
  · have hps : ps = [] := List.eq_nil_of_length_eq_zero h0
    subst hps
    have hLn : L = [] := hmap.symm
    have HH := Lib.hid (And.intro hLn hb2)
    clear hmap ho hb2 hLn hpl h0
    go_wp2_with fail
    go_loopw [4, 11] (fun _ s11 wr => s11 = .int .i64 0 ∧ wr = w2) (fun _ _ _ => 0)
    case atStart => exact ⟨rfl, rfl⟩
    case round =>
      obtain ⟨rfl, rfl⟩ := hrel
      go_wp2
      refine bodyPost_ret (v := .slice none 0 0) (by simp [results, Tryz.results15, go_sem]) rfl ⟨⟨_, [], rfl, HH.out.1.symm, .inl ⟨rfl, none, 0, rfl⟩, fun g hg => (by cases hg), fun x hx => by simp at hx⟩, HH.out.2⟩
  · have hgw : g < w2.heap.size := (Array.getElem?_eq_some_iff.1 hgc).1
    have hI : AInvL w w2 B L g 0 ps := ⟨⟨hmap, erow_own hgc htk, fun j hj h => absurd h (Nat.not_lt_zero _), fun j hj _ => ho.2 _ (List.getElem_mem hj), hb2⟩, ⟨_, _, hgc⟩, fun j hj h => absurd h (Nat.not_lt_zero _)⟩
    have hn : ps.length ≤ 1000 := by omega
    have HH := Lib.hid (And.intro hI (And.intro hgb hgw))
    clear hmap ho hb2 hI hgc htk hcs hpl hl hgb hgw
    go_wp2_with fail
    go_loopw [4, 11] (fun _ s11 wr => ∃ (i : Nat) (zs : List EM), s11 = .int .i64 (i : Int) ∧ i ≤ ps.length ∧ zs.length = ps.length ∧ AInvL w wr B L g i zs ∧ g < wr.heap.size) (fun _ s11 _ => ps.length - natI s11)
    case atStart => exact ⟨0, ps, rfl, Nat.zero_le _, rfl, HH.out.1, HH.out.2.2⟩
    case round =>
      obtain ⟨i, zs, rfl, hi, hzl, hI, hgw⟩ := hrel
      by_cases hlast : i < ps.length
      · have hli : (i : Int) < (ps.length : Int) := by omega
        have hiz : i < zs.length := by omega
        obtain ⟨c0, c1, c2, c3, c4, c5⟩ := hI.inv.row.six hiz
        have hmi := hI.inv.rest i hiz (Nat.le_refl _)
        have hstep := fun (w5 : World) (hb : Below wr.heap.size wr w5) (s : SH) => hI.step hiz HH.out.2.1 hgw hb s
        have hfx : zs[i].1.mx.length ≤ 1000000 := hf _ (by rw [← hI.inv.map]; exact List.mem_map.2 ⟨_, List.getElem_mem hiz, rfl⟩)
        have hO := ownL_any zs[i] _ wr hmi hfx
        have hrow5 := fun (w5 : World) (hb : Below wr.heap.size wr w5) => And.intro ((hI.inv.row.below hb hgw).six hiz) (frozE (hI.inv.row.below hb hgw) hiz)
        have HZ := Lib.hid (And.intro hstep (And.intro hrow5 hzl))
        clear hmi hstep hfx hrow5 hI hzl
        obtain ⟨x, hx⟩ : ∃ x, x = zs[i] := ⟨_, rfl⟩
        rw [← hx] at c0 c1 c2 c3 c4 c5 hO HZ
        clear hx
        obtain ⟨⟨d1, i1, m1, mx1, age1, unt1⟩, p1, n1, cc1⟩ := x
        rw [lit_ev] at hO
        dsimp only at c0 c1 c2 c3 c4 c5 hO HZ
        go_wp2_with fail
        refine hO.mono ?_
        rintro e w5 ⟨⟨p', n', c'⟩, rfl, hm5, hb5⟩
        obtain ⟨⟨z0, z1, z2, z3, z4, z5⟩, f0, f1, f2, f3, f4, f5⟩ := HZ.out.2.1 w5 hb5
        have hnew := HZ.out.1 w5 hb5 (p', n', c') hm5
        have HN := Lib.hid (And.intro hnew (And.intro HZ.out.2.2 (Nat.lt_of_lt_of_le hgw hb5.size)))
        clear HZ hnew hm5 hb5 hO c0 c1 c2 c3 c4 c5 hgw
        rw [lit_ev]
        go_wp2
        go_roundw
        case rel => exact ⟨i + 1, _, by simp, by omega, by simpa using HN.out.2.1, HN.out.1, by simpa [World.setCell] using HN.out.2.2⟩
        case measure => simp [natI]; omega
      · have hli : ¬ (i : Int) < (ps.length : Int) := by omega
        have HZ := Lib.hid (And.intro hI (And.intro hzl hi))
        clear hI
        go_wp2
        have hne : zs ≠ [] ∨ zs = [] := by cases zs <;> simp
        refine bodyPost_ret (v := .slice (some ⟨g, 0, none⟩) ps.length cap) (by simp [results, Tryz.results15, go_sem]) rfl ⟨⟨_, zs, rfl, HZ.out.1.inv.map, ?_, ?_, ?_⟩, HZ.out.1.inv.below⟩
        · rw [← hzl]
          rcases hne with h | h
          · exact .inr ⟨h, g, 0, cap, rfl, fun i hi k u hu => by rw [Nat.zero_add]; exact (HZ.out.1.inv.row.cell hi hu).1⟩
          · exact .inl ⟨h, _, cap, by rw [h]; rfl⟩
        · intro g' hg' _
          injection hg' with hg'
          subst hg'
          exact ⟨by rw [hzl], HH.out.2.1, HZ.out.1.nf, fun x hx => by
            obtain ⟨j, hj, rfl⟩ := List.getElem_of_mem hx
            exact (HZ.out.1.done j hj (by omega)).mono (fun k hk => hk.1)⟩
        · intro x hx
          obtain ⟨j, hj, rfl⟩ := List.getElem_of_mem hx
          exact ((HZ.out.1.inv.done j hj (by omega)).and (HZ.out.1.done j hj (by omega))).mono (fun k hk => ⟨hk.1.1, hk.2.2⟩)
end Go.Proofs.YtojhledbfaninaaGreat
