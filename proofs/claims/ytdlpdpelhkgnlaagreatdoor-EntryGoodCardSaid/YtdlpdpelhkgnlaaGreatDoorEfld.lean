/- head.fields: its iterator. -/
import Derived.Test.YtdlpdpelhkgnlaaGreatDoorEcut
import Derived.Test.YtdlpdpelhkgnlaaGreatDoorEqb
import Derived.Test.YtdlpdpelhkgnlaaGreatDoorQtail
import Derived.Test.YtdlpdpelhkgnlaaGreatDoorSeqF
import Derived.Shelf.Strings.SlTrimAscii
import Derived.Sort.BigQuietIn
namespace Go.Proofs.YtdlpdpelhkgnlaaGreatDoor
open Go Go.RowKit Go.Shelf Go.Sort
attribute [local go_sem] bneI Oper.semAt_some

theorem fnWide (f : FuncId) : Fence.wide.fn f = True := rfl
attribute [local go_sem] fnWide

theorem trim_any (s : Bytes) (w : World) (hs : s.length ≤ 9223372036854775807) : Calls Tryz.prog 116 #[.string ⟨s.toArray⟩, .string ⟨#[32, 9]⟩] w fun e w' => e = .returned (.string ⟨(trimB s).toArray⟩) ∧ Below w.heap.size w w' := by
  have h := Any.strings_Trim_laid Tryz.lays160 (by kernel_rfl) ⟨s.toArray⟩ ⟨#[32, 9]⟩ w hs (by decide) (ascii_of_all (by decide))
  have e : Lib.trimS s [32, 9] = trimB s := by
    unfold Lib.trimS Lib.trimLeftS Lib.trimRightS trimB
    have : (fun x : UInt8 => [32, 9].contains x) = blankB := by funext c; simp [blankB]; rfl
    rw [this]
  refine h.mono fun e' w' hh => ⟨?_, hh.2⟩
  rw [← e]
  exact hh.1
theorem roundIn_wide {m m' : Nat} {P : Program} {l : Nat} {f : FuncId} {tmps : Array Value} {assign body : Code} {w : World} {R : Ending → World → Prop} (h : RoundIn Fence.wide m P l f tmps assign body w R) : RoundIn Fence.wide m' P l f tmps assign body w R :=
  ⟨h.1, fun c cs _ => h.2 c cs (room_wide _)⟩
theorem yieldAt_wide {m m' : Nat} {P : Program} {l : Nat} {args : Array Value} {w : World} {R : Ending → World → Prop} (h : YieldAt Fence.wide m P l args w R) : YieldAt Fence.wide m' P l args w R := by
  obtain ⟨fn, t, a, b, h1, h2⟩ := h
  exact ⟨fn, t, a, b, h1, roundIn_wide h2⟩
def fiE (x : Bytes × Bytes) : Array Value := #[.agg #[.string ⟨x.1.toArray⟩, .string ⟨x.2.toArray⟩]]

set_option maxRecDepth 100000 in
set_option maxHeartbeats 1000000 in
theorem tell_nil (n bn bY : Nat) (W : World) (hn : W.heap[bn]? = some (.cells #[.pointer none] 210 (0, 0))) :
    CallsIn Fence.wide n Tryz.prog 174 #[.pointer (some ⟨bn, 0, none⟩), .pointer (some ⟨bY, 0, none⟩)] W fun e W' => e = .returned (.bool true) ∧ Below W.heap.size W W' := by
  refine callsIn_wide.2 ?_
  have c0 : W.cell? ⟨bn, 0, none⟩ = some (.pointer none) := by simp [World.cell?, hn]
  have hc := BW.cell c0
  clear hn
  go_enter Tryz.func174, Tryz.ntmps174
  go_upto_region 1 with (fail)
  refine wp_region_quiet_below (by kernel_rfl) (by kernel_rfl) ?_
  repeat (go_big_quiet_step (fail))
  refine wpQuiet_nil ?_
  intro w5 hw'
  have H5 : Hid (Below W.heap.size W w5) := by
    obtain ⟨p, rfl⟩ := hw'
    exact Lib.hid p.h
  clear hw' hc c0
  go_wp2
  refine bodyPost_ret (v := .bool true) (by simp [results, Tryz.results174, go_sem]) rfl ⟨rfl, H5.out⟩

set_option maxRecDepth 100000 in
set_option maxHeartbeats 1000000 in
theorem tell_some (n l bn bY bf : Nat) (nm v : Bytes) (W : World) (R : World → Prop) (hv : v.length ≤ 9223372036854775807)
    (hn : W.cell? ⟨bn, 0, none⟩ = some (.pointer (some ⟨bf, 0, none⟩))) (hy : W.cell? ⟨bY, 0, none⟩ = some (.func (.yield l) #[] #[]))
    (hf0 : W.cell? ⟨bf, 0, none⟩ = some (.string ⟨nm.toArray⟩)) (hf1 : W.cell? ⟨bf, 1, none⟩ = some (.string ⟨v.toArray⟩))
    (hY : ∀ W1, Below W.heap.size W W1 → YieldAt Fence.wide (n - 1) Tryz.prog l (fiE (nm, trimB v)) W1 fun e W' => e = .returned (.bool true) ∧ R W') :
    CallsIn Fence.wide n Tryz.prog 174 #[.pointer (some ⟨bn, 0, none⟩), .pointer (some ⟨bY, 0, none⟩)] W fun e W' => e = .returned (.bool true) ∧ R W' := by
  have c0 := BW.cell hn
  have c1 := BW.cell hy
  have c2 := BW.cell hf0
  have c3 := BW.cell hf1
  have hT := BW.calls (w := W) (fun W1 _ => trim_any v W1 hv)
  have hTi := fun q => callsIn_wide (n := n - 1).2 (hT q)
  clear hn hy hf0 hf1 hv hT
  refine callsIn_of_wp Tryz.func174 rfl trivial ?_ rfl
  simp only [Tryz.ntmps174, List.size_toArray, List.length_cons, List.length_nil, Nat.reduceAdd, Nat.reduceSub, Array.replicate_succ, Array.replicate_zero, List.push_toArray, List.append_toArray, List.nil_append, List.cons_append]
  gi_wp2_with fail
  refine wpIn_region_quiet_tail (C := fun w' => ∃ p : BW W, w' = p.v) 14 rfl (by kernel_rfl) (by kernel_rfl) ⟨⟨W.drew, ⟨rfl, rfl, rfl, Nat.le_refl _, fun _ _ => rfl⟩⟩, rfl⟩ ?_
  simp only [List.take_succ_cons, List.take_zero, List.drop_succ_cons, List.drop_zero]
  repeat (gi_big_quiet_step (exact ⟨fun h => (by cases h), hTi _⟩))
  refine wpQuietIn_nil ?_
  rintro W1 ⟨⟨W1, hB1⟩, rfl⟩
  obtain ⟨fn, tmps, assign, body, hyy, hR⟩ := hY W1 hB1
  unfold fiE at hyy
  dsimp only at hyy
  clear c0 c1 c2 c3 hTi hY
  gi_wp2_with fail
  refine ⟨(fun h => by cases h), hR.mono ?_⟩
  rintro e W3 ⟨rfl, hR3⟩
  clear hyy hR
  gi_wp2
  refine bodyPost_ret (v := .bool true) (by simp [results, Tryz.results174, go_sem]) rfl ⟨rfl, hR3⟩

/-! ### The iterator -/
/-- What lies in the box of the field that is under way. -/
def NowAt (bo B bn bY : Nat) (lv : Value) (now : Option (Bytes × Bytes)) (W : World) : Prop := match now with
  | none => W.heap[bn]? = some (.cells #[.pointer none] 210 (0, 0))
  | some p => ∃ bf, W.heap[bn]? = some (.cells #[.pointer (some ⟨bf, 0, none⟩)] 210 (0, 0)) ∧ W.heap[bf]? = some (.cells #[.string ⟨p.1.toArray⟩, .string ⟨p.2.toArray⟩] 162 (0, 0)) ∧ B ≤ bf ∧ ¬ OwnB bo W bf ∧ bf ≠ bn ∧ bf ≠ bY ∧ lv.ownBlock ≠ some bf
structure FI (bo B : Nat) (Wc : World) (bn bY : Nat) (lv : Value) (now : Option (Bytes × Bytes)) (W : World) : Prop where
  size : Wc.heap.size ≤ W.heap.size
  glob : Glob W
  yb : W.heap[bY]? = Wc.heap[bY]?
  lb : ∀ g, lv.ownBlock = some g → W.heap[g]? = Wc.heap[g]?
  nowb : NowAt bo B bn bY lv now W
  o1 : ¬ OwnB bo W bn
  o2 : ¬ OwnB bo W bY
  o3 : ¬ OwnB bo W 1
  o4 : ∀ g, lv.ownBlock = some g → ¬ OwnB bo W g
/-- What stands of the world in which the lines were cut. -/
structure FC (B : Nat) (Wc : World) (bn bY : Nat) (lv : Value) (l : Nat) (L : List Bytes) : Prop where
  yb : Wc.heap[bY]? = some (.cells #[.func (.yield l) #[] #[]] 163 (0, 0))
  row : Wc.ownsRow B 9 1 lv L.length (L.map str)
  ne : bn ≠ bY
  ly : lv.ownBlock ≠ some bY
  ln : lv.ownBlock ≠ some bn
  bB : B ≤ bn
theorem lt_of_cells {W : World} {b : Nat} {o : Obj} (h : W.heap[b]? = some o) : b < W.heap.size := (Array.getElem?_eq_some_iff.1 h).1
section
variable {p : Bytes × Bytes} {bo B bn bY l : Nat} {Wc W W' : World} {lv : Value} {now : Option (Bytes × Bytes)} {L : List Bytes}
theorem FC.lb (h : FC B Wc bn bY lv l L) {g : Nat} (hg : lv.ownBlock = some g) : ∃ o, Wc.heap[g]? = some o ∧ o.isCells = true := by
  rcases h.row.2 with ⟨rfl, _⟩ | ⟨k, cap, cur, rfl, _, hgb, _⟩
  · simp [Value.ownBlock] at hg
  · have : k = g := by simpa [Value.ownBlock] using hg
    subst this; exact ⟨_, hgb, rfl⟩
theorem NowAt.lt (h : NowAt bo B bn bY lv now W) : bn < W.heap.size := by
  cases now with
  | none => exact lt_of_cells h
  | some p => obtain ⟨bf, h, -⟩ := h; exact lt_of_cells h
theorem NowAt.kept (h : NowAt bo B bn bY lv now W) (hn : W'.heap[bn]? = W.heap[bn]?) (hb : ∀ r, r ≠ bn → B ≤ r → ¬ OwnB bo W r → ∀ o, W.heap[r]? = some o → o.isCells = true → W'.heap[r]? = some o ∧ ¬ OwnB bo W' r) : NowAt bo B bn bY lv now W' := by
  cases now with
  | none => exact hn.trans h
  | some p =>
    obtain ⟨bf, h1, h2, h3, h4, h5, h6, h7⟩ := h
    have := hb bf h5 h3 h4 _ h2 rfl
    exact ⟨bf, hn.trans h1, this.1, h3, this.2, h5, h6, h7⟩
theorem Glob.cells {w : World} (h : Glob w) : ∃ o, w.heap[1]? = some o ∧ o.isCells = true := by
  obtain ⟨m, hm⟩ := h
  obtain ⟨o, ho, hc⟩ := cells_of_cell hm
  exact ⟨o, ho, hc⟩
theorem Glob.of_block {w w' : World} (h : Glob w) (hb : w'.heap[1]? = w.heap[1]?) : Glob w' := by
  obtain ⟨m, hm⟩ := h
  exact ⟨m, (World.cell?_of_block hb).trans hm⟩
theorem FI.below (h : FI bo B Wc bn bY lv now W) (hC : FC B Wc bn bY lv l L) (hB : Below W.heap.size W W') (hbo : bo < W.heap.size) : FI bo B Wc bn bY lv now W' := by
  have ho : ∀ r, OwnB bo W' r ↔ OwnB bo W r := fun r => ownB_block (hB.block bo hbo)
  have hyl : bY < W.heap.size := lt_of_cells (h.yb.trans hC.yb)
  obtain ⟨og, hog, _⟩ := h.glob.cells
  refine ⟨Nat.le_trans h.size hB.size, h.glob.of_block (hB.block _ (lt_of_cells hog)), (hB.block _ hyl).trans h.yb, fun g hg => ?_, h.nowb.kept (hB.block _ h.nowb.lt) (fun r _ _ hr o hr2 _ => ⟨(hB.block r (lt_of_cells hr2)).trans hr2, fun k => hr ((ho r).1 k)⟩), fun k => h.o1 ((ho _).1 k), fun k => h.o2 ((ho _).1 k), fun k => h.o3 ((ho _).1 k), fun g hg k => h.o4 g hg ((ho _).1 k)⟩
  obtain ⟨o, ho', _⟩ := hC.lb hg
  exact (hB.block g (lt_of_cells ((h.lb g hg).trans ho'))).trans (h.lb g hg)
theorem FI.keeps (h : FI bo B Wc bn bY lv now W) (hC : FC B Wc bn bY lv l L) (hK : KeepsF bo W W') : FI bo B Wc bn bY lv now W' := by
  obtain ⟨og, hog, hcg⟩ := h.glob.cells
  have hy := hK.2 bY _ (h.yb.trans hC.yb) rfl h.o2
  have hg := hK.2 _ _ hog hcg h.o3
  have hn : ∃ o, W.heap[bn]? = some o ∧ o.isCells = true := by
    have := h.nowb
    cases now with
    | none => exact ⟨_, this, rfl⟩
    | some p => obtain ⟨bf, h1, -⟩ := this; exact ⟨_, h1, rfl⟩
  obtain ⟨on, hon, hcn⟩ := hn
  have hnn := hK.2 bn _ hon hcn h.o1
  refine ⟨Nat.le_trans h.size hK.1, h.glob.of_block (hg.1.trans hog.symm), hy.1.trans hC.yb.symm, fun g hg' => ?_, h.nowb.kept (hnn.1.trans hon.symm) (fun r _ _ hr o hr2 hr3 => hK.2 r o hr2 hr3 hr), hnn.2, hy.2, hg.2, fun g hg' => ?_⟩
  · obtain ⟨o, ho, hc⟩ := hC.lb hg'
    exact (hK.2 g o ((h.lb g hg').trans ho) hc (h.o4 g hg')).1.trans ho.symm
  · obtain ⟨o, ho, hc⟩ := hC.lb hg'
    exact (hK.2 g o ((h.lb g hg').trans ho) hc (h.o4 g hg')).2
/-- A store into the box of the field under way. -/
theorem FI.setNow (h : FI bo B Wc bn bY lv now W) (hC : FC B Wc bn bY lv l L) (hg : 1 < B) (v : Value) (now' : Option (Bytes × Bytes)) (hn : NowAt bo B bn bY lv now' (W.setCell ⟨bn, 0, none⟩ v)) : FI bo B Wc bn bY lv now' (W.setCell ⟨bn, 0, none⟩ v) := by
  have hne : ∀ r, r ≠ bn → (W.setCell ⟨bn, 0, none⟩ v).heap[r]? = W.heap[r]? := fun r hr => Below.heap_setCell W ⟨bn, 0, none⟩ v r hr
  have hbo : bo ≠ bn := fun e => h.o1 (.inl e.symm)
  have ho : ∀ r, OwnB bo (W.setCell ⟨bn, 0, none⟩ v) r ↔ OwnB bo W r := fun r => ownB_block (hne bo hbo)
  have hbB := hC.bB
  refine ⟨by simpa [World.setCell] using h.size, h.glob.of_block (hne _ (by omega)), (hne _ (fun e => hC.ne e.symm)).trans h.yb, fun g hg' => (hne g (fun e => hC.ln (by rw [← e]; exact hg'))).trans (h.lb g hg'), hn, fun k => h.o1 ((ho _).1 k), fun k => h.o2 ((ho _).1 k), fun k => h.o3 ((ho _).1 k), fun g hg' k => h.o4 g hg' ((ho _).1 k)⟩
/-- A store into the field under way itself. -/
theorem FI.setField (h : FI bo B Wc bn bY lv (some p) W) (hg : 1 < B) (bf : Nat) (q : Bytes) (h1 : W.heap[bn]? = some (.cells #[.pointer (some ⟨bf, 0, none⟩)] 210 (0, 0))) (h2 : W.heap[bf]? = some (.cells #[.string ⟨p.1.toArray⟩, .string ⟨p.2.toArray⟩] 162 (0, 0))) (h3 : B ≤ bf) (h4 : ¬ OwnB bo W bf) (h5 : bf ≠ bn) (h6 : bf ≠ bY) (h7 : lv.ownBlock ≠ some bf) :
    FI bo B Wc bn bY lv (some (p.1, q)) (W.setCell ⟨bf, 1, none⟩ (.string ⟨q.toArray⟩)) := by
  have hne : ∀ r, r ≠ bf → (W.setCell ⟨bf, 1, none⟩ (.string ⟨q.toArray⟩)).heap[r]? = W.heap[r]? := fun r hr => Below.heap_setCell W ⟨bf, 1, none⟩ _ r hr
  have hbo : bo ≠ bf := fun e => h4 (.inl e.symm)
  have ho : ∀ r, OwnB bo (W.setCell ⟨bf, 1, none⟩ (.string ⟨q.toArray⟩)) r ↔ OwnB bo W r := fun r => ownB_block (hne bo hbo)
  refine ⟨by simpa [World.setCell] using h.size, h.glob.of_block (hne _ (by omega)), (hne _ (fun e => h6 e.symm)).trans h.yb, fun g hg' => (hne g (fun e => h7 (by rw [← e]; exact hg'))).trans (h.lb g hg'), ⟨bf, (hne _ (fun e => h5 e.symm)).trans h1, ?_, h3, fun k => h4 ((ho _).1 k), h5, h6, h7⟩, fun k => h.o1 ((ho _).1 k), fun k => h.o2 ((ho _).1 k), fun k => h.o3 ((ho _).1 k), fun g hg' k => h.o4 g hg' ((ho _).1 k)⟩
  simp [World.setCell, Array.getElem?_modify, h2]
end
end Go.Proofs.YtdlpdpelhkgnlaaGreatDoor
