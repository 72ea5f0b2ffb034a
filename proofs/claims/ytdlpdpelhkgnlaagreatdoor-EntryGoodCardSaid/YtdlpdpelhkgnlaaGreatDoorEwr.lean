/- entry's writer: its Builder, num, text, yes. -/
import Derived.Test.YtdlpdpelhkgnlaaGreatDoorEget
import Derived.Test.YtdlpdpelhkgnlaaGreatDoorQtail
import Derived.Lib.Builder
import Derived.Lib.AppendStr
import Derived.Lib.UnsafeStr
import Derived.Laws.Externs
namespace Go.Proofs.YtdlpdpelhkgnlaaGreatDoor
open Go Go.RowKit Go.Shelf Go.Sort
attribute [local go_sem] bneI

theorem infoBuilder : (Tryz.prog.info? 94).map (·.size) = some 2 := by kernel_rfl
theorem infoByte : (Tryz.prog.info? 5).map (fun i => (i.zero, i.size, i.bytes)) = some (some (.int .u8 0), 1, 1) := by kernel_rfl
theorem liesWriter : liesAt Tryz.prog Tryz.prog.depth 96 (2 / Tryz.prog.cellsOf 96) 0 94 1 = true := by kernel_rfl
abbrev WT : TypeId := 96
set_option maxRecDepth 100000 in
theorem copyCheck_any (B b : Nat) (bs : List Value) (w : World) (h : Lib.IsBuilder WT 5 B b bs w) :
    Calls Tryz.prog 110 #[.pointer (some ⟨b, 0, none⟩)] w fun e w' => e = .returned (.tuple #[]) ∧ Lib.BuilderAt WT 5 B b (.pointer (some ⟨b, 0, none⟩)) bs w' ∧ (w' = w ∨ w' = w.setCell ⟨b, 0, none⟩ (.pointer (some ⟨b, 0, none⟩))) := by
  obtain ⟨j, hj, hjs⟩ := Option.map_eq_some_iff.1 infoBuilder
  rcases h with h | h
  · have c0 := h.cell0
    have hsh := h.shape
    have f0 := h.frozen0
    have HU := Lib.hid (h.used (.pointer (some ⟨b, 0, none⟩)))
    have hto := Lib.run_to_unsafe (P := Tryz.prog) w ⟨b, 0, none⟩ Tryz.underlying91 Tryz.underlying175 hj (by rw [hjs]; decide) hsh (Nat.zero_lt_succ 1)
    have hfrom := Lib.run_from_unsafe (P := Tryz.prog) w ⟨b, 0, none⟩ Tryz.underlying175 Tryz.underlying91 hj hsh liesWriter
    have hno : Sem.run Tryz.prog (callFunc 138 #[.pointer (some ⟨b, 0, none⟩)]) w = .ok (.value (.pointer (some ⟨b, 0, none⟩))) w := by
      rw [run_callFunc_extern Tryz.func138 (by kernel_rfl) (by kernel_rfl) (by kernel_rfl) (e := Extern.AbiNoEscape.same) (by kernel_rfl), Lib.run_noEscape]
      rfl
    clear h hsh hj hjs
    go_enter Tryz.func110, Tryz.ntmps110
    go_wp2
    go_end0
    exact ⟨rfl, HU.out, .inr rfl⟩
  · have c0 := h.cell0
    have HU := Lib.hid h
    have hne := Lib.run_neq_ptr_same (P := Tryz.prog) w ⟨b, 0, none⟩ Tryz.underlying91 hj
    clear h hj hjs
    go_enter Tryz.func110, Tryz.ntmps110
    go_wp2
    go_end0
    exact ⟨rfl, HU.out, .inl rfl⟩
/-- Blocks of another kind stand. -/
def FrameW (b : Nat) (w w' : World) : Prop := w.heap.size ≤ w'.heap.size ∧ ∀ k cs t f, k ≠ b → w.heap[k]? = some (.cells cs t f) → t ≠ 5 → w'.heap[k]? = some (.cells cs t f)
theorem FrameW.trans {b : Nat} {x y z : World} (h : FrameW b x y) (k : FrameW b y z) : FrameW b x z := ⟨Nat.le_trans h.1 k.1, fun n cs t f hn h1 ht => k.2 n cs t f hn (h.2 n cs t f hn h1 ht) ht⟩
theorem FrameW.refl (b : Nat) (w : World) : FrameW b w w := ⟨Nat.le_refl _, fun _ _ _ _ _ h _ => h⟩
theorem FrameW.below {b : Nat} {w w' : World} (h : Below w.heap.size w w') : FrameW b w w' := ⟨h.size, fun k _ _ _ _ h1 _ => (h.block k (Array.getElem?_eq_some_iff.1 h1).1).trans h1⟩
theorem FrameW.set {b : Nat} (w : World) (o : Nat) (v : Value) : FrameW b w (w.setCell ⟨b, o, none⟩ v) := ⟨by simp [World.setCell], fun k _ _ _ hk h1 _ => (Below.heap_setCell w ⟨b, o, none⟩ v k hk).trans h1⟩
theorem FrameW.grown {b : Nat} {w w' : World} {v : Value} {n : Nat} {xs : List Value} {B : Nat} (h : w.grownBy w' v.ownBlock) (ho : w.ownsRow B 5 1 v n xs) : FrameW b w w' := ⟨h.size, fun k cs t f _ h1 ht => by
  refine (h.block k (Array.getElem?_eq_some_iff.1 h1).1 (fun e => ?_)).trans h1
  rcases ho.2 with ⟨rfl, _⟩ | ⟨g, cap, cur, rfl, _, hg, _⟩
  · simp [Value.ownBlock] at e
  · have : k = g := by simpa [Value.ownBlock] using e
    subst this
    rw [hg] at h1
    injection h1 with h1
    injection h1 with _ h1 _
    exact ht h1.symm⟩
theorem builder_lt {B b : Nat} {bs : List Value} {w : World} (h : Lib.IsBuilder WT 5 B b bs w) : B ≤ b ∧ b < w.heap.size := by
  rcases h with h | h <;> exact ⟨h.1, h.lt⟩
set_option maxRecDepth 100000 in
set_option maxHeartbeats 1000000 in
theorem writeString_any (B b : Nat) (bs : List Value) (s : Bytes) (w : World) (h : Lib.IsBuilder WT 5 B b bs w) (hlen : bs.length + s.length ≤ 1000000000000) (hBw : B ≤ w.heap.size) :
    Calls Tryz.prog 91 #[.pointer (some ⟨b, 0, none⟩), .string ⟨s.toArray⟩] w fun e w' => e = .returned (.tuple #[.int .i64 (s.length : Int), .nilIface]) ∧ Lib.IsBuilder WT 5 B b (bs ++ Lib.byteCells s) w' ∧ Below B w w' ∧ FrameW b w w' := by
  obtain ⟨i0, hi, hz0, hz1, hz2⟩ := info_parts infoByte
  have hC := copyCheck_any B b bs w h
  have hBb := builder_lt h
  clear h
  go_enter Tryz.func91, Tryz.ntmps91
  go_wp2_with fail
  refine hC.mono ?_
  rintro e w1 ⟨rfl, h1, hw1⟩
  clear hC
  have hb1 : Below B w w1 := by
    rcases hw1 with rfl | rfl
    · exact Below.refl _ _
    · exact (Below.refl B w).setCell (p := ⟨b, 0, none⟩) hBb.1 _
  have hf1 : FrameW b w w1 := by
    rcases hw1 with rfl | rfl
    · exact FrameW.refl _ _
    · exact FrameW.set _ _ _
  clear hw1
  obtain ⟨hB, v, hbk, hown, hne⟩ := h1
  have c1 : w1.cell? ⟨b, 1, none⟩ = some v := by rw [Lib.cell_of_heap hbk]; rfl
  have H1 := Lib.hid (And.intro hb1 (And.intro hf1 (And.intro hbk (And.intro hown (And.intro hne hBb)))))
  clear hb1 hf1 hbk hown hne hBb
  go_wp2_with (at_builtin; refine Bx.h ?_)
  refine ⟨?_⟩
  refine Lib.wpList_append_own_string _ rfl _ _ 92 9 rfl B 5 i0 Tryz.underlying92 Tryz.underlying9 hi hz0 hz1 hz2 _ _ _ rfl H1.out.2.2.2.1 ⟨s.toArray⟩ rfl ?c3 ?c4 ?c5 ?_
  case c3 => show bs.length + s.length ≤ maxLen; unfold maxLen; omega
  case c4 => show bs.length + s.length ≤ _; omega
  case c5 => have := H1.out.1.size; omega
  intro v' w2 hown' hgrow _
  replace hgrow : w1.grownBy w2 v.ownBlock := hgrow
  have hblt : b < w1.heap.size := (Array.getElem?_eq_some_iff.1 H1.out.2.2.1).1
  have hb2 : w2.heap[b]? = some (.cells #[.pointer (some ⟨b, 0, none⟩), v] WT (0, 0)) := (hgrow.block b hblt (fun e => H1.out.2.2.2.2.1 e.symm)).trans H1.out.2.2.1
  have d1 : w2.cell? ⟨b, 1, none⟩ = some v := by rw [Lib.cell_of_heap hb2]; rfl
  have f1 : w2.frozen? ⟨b, 1, none⟩ = false := Lib.frozen_of_heap hb2 1
  obtain ⟨ao, n', cap, rfl⟩ : ∃ ao n' cap, v' = .slice ao n' cap := by
    rcases hown'.2 with ⟨hv, _⟩ | ⟨g, cap, cur, hv, _⟩
    · exact ⟨_, _, _, hv⟩
    · exact ⟨_, _, _, hv⟩
  have hcs : Lib.strCells ⟨s.toArray⟩ = Lib.byteCells s := by
    unfold Lib.strCells
    rfl
  have hput := Lib.BuilderAt.put (T := WT) (e := 5) H1.out.2.2.2.2.2.1 hb2 (bs' := bs ++ Lib.byteCells s) (by rw [hcs] at hown'; rw [List.length_append, Lib.byteCells_length]; exact hown') (by decide)
  have hbel : Below B w (w2.setCell ⟨b, 1, none⟩ (.slice ao n' cap)) := (H1.out.1.grown hgrow (by have := H1.out.1.size; omega) (fun k hk => (H1.out.2.2.2.1.lt k hk).1)).setCell (p := ⟨b, 1, none⟩) H1.out.2.2.2.2.2.1 _
  have hfr : FrameW b w (w2.setCell ⟨b, 1, none⟩ (.slice ao n' cap)) := (H1.out.2.1.trans (FrameW.grown hgrow H1.out.2.2.2.1)).trans (FrameW.set _ _ _)
  have H2 := Lib.hid (And.intro hput (And.intro hbel hfr))
  clear hput hbel hfr hown' hgrow hb2 hcs hblt c1
  go_wp2
  go_ret2
  exact ⟨rfl, .inr H2.out.1, H2.out.2.1, H2.out.2.2⟩
theorem below_growN (w : World) (k : Nat) (os : Array Obj) : Below w.heap.size w (grow (w.drewN k) os) :=
  ⟨rfl, rfl, rfl, by show w.heap.size ≤ (w.heap ++ os).size; rw [Array.size_append]; omega, fun j hj => by
    show (w.heap ++ os)[j]? = _
    rw [Array.getElem?_append, if_pos hj]⟩
set_option maxRecDepth 100000 in
theorem show_any (n : Int) (w : World) (h0 : 0 ≤ n) (h1 : n ≤ 1000000000000000) (hE : Env w) :
    Calls Tryz.prog 92 #[.int .i64 n] w fun e w' => e = .returned (.string ⟨(Lib.itoa n).toArray⟩) ∧ Below w.heap.size w w' := by
  have hI := Tryz.strconv_Itoa n (by omega) (by omega) w hE.pow
  clear h0 h1 hE
  generalize Lib.itoa n = l at *
  go_enter Tryz.func92, Tryz.ntmps92
  go_wp2_with fail
  refine hI.mono ?_
  rintro e w1 ⟨rfl, k, os, hw⟩
  have hb : Below w.heap.size w w1 := by rw [hw]; exact below_growN w k os
  have HB := Lib.hid hb
  clear hI hw hb
  go_wp2
  go_ret
  exact ⟨rfl, HB.out⟩
/-- The writer holds so much. -/
structure WrAt (w0 : World) (b : Nat) (l : Bytes) (w : World) : Prop where
  below : Below w0.heap.size w0 w
  bld : Lib.IsBuilder WT 5 w0.heap.size b (Lib.byteCells l) w
theorem byteCells_append (a b : Bytes) : Lib.byteCells (a ++ b) = Lib.byteCells a ++ Lib.byteCells b := by simp [Lib.byteCells]
theorem WrAt.keep {w0 w w' : World} {b : Nat} {l : Bytes} (h : WrAt w0 b l w) (hB : Below w.heap.size w w') : WrAt w0 b l w' := by
  refine ⟨h.below.trans (hB.mono h.below.size), ?_⟩
  rcases h.bld with h | h
  · obtain ⟨h1, v, h2, h3, h4⟩ := h
    exact .inl ⟨h1, v, (hB.block _ (lt_of_cells h2)).trans h2, h3.kept (grownBy_of_below hB none) (by
      by_cases e : v.ownBlock = none
      · exact .inl e
      · exact .inr e), h4⟩
  · obtain ⟨h1, v, h2, h3, h4⟩ := h
    exact .inr ⟨h1, v, (hB.block _ (lt_of_cells h2)).trans h2, h3.kept (grownBy_of_below hB none) (by
      by_cases e : v.ownBlock = none
      · exact .inl e
      · exact .inr e), h4⟩
def numB (n : Int) : Bytes := Lib.itoa n ++ [58]
def txtB (s : Bytes) : Bytes := numB s.length ++ s
def yesB (b : Bool) : Bytes := numB (if b then 1 else 0)
theorem cat_bytes (a b : Bytes) : (⟨a.toArray⟩ : ByteArray) ++ ⟨b.toArray⟩ = ⟨(a ++ b).toArray⟩ := by
  apply ByteArray.ext
  simp [ByteArray.data_append]
theorem decDigits_len : ∀ (k n : Nat), n < 10 ^ (k + 1) → (Lib.decDigits n).length ≤ k + 1
  | 0, n, h => by
    rw [Lib.decDigits, dif_pos (by simpa using h)]
    simp
  | k + 1, n, h => by
    rw [Lib.decDigits]
    split
    · simp
    · rw [List.length_append]
      have := decDigits_len k (n / 10) (by rw [Nat.pow_succ] at h; omega)
      simp; omega
theorem itoa_len (n : Int) (h0 : 0 ≤ n) (h1 : n ≤ 1000000000000000) : (Lib.itoa n).length ≤ 100 := by
  unfold Lib.itoa
  rw [if_neg (by omega)]
  have := decDigits_len 15 n.toNat (by omega)
  omega
/-- What a writing does. -/
def WrPost (w0 : World) (b : Nat) (l : Bytes) (w : World) (e : Ending) (w' : World) : Prop := e = .returned (.tuple #[]) ∧ WrAt w0 b l w' ∧ FrameW b w w'
set_option maxRecDepth 100000 in
set_option maxHeartbeats 1000000 in
theorem wnum_any (w0 : World) (b : Nat) (l : Bytes) (n : Int) (w : World) (h : WrAt w0 b l w) (hE : Env w0) (h0 : 0 ≤ n) (h1 : n ≤ 1000000000000000) (hlen : l.length ≤ 100000000000) :
    Calls Tryz.prog 57 #[.pointer (some ⟨b, 0, none⟩), .int .i64 n] w (WrPost w0 b (l ++ numB n) w) := by
  have hE1 := hE.keep h.below
  have hS := BW.calls (w := w) (fun W hW => show_any n W h0 h1 (hE1.keep hW))
  have hil := itoa_len n h0 h1
  have hnb : numB n = Lib.itoa n ++ [58] := rfl
  have hcat := cat_bytes (Lib.itoa n) [58]
  rw [← hnb] at hcat
  have hnl : (numB n).length ≤ 101 := by rw [hnb]; simp; omega
  have hil2 : ¬ 9223372036854775807 < (Lib.itoa n).length + 1 := by omega
  have H := Lib.hid (And.intro h (And.intro hlen hnl))
  clear h hE hE1 h0 h1 hil hnb hlen hnl
  generalize numB n = nb at *
  generalize Lib.itoa n = it at *
  go_enter Tryz.func57, Tryz.ntmps57
  go_wp2_with fail
  refine wp_region_quiet_tail (C := fun w' => ∃ p : BW w, w' = p.v) 6 (by kernel_rfl) (by kernel_rfl) ⟨⟨w.drew, ⟨rfl, rfl, rfl, Nat.le_refl _, fun _ _ => rfl⟩⟩, rfl⟩ ?_
  simp only [List.take_succ_cons, List.take_zero, List.drop_succ_cons, List.drop_zero]
  repeat (go_big_quiet_step (exact hS _))
  refine wpQuiet_nil ?_
  rintro W1 ⟨⟨W1, hB1⟩, rfl⟩
  have hk := H.out.1.keep hB1
  have hwr := writeString_any w0.heap.size b (Lib.byteCells l) nb W1 hk.bld (by rw [Lib.byteCells_length]; have := H.out.2; omega) hk.below.size
  have H1 := Lib.hid (And.intro hk hB1)
  clear hS hcat hil2 hk hB1
  go_wp2_with fail
  refine hwr.mono ?_
  rintro e w2 ⟨rfl, hb2, hB2, hf2⟩
  have H2 := Lib.hid (And.intro hb2 (And.intro hB2 hf2))
  clear hwr hb2 hB2 hf2
  go_wp2
  go_end0
  refine ⟨rfl, ⟨H1.out.1.below.trans (by have := H2.out.2.1; exact this), ?_⟩, (FrameW.below H1.out.2).trans H2.out.2.2⟩
  rw [byteCells_append]
  exact H2.out.1
set_option maxRecDepth 100000 in
set_option maxHeartbeats 1000000 in
theorem wtext_any (w0 : World) (b : Nat) (l s : Bytes) (w : World) (h : WrAt w0 b l w) (hE : Env w0) (hs : s.length ≤ 1000000) (hlen : l.length ≤ 90000000000) :
    Calls Tryz.prog 58 #[.pointer (some ⟨b, 0, none⟩), .string ⟨s.toArray⟩] w (WrPost w0 b (l ++ txtB s) w) := by
  have hN := wnum_any w0 b l (s.length : Int) w h hE (by omega) (by omega) (by omega)
  have hsz : (⟨s.toArray⟩ : ByteArray).size = s.length := rfl
  have hnl : (numB (s.length : Int)).length ≤ 101 := by
    have := itoa_len (s.length : Int) (by omega) (by omega)
    unfold numB
    simp; omega
  have hW := fun W (h : WrAt w0 b (l ++ numB (s.length : Int)) W) => writeString_any w0.heap.size b (Lib.byteCells (l ++ numB (s.length : Int))) s W h.bld (by rw [Lib.byteCells_length, List.length_append]; omega) h.below.size
  have htx : l ++ txtB s = (l ++ numB (s.length : Int)) ++ s := by unfold txtB; rw [List.append_assoc]
  have HT := Lib.hid (And.intro htx (And.intro h.below hs))
  clear h hE htx hnl hlen
  go_enter Tryz.func58, Tryz.ntmps58
  go_wp2_with fail
  refine hN.mono ?_
  rintro e w1 ⟨rfl, hw1, hf1⟩
  have hW1 := hW w1 hw1
  have H1 := Lib.hid (And.intro hw1 hf1)
  clear hN hW hw1 hf1
  go_wp2_with fail
  refine hW1.mono ?_
  rintro e w2 ⟨rfl, hb2, hB2, hf2⟩
  have H2 := Lib.hid (And.intro hb2 (And.intro hB2 hf2))
  clear hW1 hb2 hB2 hf2
  go_wp2
  go_end0
  refine ⟨rfl, ⟨H1.out.1.below.trans H2.out.2.1, ?_⟩, H1.out.2.trans H2.out.2.2⟩
  rw [HT.out.1, byteCells_append]
  exact H2.out.1
set_option maxRecDepth 100000 in
theorem wyes_any (w0 : World) (b : Nat) (l : Bytes) (y : Bool) (w : World) (h : WrAt w0 b l w) (hE : Env w0) (hlen : l.length ≤ 90000000000) :
    Calls Tryz.prog 59 #[.pointer (some ⟨b, 0, none⟩), .bool y] w (WrPost w0 b (l ++ yesB y) w) := by
  cases y with
  | true =>
    have hN := wnum_any w0 b l 1 w h hE (by omega) (by omega) (by omega)
    have hy : yesB true = numB 1 := rfl
    rw [hy]
    clear h hE hy
    go_enter Tryz.func59, Tryz.ntmps59
    go_wp2_with fail
    refine hN.mono ?_
    rintro e w1 ⟨rfl, hw1, hf1⟩
    have H1 := Lib.hid (And.intro hw1 hf1)
    clear hN hw1 hf1
    go_wp2
    go_end0
    exact ⟨rfl, H1.out.1, H1.out.2⟩
  | false =>
    have hN := wnum_any w0 b l 0 w h hE (by omega) (by omega) (by omega)
    have hy : yesB false = numB 0 := rfl
    rw [hy]
    clear h hE hy
    go_enter Tryz.func59, Tryz.ntmps59
    go_wp2_with fail
    refine hN.mono ?_
    rintro e w1 ⟨rfl, hw1, hf1⟩
    have H1 := Lib.hid (And.intro hw1 hf1)
    clear hN hw1 hf1
    go_wp2
    go_end0
    exact ⟨rfl, H1.out.1, H1.out.2⟩
end Go.Proofs.YtdlpdpelhkgnlaaGreatDoor
