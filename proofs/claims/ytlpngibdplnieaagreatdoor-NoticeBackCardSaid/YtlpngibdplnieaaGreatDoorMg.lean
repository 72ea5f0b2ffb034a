/- Parts of the proof, joined: Ewr, Ebst, Eenc, Emj, Ecod, Enum. -/
import Derived.Test.YtlpngibdplnieaaGreatDoorEget
import Derived.Test.YtlpngibdplnieaaGreatDoorMf
import Derived.Lib.Builder
import Derived.Lib.AppendStr
import Derived.Lib.UnsafeStr
import Derived.Laws.Externs
import Derived.Test.YtlpngibdplnieaaGreatDoorEmaw
import Derived.Test.YtlpngibdplnieaaGreatDoorMe
import Derived.Deep.RegionHeld3
import Derived.Laws.MakeOwn
import Derived.Lib.ItoaNum
import Derived.Lib.AtoiAll
import Derived.Lib.AtoiErrMem
/- entry's writer: its Builder, num, text, yes. -/
namespace Go.Proofs.YtlpngibdplnieaaGreatDoor
open Go Go.RowKit Go.Shelf Go.Sort
attribute [local go_sem] bneI

theorem infoBuilder : (Tryz.prog.info? 118).map (·.size) = some 2 := by kernel_rfl
theorem infoByte : (Tryz.prog.info? 5).map (fun i => (i.zero, i.size, i.bytes)) = some (some (.int .u8 0), 1, 1) := by kernel_rfl
theorem liesWriter : liesAt Tryz.prog Tryz.prog.depth 120 (2 / Tryz.prog.cellsOf 120) 0 118 1 = true := by kernel_rfl
abbrev WT : TypeId := 120
set_option maxRecDepth 100000 in
theorem copyCheck_any (B b : Nat) (bs : List Value) (w : World) (h : Lib.IsBuilder WT 5 B b bs w) :
    Calls Tryz.prog 127 #[.pointer (some ⟨b, 0, none⟩)] w fun e w' => e = .returned (.tuple #[]) ∧ Lib.BuilderAt WT 5 B b (.pointer (some ⟨b, 0, none⟩)) bs w' ∧ (w' = w ∨ w' = w.setCell ⟨b, 0, none⟩ (.pointer (some ⟨b, 0, none⟩))) := by
  obtain ⟨j, hj, hjs⟩ := Option.map_eq_some_iff.1 infoBuilder
  rcases h with h | h
  · have c0 := h.cell0
    have hsh := h.shape
    have f0 := h.frozen0
    have HU := Lib.hid (h.used (.pointer (some ⟨b, 0, none⟩)))
    have hto := Lib.run_to_unsafe (P := Tryz.prog) w ⟨b, 0, none⟩ Tryz.underlying115 Tryz.underlying200 hj (by rw [hjs]; decide) hsh (Nat.zero_lt_succ 1)
    have hfrom := Lib.run_from_unsafe (P := Tryz.prog) w ⟨b, 0, none⟩ Tryz.underlying200 Tryz.underlying115 hj hsh liesWriter
    have hno : Sem.run Tryz.prog (callFunc 169 #[.pointer (some ⟨b, 0, none⟩)]) w = .ok (.value (.pointer (some ⟨b, 0, none⟩))) w := by
      rw [run_callFunc_extern Tryz.func169 (by kernel_rfl) (by kernel_rfl) (by kernel_rfl) (e := Extern.AbiNoEscape.same) (by kernel_rfl), Lib.run_noEscape]
      rfl
    clear h hsh hj hjs
    go_enter Tryz.func127, Tryz.ntmps127
    go_wp2
    go_end0
    exact ⟨rfl, HU.out, .inr rfl⟩
  · have c0 := h.cell0
    have HU := Lib.hid h
    have hne := Lib.run_neq_ptr_same (P := Tryz.prog) w ⟨b, 0, none⟩ Tryz.underlying115 hj
    clear h hj hjs
    go_enter Tryz.func127, Tryz.ntmps127
    go_wp2
    go_end0
    exact ⟨rfl, HU.out, .inl rfl⟩
/-- Blocks of another kind stand. -/
def FrameW (b : Nat) (w w' : World) : Prop := w.heap.size ≤ w'.heap.size ∧ ∀ k cs t f, k ≠ b → w.heap[k]? = some (.cells cs t f) → t ≠ 5 → w'.heap[k]? = some (.cells cs t f)
theorem FrameW.trans {b : Nat} {x y z : World} (h : FrameW b x y) (k : FrameW b y z) : FrameW b x z := ⟨Nat.le_trans h.1 k.1, fun n cs t f hn h1 ht => k.2 n cs t f hn (h.2 n cs t f hn h1 ht) ht⟩
theorem FrameW.refl (b : Nat) (w : World) : FrameW b w w := ⟨Nat.le_refl _, fun _ _ _ _ _ h _ => h⟩
theorem FrameW.below {b : Nat} {w w' : World} (h : Below w.heap.size w w') : FrameW b w w' := ⟨h.size, fun k _ _ _ _ h1 _ => (h.block k (Array.getElem?_eq_some_iff.1 h1).1).trans h1⟩
theorem FrameW.set {b : Nat} (w : World) (o : Nat) (v : Value) : FrameW b w (w.setCell ⟨b, o, none⟩ v) := ⟨by simp [World.setCell], fun k _ _ _ hk h1 _ => (Below.heap_setCell w ⟨b, o, none⟩ v k hk).trans h1⟩
theorem FrameW.grown {b : Nat} {w w' : World} {v : Value} {n : Nat} {xs : List Value} {B : Nat} (h : w.grownBy w' v.ownBlock) (ho : w.ownsRow B 5 1 v n xs) : FrameW b w w' := ⟨h.size, fun k cs t f _ h1 ht => by
  refine (h.block k (Array.getElem?_eq_some_iff.1 h1).1 (fun e => ?_)).trans h1
  rcases ho.2 with ⟨rfl, _⟩ | ⟨g, cap, cur, rfl, _, hg, _⟩
  · simp [Value.ownBlock] at e
  · have : k = g := by simpa [Value.ownBlock] using e
    subst this
    rw [hg] at h1
    injection h1 with h1
    injection h1 with _ h1 _
    exact ht h1.symm⟩
theorem builder_lt {B b : Nat} {bs : List Value} {w : World} (h : Lib.IsBuilder WT 5 B b bs w) : B ≤ b ∧ b < w.heap.size := by
  rcases h with h | h <;> exact ⟨h.1, h.lt⟩
set_option maxRecDepth 100000 in
set_option maxHeartbeats 1000000 in
theorem writeString_any (B b : Nat) (bs : List Value) (s : Bytes) (w : World) (h : Lib.IsBuilder WT 5 B b bs w) (hlen : bs.length + s.length ≤ 1000000000000) (hBw : B ≤ w.heap.size) :
    Calls Tryz.prog 83 #[.pointer (some ⟨b, 0, none⟩), .string ⟨s.toArray⟩] w fun e w' => e = .returned (.tuple #[.int .i64 (s.length : Int), .nilIface]) ∧ Lib.IsBuilder WT 5 B b (bs ++ Lib.byteCells s) w' ∧ Below B w w' ∧ FrameW b w w' := by
  obtain ⟨i0, hi, hz0, hz1, hz2⟩ := info_parts infoByte
  have hC := copyCheck_any B b bs w h
  have hBb := builder_lt h
  clear h
  go_enter Tryz.func83, Tryz.ntmps83
  go_wp2_with fail
  refine hC.mono ?_
  rintro e w1 ⟨rfl, h1, hw1⟩
  clear hC
  have hb1 : Below B w w1 := by
    rcases hw1 with rfl | rfl
    · exact Below.refl _ _
    · exact (Below.refl B w).setCell (p := ⟨b, 0, none⟩) hBb.1 _
  have hf1 : FrameW b w w1 := by
    rcases hw1 with rfl | rfl
    · exact FrameW.refl _ _
    · exact FrameW.set _ _ _
  clear hw1
  obtain ⟨hB, v, hbk, hown, hne⟩ := h1
  have c1 : w1.cell? ⟨b, 1, none⟩ = some v := by rw [Lib.cell_of_heap hbk]; rfl
  have H1 := Lib.hid (And.intro hb1 (And.intro hf1 (And.intro hbk (And.intro hown (And.intro hne hBb)))))
  clear hb1 hf1 hbk hown hne hBb
  go_wp2_with (at_builtin; refine Bx.h ?_)
  refine ⟨?_⟩
  refine Lib.wpList_append_own_string _ rfl _ _ 116 9 rfl B 5 i0 Tryz.underlying116 Tryz.underlying9 hi hz0 hz1 hz2 _ _ _ rfl H1.out.2.2.2.1 ⟨s.toArray⟩ rfl ?c3 ?c4 ?c5 ?_
  case c3 => show bs.length + s.length ≤ maxLen; unfold maxLen; omega
  case c4 => show bs.length + s.length ≤ _; omega
  case c5 => have := H1.out.1.size; omega
  intro v' w2 hown' hgrow _
  replace hgrow : w1.grownBy w2 v.ownBlock := hgrow
  have hblt : b < w1.heap.size := (Array.getElem?_eq_some_iff.1 H1.out.2.2.1).1
  have hb2 : w2.heap[b]? = some (.cells #[.pointer (some ⟨b, 0, none⟩), v] WT (0, 0)) := (hgrow.block b hblt (fun e => H1.out.2.2.2.2.1 e.symm)).trans H1.out.2.2.1
  have d1 : w2.cell? ⟨b, 1, none⟩ = some v := by rw [Lib.cell_of_heap hb2]; rfl
  have f1 : w2.frozen? ⟨b, 1, none⟩ = false := Lib.frozen_of_heap hb2 1
  obtain ⟨ao, n', cap, rfl⟩ : ∃ ao n' cap, v' = .slice ao n' cap := by
    rcases hown'.2 with ⟨hv, _⟩ | ⟨g, cap, cur, hv, _⟩
    · exact ⟨_, _, _, hv⟩
    · exact ⟨_, _, _, hv⟩
  have hcs : Lib.strCells ⟨s.toArray⟩ = Lib.byteCells s := by
    unfold Lib.strCells
    rfl
  have hput := Lib.BuilderAt.put (T := WT) (e := 5) H1.out.2.2.2.2.2.1 hb2 (bs' := bs ++ Lib.byteCells s) (by rw [hcs] at hown'; rw [List.length_append, Lib.byteCells_length]; exact hown') (by decide)
  have hbel : Below B w (w2.setCell ⟨b, 1, none⟩ (.slice ao n' cap)) := (H1.out.1.grown hgrow (by have := H1.out.1.size; omega) (fun k hk => (H1.out.2.2.2.1.lt k hk).1)).setCell (p := ⟨b, 1, none⟩) H1.out.2.2.2.2.2.1 _
  have hfr : FrameW b w (w2.setCell ⟨b, 1, none⟩ (.slice ao n' cap)) := (H1.out.2.1.trans (FrameW.grown hgrow H1.out.2.2.2.1)).trans (FrameW.set _ _ _)
  have H2 := Lib.hid (And.intro hput (And.intro hbel hfr))
  clear hput hbel hfr hown' hgrow hb2 hcs hblt c1
  go_wp2
  go_ret2
  exact ⟨rfl, .inr H2.out.1, H2.out.2.1, H2.out.2.2⟩
theorem below_growN (w : World) (k : Nat) (os : Array Obj) : Below w.heap.size w (grow (w.drewN k) os) :=
  ⟨rfl, rfl, rfl, by show w.heap.size ≤ (w.heap ++ os).size; rw [Array.size_append]; omega, fun j hj => by
    show (w.heap ++ os)[j]? = _
    rw [Array.getElem?_append, if_pos hj]⟩
set_option maxRecDepth 100000 in
theorem show_any (n : Int) (w : World) (h0 : 0 ≤ n) (h1 : n ≤ 1000000000000000) (hE : Env w) :
    Calls Tryz.prog 80 #[.int .i64 n] w fun e w' => e = .returned (.string ⟨(Lib.itoa n).toArray⟩) ∧ Below w.heap.size w w' := by
  have hI := Tryz.strconv_Itoa n (by omega) (by omega) w hE.pow
  clear h0 h1 hE
  generalize Lib.itoa n = l at *
  go_enter Tryz.func80, Tryz.ntmps80
  go_wp2_with fail
  refine hI.mono ?_
  rintro e w1 ⟨rfl, k, os, hw⟩
  have hb : Below w.heap.size w w1 := by rw [hw]; exact below_growN w k os
  have HB := Lib.hid hb
  clear hI hw hb
  go_wp2
  go_ret
  exact ⟨rfl, HB.out⟩
/-- The writer holds so much. -/
structure WrAt (w0 : World) (b : Nat) (l : Bytes) (w : World) : Prop where
  below : Below w0.heap.size w0 w
  bld : Lib.IsBuilder WT 5 w0.heap.size b (Lib.byteCells l) w
theorem byteCells_append (a b : Bytes) : Lib.byteCells (a ++ b) = Lib.byteCells a ++ Lib.byteCells b := by simp [Lib.byteCells]
theorem WrAt.keep {w0 w w' : World} {b : Nat} {l : Bytes} (h : WrAt w0 b l w) (hB : Below w.heap.size w w') : WrAt w0 b l w' := by
  refine ⟨h.below.trans (hB.mono h.below.size), ?_⟩
  rcases h.bld with h | h
  · obtain ⟨h1, v, h2, h3, h4⟩ := h
    exact .inl ⟨h1, v, (hB.block _ (lt_of_cells h2)).trans h2, h3.kept (grownBy_of_below hB none) (by
      by_cases e : v.ownBlock = none
      · exact .inl e
      · exact .inr e), h4⟩
  · obtain ⟨h1, v, h2, h3, h4⟩ := h
    exact .inr ⟨h1, v, (hB.block _ (lt_of_cells h2)).trans h2, h3.kept (grownBy_of_below hB none) (by
      by_cases e : v.ownBlock = none
      · exact .inl e
      · exact .inr e), h4⟩
def numB (n : Int) : Bytes := Lib.itoa n ++ [58]
def txtB (s : Bytes) : Bytes := numB s.length ++ s
def yesB (b : Bool) : Bytes := numB (if b then 1 else 0)
theorem cat_bytes (a b : Bytes) : (⟨a.toArray⟩ : ByteArray) ++ ⟨b.toArray⟩ = ⟨(a ++ b).toArray⟩ := by
  apply ByteArray.ext
  simp [ByteArray.data_append]
theorem decDigits_len : ∀ (k n : Nat), n < 10 ^ (k + 1) → (Lib.decDigits n).length ≤ k + 1
  | 0, n, h => by
    rw [Lib.decDigits, dif_pos (by simpa using h)]
    simp
  | k + 1, n, h => by
    rw [Lib.decDigits]
    split
    · simp
    · rw [List.length_append]
      have := decDigits_len k (n / 10) (by rw [Nat.pow_succ] at h; omega)
      simp; omega
theorem itoa_len (n : Int) (h0 : 0 ≤ n) (h1 : n ≤ 1000000000000000) : (Lib.itoa n).length ≤ 100 := by
  unfold Lib.itoa
  rw [if_neg (by omega)]
  have := decDigits_len 15 n.toNat (by omega)
  omega
/-- What a writing does. -/
def WrPost (w0 : World) (b : Nat) (l : Bytes) (w : World) (e : Ending) (w' : World) : Prop := e = .returned (.tuple #[]) ∧ WrAt w0 b l w' ∧ FrameW b w w'
set_option maxRecDepth 100000 in
set_option maxHeartbeats 1000000 in
theorem wnum_any (w0 : World) (b : Nat) (l : Bytes) (n : Int) (w : World) (h : WrAt w0 b l w) (hE : Env w0) (h0 : 0 ≤ n) (h1 : n ≤ 1000000000000000) (hlen : l.length ≤ 100000000000) :
    Calls Tryz.prog 63 #[.pointer (some ⟨b, 0, none⟩), .int .i64 n] w (WrPost w0 b (l ++ numB n) w) := by
  have hE1 := hE.keep h.below
  have hS := BW.calls (w := w) (fun W hW => show_any n W h0 h1 (hE1.keep hW))
  have hil := itoa_len n h0 h1
  have hnb : numB n = Lib.itoa n ++ [58] := rfl
  have hcat := cat_bytes (Lib.itoa n) [58]
  rw [← hnb] at hcat
  have hnl : (numB n).length ≤ 101 := by rw [hnb]; simp; omega
  have hil2 : ¬ 9223372036854775807 < (Lib.itoa n).length + 1 := by omega
  have H := Lib.hid (And.intro h (And.intro hlen hnl))
  clear h hE hE1 h0 h1 hil hnb hlen hnl
  generalize numB n = nb at *
  generalize Lib.itoa n = it at *
  go_enter Tryz.func63, Tryz.ntmps63
  go_wp2_with fail
  refine wp_region_quiet_tail (C := fun w' => ∃ p : BW w, w' = p.v) 6 (by kernel_rfl) (by kernel_rfl) ⟨⟨w.drew, ⟨rfl, rfl, rfl, Nat.le_refl _, fun _ _ => rfl⟩⟩, rfl⟩ ?_
  simp only [List.take_succ_cons, List.take_zero, List.drop_succ_cons, List.drop_zero]
  repeat (go_big_quiet_step (exact hS _))
  refine wpQuiet_nil ?_
  rintro W1 ⟨⟨W1, hB1⟩, rfl⟩
  have hk := H.out.1.keep hB1
  have hwr := writeString_any w0.heap.size b (Lib.byteCells l) nb W1 hk.bld (by rw [Lib.byteCells_length]; have := H.out.2; omega) hk.below.size
  have H1 := Lib.hid (And.intro hk hB1)
  clear hS hcat hil2 hk hB1
  go_wp2_with fail
  refine hwr.mono ?_
  rintro e w2 ⟨rfl, hb2, hB2, hf2⟩
  have H2 := Lib.hid (And.intro hb2 (And.intro hB2 hf2))
  clear hwr hb2 hB2 hf2
  go_wp2
  go_end0
  refine ⟨rfl, ⟨H1.out.1.below.trans (by have := H2.out.2.1; exact this), ?_⟩, (FrameW.below H1.out.2).trans H2.out.2.2⟩
  rw [byteCells_append]
  exact H2.out.1
set_option maxRecDepth 100000 in
set_option maxHeartbeats 1000000 in
theorem wtext_any (w0 : World) (b : Nat) (l s : Bytes) (w : World) (h : WrAt w0 b l w) (hE : Env w0) (hs : s.length ≤ 1000000) (hlen : l.length ≤ 90000000000) :
    Calls Tryz.prog 64 #[.pointer (some ⟨b, 0, none⟩), .string ⟨s.toArray⟩] w (WrPost w0 b (l ++ txtB s) w) := by
  have hN := wnum_any w0 b l (s.length : Int) w h hE (by omega) (by omega) (by omega)
  have hsz : (⟨s.toArray⟩ : ByteArray).size = s.length := rfl
  have hnl : (numB (s.length : Int)).length ≤ 101 := by
    have := itoa_len (s.length : Int) (by omega) (by omega)
    unfold numB
    simp; omega
  have hW := fun W (h : WrAt w0 b (l ++ numB (s.length : Int)) W) => writeString_any w0.heap.size b (Lib.byteCells (l ++ numB (s.length : Int))) s W h.bld (by rw [Lib.byteCells_length, List.length_append]; omega) h.below.size
  have htx : l ++ txtB s = (l ++ numB (s.length : Int)) ++ s := by unfold txtB; rw [List.append_assoc]
  have HT := Lib.hid (And.intro htx (And.intro h.below hs))
  clear h hE htx hnl hlen
  go_enter Tryz.func64, Tryz.ntmps64
  go_wp2_with fail
  refine hN.mono ?_
  rintro e w1 ⟨rfl, hw1, hf1⟩
  have hW1 := hW w1 hw1
  have H1 := Lib.hid (And.intro hw1 hf1)
  clear hN hW hw1 hf1
  go_wp2_with fail
  refine hW1.mono ?_
  rintro e w2 ⟨rfl, hb2, hB2, hf2⟩
  have H2 := Lib.hid (And.intro hb2 (And.intro hB2 hf2))
  clear hW1 hb2 hB2 hf2
  go_wp2
  go_end0
  refine ⟨rfl, ⟨H1.out.1.below.trans H2.out.2.1, ?_⟩, H1.out.2.trans H2.out.2.2⟩
  rw [HT.out.1, byteCells_append]
  exact H2.out.1
set_option maxRecDepth 100000 in
theorem wyes_any (w0 : World) (b : Nat) (l : Bytes) (y : Bool) (w : World) (h : WrAt w0 b l w) (hE : Env w0) (hlen : l.length ≤ 90000000000) :
    Calls Tryz.prog 65 #[.pointer (some ⟨b, 0, none⟩), .bool y] w (WrPost w0 b (l ++ yesB y) w) := by
  cases y with
  | true =>
    have hN := wnum_any w0 b l 1 w h hE (by omega) (by omega) (by omega)
    have hy : yesB true = numB 1 := rfl
    rw [hy]
    clear h hE hy
    go_enter Tryz.func65, Tryz.ntmps65
    go_wp2_with fail
    refine hN.mono ?_
    rintro e w1 ⟨rfl, hw1, hf1⟩
    have H1 := Lib.hid (And.intro hw1 hf1)
    clear hN hw1 hf1
    go_wp2
    go_end0
    exact ⟨rfl, H1.out.1, H1.out.2⟩
  | false =>
    have hN := wnum_any w0 b l 0 w h hE (by omega) (by omega) (by omega)
    have hy : yesB false = numB 0 := rfl
    rw [hy]
    clear h hE hy
    go_enter Tryz.func65, Tryz.ntmps65
    go_wp2_with fail
    refine hN.mono ?_
    rintro e w1 ⟨rfl, hw1, hf1⟩
    have H1 := Lib.hid (And.intro hw1 hf1)
    clear hN hw1 hf1
    go_wp2
    go_end0
    exact ⟨rfl, H1.out.1, H1.out.2⟩
end Go.Proofs.YtlpngibdplnieaaGreatDoor

/- (*strings.Builder).String, of a writer. -/
namespace Go.Proofs.YtlpngibdplnieaaGreatDoor
open Go Go.RowKit Go.Shelf Go.Sort
attribute [local go_sem] bneI
theorem cellsByteE : Tryz.prog.cellsOf 5 = 1 := by kernel_rfl
set_option maxRecDepth 100000 in
set_option maxHeartbeats 1000000 in
theorem bstr_any (w0 : World) (b : Nat) (l : Bytes) (w : World) (h : WrAt w0 b l w) (h0 : l ≠ []) :
    Calls Tryz.prog 66 #[.pointer (some ⟨b, 0, none⟩)] w fun e w' => e = .returned (.string ⟨l.toArray⟩) ∧ Below w0.heap.size w0 w' := by
  obtain ⟨p, hB, v, hbk, hown, hne⟩ : ∃ p, Lib.BuilderAt WT 5 w0.heap.size b p (Lib.byteCells l) w := by
    rcases h.bld with h | h
    · exact ⟨_, h⟩
    · exact ⟨_, h⟩
  have hl0 : l.length ≠ 0 := by simpa using h0
  rw [Lib.byteCells_length] at hown
  obtain ⟨g, cap, cur, rfl, hbg, hg, hnc, hcm, hcs, htake⟩ : ∃ g cap cur, v = .slice (some ⟨g, 0, none⟩) l.length cap ∧ w0.heap.size ≤ g ∧ w.heap[g]? = some (.cells cur 5 (0, 0)) ∧ l.length ≤ cap ∧ cap ≤ maxLen ∧ cur.size = cap * 1 ∧ cur.toList.take (l.length * 1) = Lib.byteCells l := by
    rcases hown.2 with ⟨_, hz⟩ | ⟨g, cap, cur, hv, r⟩
    · exact absurd hz hl0
    · exact ⟨g, cap, cur, hv, r⟩
  have c1 : w.drew.cell? ⟨b, 1, none⟩ = some (.slice (some ⟨g, 0, none⟩) l.length cap) := by
    have : w.drew.heap[b]? = some (.cells #[p, .slice (some ⟨g, 0, none⟩) l.length cap] WT (0, 0)) := hbk
    rw [Lib.cell_of_heap this]; rfl
  have hSD : ∀ ty, (Builtin.unsafeSliceData_ #[116] ty #[.slice (some ⟨g, 0, none⟩) l.length cap]).run Tryz.prog w.drew = .ok (.pointer (some ⟨g, 0, none⟩)) w.drew := fun ty =>
    Lib.run_unsafeSliceData_row _ _ _ _ _ _ (by omega)
  have hUS : (Builtin.unsafeString_ #[169, 3] 9 #[.pointer (some ⟨g, 0, none⟩), .int .i64 l.length]).run Tryz.prog w.drew = .ok (.string ⟨l.toArray⟩) (w.drew.freeze ⟨g, 0, none⟩ l.length) := by
    refine Lib.run_unsafeString_row w.drew 169 3 9 5 Tryz.underlying169 cellsByteE g cur.size (by have hg' : w.drew.heap[g]? = some (.cells cur 5 (0, 0)) := hg; simp [World.shape?, hg']) l h0 (by omega) (by unfold maxLen at hcm; omega) ?_
    intro j x hx
    have := hown.cells (g := g) rfl j (.int .u8 x.toNat) (by simp [Lib.byteCells, hx])
    exact this
  have HB := Lib.hid (And.intro h.below hbg)
  clear h hbk hown hne hg hnc hcm hcs htake hbg hB h0 hl0
  go_enter Tryz.func66, Tryz.ntmps66
  go_wp2
  go_region
  all_goals (go_wp2; go_ret; exact ⟨rfl, Lib.below_freeze (show Below w0.heap.size w0 w.drew from HB.out.1.trans ⟨rfl, rfl, rfl, Nat.le_refl _, fun _ _ => rfl⟩) (p := ⟨g, 0, none⟩) HB.out.2 _⟩)
end Go.Proofs.YtlpngibdplnieaaGreatDoor

/- entry.Encode. -/
namespace Go.Proofs.YtlpngibdplnieaaGreatDoor
open Go Go.RowKit Go.Shelf Go.Sort
attribute [local go_sem] bneI

def rfB (p : RcP × FaP) : Bytes := txtB p.1.1 ++ (yesB p.1.2 ++ (numB p.2.1 ++ txtB p.2.2))
def joB (j : JoP) : Bytes := txtB j.dom ++ (numB j.tries ++ numB j.due)
def encB (x : EntP) : Bytes := numB x.id ++ (numB x.at_ ++ (txtB x.mail.sender ++ (yesB x.mail.req ++ (txtB x.mail.envid ++ (txtB x.mail.text ++ (numB x.fates.length ++ ((x.mail.rcpts.zip x.fates).flatMap rfB ++ (numB x.jobs.length ++ x.jobs.flatMap joB))))))))
/-- What stands ahead of the fates, of the jobs. -/
def encA (x : EntP) : Bytes := numB x.id ++ numB x.at_ ++ txtB x.mail.sender ++ yesB x.mail.req ++ txtB x.mail.envid ++ txtB x.mail.text ++ numB x.fates.length
def encC (x : EntP) (i : Nat) : Bytes := encA x ++ ((x.mail.rcpts.zip x.fates).take i).flatMap rfB
def encJ (x : EntP) : Bytes := encA x ++ (x.mail.rcpts.zip x.fates).flatMap rfB ++ numB x.jobs.length
def encK (x : EntP) (i : Nat) : Bytes := encJ x ++ (x.jobs.take i).flatMap joB
theorem encB_eq (x : EntP) : encB x = encJ x ++ x.jobs.flatMap joB := by unfold encB encJ encA; simp only [List.append_assoc]
theorem flat_take {α : Type} (f : α → Bytes) (l : List α) (i : Nat) : ((l.take i).flatMap f).length ≤ (l.flatMap f).length := by
  conv => rhs; rw [← List.take_append_drop i l, List.flatMap_append, List.length_append]
  omega
theorem encC_succ (x : EntP) (i : Nat) (h : i < (x.mail.rcpts.zip x.fates).length) : encC x (i + 1) = encC x i ++ rfB (x.mail.rcpts.zip x.fates)[i] := by
  unfold encC
  rw [List.take_succ_eq_append_getElem h, List.flatMap_append, List.append_assoc]
  simp
theorem encK_succ (x : EntP) (i : Nat) (h : i < x.jobs.length) : encK x (i + 1) = encK x i ++ joB x.jobs[i] := by
  unfold encK
  rw [List.take_succ_eq_append_getElem h, List.flatMap_append, List.append_assoc]
  simp
theorem encC_le (x : EntP) (i : Nat) : (encC x i).length ≤ (encB x).length := by
  have := flat_take rfB (x.mail.rcpts.zip x.fates) i
  unfold encC encB encA
  simp only [List.length_append]
  omega
theorem encK_le (x : EntP) (i : Nat) : (encK x i).length ≤ (encB x).length := by
  have := flat_take joB x.jobs i
  rw [encB_eq]
  unfold encK
  simp only [List.length_append]
  omega
theorem numB_len (n : Int) (h0 : 0 ≤ n) (h1 : n ≤ 1000000000000000) : (numB n).length ≤ 101 := by
  have := itoa_len n h0 h1
  unfold numB
  simp; omega
theorem flat_bound {α : Type} (f : α → Bytes) (k : Nat) : ∀ (l : List α), (∀ x ∈ l, (f x).length ≤ k) → (l.flatMap f).length ≤ l.length * k
  | [], _ => by simp
  | x :: l, h => by
    have h1 := h x List.mem_cons_self
    have h2 := flat_bound f k l fun y hy => h y (List.mem_cons_of_mem _ hy)
    rw [List.flatMap_cons, List.length_append, List.length_cons, Nat.add_mul]
    omega
theorem txtB_len (s : Bytes) (h : s.length ≤ 1000000) : (txtB s).length ≤ 1000101 := by
  have := numB_len (s.length : Int) (by omega) (by omega)
  unfold txtB
  rw [List.length_append]
  omega
theorem yesB_len (b : Bool) : (yesB b).length ≤ 101 := by
  unfold yesB
  cases b <;> exact numB_len _ (by decide) (by decide)
theorem insB_len (d : Bytes) : ∀ l : List Bytes, (insB d l).length ≤ l.length + 1
  | [] => by simp [insB]
  | x :: l => by
    unfold insB
    split
    · simp
    · split
      · simp
      · have := insB_len d l; simp; omega
theorem domsM_len (rs : List RcP) : (domsM rs).length ≤ rs.length := by
  refine Nat.le_trans ?_ (domsOf_le rs)
  unfold domsM
  induction domsOf rs with
  | nil => simp
  | cons d l ih => have := insB_len d (l.foldr insB []); simp; omega
structure MayN (x : EntP) : Prop where
  id : 1 ≤ x.id
  idc : clockB x.id = true
  at_ : clockB x.at_ = true
  mail : mailB x.mail 4 4096 = 0
  plain : x.plain = plainM x.mail
  len : x.fates.length = x.mail.rcpts.length
  fates : ∀ f ∈ x.fates, wrongB f = false
  jobs : jobsOk x.jobs (domsM x.mail.rcpts) = true
theorem mayN_iff (x : EntP) : mayN x = true ↔ MayN x := by
  unfold mayN
  simp only [Bool.and_eq_true, decide_eq_true_eq, beq_iff_eq, Bool.not_eq_true', List.any_eq_false]
  constructor
  · rintro ⟨h1, h2, h3, h4, h5, h6, h7, h8⟩
    exact ⟨h1, h2, h3, h4, h5, h6, fun f hf => by simpa using h7 f hf, h8⟩
  · rintro ⟨h1, h2, h3, h4, h5, h6, h7, h8⟩
    exact ⟨h1, h2, h3, h4, h5, h6, fun f hf => by simp [h7 f hf], h8⟩
theorem mailB_rc {m : MailP} {r most : Nat} (h : mailB m r most = 0) : m.rcpts.length ≤ r ∧ m.text.length ≤ most := by
  unfold mailB at h
  split at h
  · omega
  · omega
theorem MayN.rc {x : EntP} (h : MayN x) : x.mail.rcpts.length ≤ 4 := (mailB_rc h.mail).1
theorem jobsOk_mem {js : List JoP} {ds : List Bytes} (h : jobsOk js ds = true) : js.length = ds.length ∧ ∀ j ∈ js, 0 ≤ j.tries ∧ j.tries ≤ 99 ∧ clockB j.due = true := by
  have h := (jobsOk_iff js ds).1 h
  refine ⟨h.1, fun j hj => ?_⟩
  obtain ⟨i, hi, rfl⟩ := List.getElem_of_mem hj
  have := h.2 i hi (by omega)
  unfold jobOk at this
  simp only [Bool.and_eq_true, decide_eq_true_eq] at this
  exact this.2
theorem wrong_len {f : FaP} (h : wrongB f = false) : f.1 ≤ 2 ∧ f.2.length ≤ 128 := by
  obtain ⟨h1, h2, -⟩ := wrong_no f h
  refine ⟨by omega, ?_⟩
  rw [← h2]
  unfold wordB
  simp; omega
theorem clock_le {n : Int} (h : clockB n = true) : 0 ≤ n ∧ n ≤ 1099511627776 := by
  unfold clockB at h
  simpa using h
theorem enc_len {x : EntP} (h : MayN x) (hs : ShortE x) : (encB x).length ≤ 50000000 := by
  have h1 := clock_le h.idc
  have h2 := clock_le h.at_
  have h3 := numB_len x.id h1.1 (by omega)
  have h4 := numB_len x.at_ h2.1 (by omega)
  have h5 := txtB_len _ hs.mail.sender
  have h6 := txtB_len _ hs.mail.envid
  have h7 := txtB_len _ hs.mail.text
  have h8 := yesB_len x.mail.req
  have hrc := h.rc
  have h9 := numB_len (x.fates.length : Int) (by omega) (by have := h.len; omega)
  have hj := jobsOk_mem h.jobs
  have hdl := domsM_len x.mail.rcpts
  have h10 := numB_len (x.jobs.length : Int) (by omega) (by omega)
  have h11 := flat_bound rfB 2000505 (x.mail.rcpts.zip x.fates) fun p hp => by
    have hm := List.of_mem_zip hp
    have hf := wrong_len (h.fates _ hm.2)
    have k1 := txtB_len _ (hs.mail.tos _ hm.1)
    have k2 := yesB_len p.1.2
    have k3 := numB_len (p.2.1 : Int) (by omega) (by omega)
    have k4 := txtB_len _ (hs.texts _ hm.2)
    unfold rfB
    simp only [List.length_append]
    omega
  have h12 := flat_bound joB 1000303 x.jobs fun j hjm => by
    have hk := hj.2 j hjm
    have hc := clock_le hk.2.2
    have k1 := txtB_len _ (hs.doms j hjm)
    have k2 := numB_len j.tries hk.1 (by omega)
    have k3 := numB_len j.due hc.1 (by omega)
    unfold joB
    simp only [List.length_append]
    omega
  have hz : (x.mail.rcpts.zip x.fates).length ≤ 4 := by rw [List.length_zip]; omega
  have hjl : x.jobs.length ≤ 4 := by omega
  have h13 : (x.mail.rcpts.zip x.fates).length * 2000505 ≤ 4 * 2000505 := Nat.mul_le_mul_right _ hz
  have h14 : x.jobs.length * 1000303 ≤ 4 * 1000303 := Nat.mul_le_mul_right _ hjl
  unfold encB
  simp only [List.length_append]
  omega
/-- What Encode answers. -/
def EncPost (x : EntP) (e : Ending) : Prop := (mayN x = true ∧ e = .returned (.tuple #[.string ⟨(encB x).toArray⟩, .int .i64 0])) ∨ (mayN x = false ∧ e = .returned (.tuple #[.string ⟨#[]⟩, .int .i64 4]))
end Go.Proofs.YtlpngibdplnieaaGreatDoor

/- entry.Make. -/
namespace Go.Proofs.YtlpngibdplnieaaGreatDoor
open Go Go.RowKit Go.Shelf Go.Sort
attribute [local go_sem] bneI

theorem infoJo : (Tryz.prog.info? 71).map (fun i => (i.zero, i.size, i.bytes)) = some (some (.agg #[.string ⟨#[]⟩, .int .i64 0, .int .i64 0]), 3, 32) := by kernel_rfl
theorem infoF : (Tryz.prog.info? 61).map (fun i => (i.zero, i.size, i.bytes)) = some (some (.agg #[.int .u8 0, .string ⟨#[]⟩]), 2, 24) := by kernel_rfl
/-- The entry that is copied. -/
def preN (id at_ : Int) (m : MailP) : EntP := ⟨id, at_, m, plainM m, List.replicate m.rcpts.length (0, []), []⟩
def makeN (id at_ : Int) (m : MailP) : EntP := ⟨id, at_, m, plainM m, List.replicate m.rcpts.length (0, []), (domsM m.rcpts).map fun d => ⟨d, 0, at_⟩⟩
def zeroF (n : Nat) : Array Value := madeCells #[.int .u8 0, .string ⟨#[]⟩] (n * 2)
theorem make_run (n : Nat) (W : World) (hn : n ≤ 1000000) : (Instr.makeSlice 25 (.int .i64 (n : Int)) (.int .i64 (n : Int))).run Tryz.prog W = .ok (.slice (some ⟨W.heap.size, 0, none⟩) n n) (W.alloc (.cells (zeroF n) 61)) := by
  obtain ⟨i0, hi, hz0, hz1, hz2⟩ := info_parts infoF
  have h := run_makeSlice (P := Tryz.prog) W 25 61 i0 _ Tryz.underlying25 hi hz0 .i64 .i64 (n : Int) (n : Int) (by omega) (Int.le_refl _) (by rw [hz1]; simp; omega) (by rw [hz2]; omega) (by omega)
  rw [hz1] at h
  unfold zeroF
  simpa [Value.cells] using h
theorem zeroF_get (n k : Nat) (h : k < n * 2) : (zeroF n)[k]? = some (if k % 2 = 0 then .int .u8 0 else .string ⟨#[]⟩) := by
  unfold zeroF madeCells
  rw [Array.getElem?_map, Array.getElem?_range, if_pos h]
  have h2 : k % 2 < 2 := Nat.mod_lt _ (by decide)
  by_cases e : k % 2 = 0
  · rw [if_pos e]
    simp [e]
  · rw [if_neg e]
    have : k % 2 = 1 := by omega
    simp [this]
theorem zeroRow {W : World} {g n : Nat} (h : W.heap[g]? = some (.cells (zeroF n) 61 (0, 0))) : RowK 2 faE W (.slice (some ⟨g, 0, none⟩) n n) (List.replicate n ((0, []) : FaP)) := by
  refine ⟨some ⟨g, 0, none⟩, n, by rw [List.length_replicate], by rw [List.length_replicate]; exact Nat.le_refl _, fun _ => ⟨g, 0, rfl, fun i hi j u hu => ?_⟩⟩
  rw [List.length_replicate] at hi
  rw [List.getElem_replicate] at hu
  have hj := (List.getElem?_eq_some_iff.1 hu).1
  have hj2 : j < 2 := hj
  have hk := zeroF_get n (i * 2 + j) (by omega)
  simp only [World.cell?, h, Nat.zero_add]
  have hcases : (j = 0 ∧ u = .int .u8 0) ∨ (j = 1 ∧ u = .string ⟨#[]⟩) := by
    match j, hj2, hu with
    | 0, _, hu => simp [faE] at hu; exact .inl ⟨rfl, hu.symm⟩
    | 1, _, hu => simp [faE] at hu; exact .inr ⟨rfl, hu.symm⟩
  rcases hcases with ⟨rfl, rfl⟩ | ⟨rfl, rfl⟩
  · rw [if_pos (by omega)] at hk
    simpa using hk
  · rw [if_neg (by omega)] at hk
    simpa using hk
theorem shortPre {id at_ : Int} {m : MailP} (h : ShortM m) : ShortE (preN id at_ m) := ⟨h, by simp [preN]; exact h.rcpts, by simp [preN], fun f hf => by rw [List.eq_of_mem_replicate hf]; decide, fun f hf => by rw [List.eq_of_mem_replicate hf]; decide, fun j hj => by cases hj⟩
abbrev setAll (W : World) (b : Nat) (v0 v1 v2 v3 v4 v5 v6 v7 v8 v9 : Value) : World :=
  (((((((((W.setCell ⟨b, 0, none⟩ v0).setCell ⟨b, 1, none⟩ v1).setCell ⟨b, 2, none⟩ v2).setCell ⟨b, 3, none⟩ v3).setCell ⟨b, 4, none⟩ v4).setCell ⟨b, 5, none⟩ v5).setCell ⟨b, 6, none⟩ v6).setCell ⟨b, 7, none⟩ v7).setCell ⟨b, 8, none⟩ v8).setCell ⟨b, 9, none⟩ v9
theorem setAll_below {n : Nat} {W1 W : World} {b : Nat} (h : Below n W1 W) (hb : n ≤ b) (v0 v1 v2 v3 v4 v5 v6 v7 v8 v9 : Value) : Below n W1 (setAll W b v0 v1 v2 v3 v4 v5 v6 v7 v8 v9) :=
  (((((((((h.setCell (p := ⟨b, 0, none⟩) hb _).setCell (p := ⟨b, 1, none⟩) hb _).setCell (p := ⟨b, 2, none⟩) hb _).setCell (p := ⟨b, 3, none⟩) hb _).setCell (p := ⟨b, 4, none⟩) hb _).setCell (p := ⟨b, 5, none⟩) hb _).setCell (p := ⟨b, 6, none⟩) hb _).setCell (p := ⟨b, 7, none⟩) hb _).setCell (p := ⟨b, 8, none⟩) hb _).setCell (p := ⟨b, 9, none⟩) hb _
theorem setAll_box {W : World} {b : Nat} {z0 z1 z2 z3 z4 z5 z6 z7 z8 z9 : Value} {t : TypeId} (h : W.heap[b]? = some (.cells #[z0, z1, z2, z3, z4, z5, z6, z7, z8, z9] t (0, 0))) (v0 v1 v2 v3 v4 v5 v6 v7 v8 v9 : Value) :
    (setAll W b v0 v1 v2 v3 v4 v5 v6 v7 v8 v9).heap[b]? = some (.cells #[v0, v1, v2, v3, v4, v5, v6, v7, v8, v9] t (0, 0)) := by
  have h := heap_setE (off := 9) (v := v9) (heap_setE (off := 8) (v := v8) (heap_setE (off := 7) (v := v7) (heap_setE (off := 6) (v := v6) (heap_setE (off := 5) (v := v5) (heap_setE (off := 4) (v := v4) (heap_setE (off := 3) (v := v3) (heap_setE (off := 2) (v := v2) (heap_setE (off := 1) (v := v1) (heap_setE (off := 0) (v := v0) h)))))))))
  simp only [List.setIfInBounds_toArray, List.set_cons_succ, List.set_cons_zero] at h
  exact h
theorem own_set {W : World} {base b : Nat} {T : TypeId} {k : Nat} {v : Value} {n : Nat} {xs : List Value} {cs : Array Value} (h : W.ownsRow base T k v n xs) (hb : W.heap[b]? = some (.cells cs 28 (0, 0))) (hT : T ≠ 28) (v0 v1 v2 v3 v4 v5 v6 v7 v8 v9 : Value) : (setAll W b v0 v1 v2 v3 v4 v5 v6 v7 v8 v9).ownsRow base T k v n xs := by
  have hne : v.ownBlock = none ∨ v.ownBlock ≠ some b := by
    rcases h.2 with ⟨rfl, _⟩ | ⟨g, cap, cur, rfl, _, hg, _⟩
    · exact .inl rfl
    · refine .inr fun e => ?_
      have : g = b := by simpa [Value.ownBlock] using e
      subst this
      rw [hg] at hb
      injection hb with hb
      injection hb with _ hb _
      exact hT hb
  have s : ∀ (W : World) (o : Nat) (u : Value), W.grownBy (W.setCell ⟨b, o, none⟩ u) (some b) := fun W o u => ⟨rfl, rfl, rfl, by simp [World.setCell], fun k _ hk => Below.heap_setCell _ _ _ k (fun e => hk (by rw [e]))⟩
  exact (((((((((h.kept (s _ _ _) hne).kept (s _ _ _) hne).kept (s _ _ _) hne).kept (s _ _ _) hne).kept (s _ _ _) hne).kept (s _ _ _) hne).kept (s _ _ _) hne).kept (s _ _ _) hne).kept (s _ _ _) hne).kept (s _ _ _) hne
/-- What the first lines of Make leave. -/
structure MkEnd (W1 : World) (x : EntP) (bx : Nat) (sv fv jv : Value) (T : World) : Prop where
  below : Below W1.heap.size W1 T
  box : T.heap[bx]? = some (.cells (entC x sv fv jv).toArray 28 (0, 0))
  ge : W1.heap.size ≤ bx
  own : OwnE T W1.heap.size x sv fv jv
theorem mk_ownA {W1 Wz wc : World} {id at_ : Int} {m : MailP} {sv jv : Value} {p2 : Option Addr} {c2 n : Nat} {o : Obj} (h : OwnE wc Wz.heap.size (preN id at_ m) sv (.slice p2 n c2) jv) (hn : n = m.rcpts.length) (hz : W1.heap.size ≤ Wz.heap.size) : OwnE (wc.alloc o) W1.heap.size (preN id at_ m) sv (.slice p2 m.rcpts.length c2) jv := by
  subst hn
  have k : ∀ {T : TypeId} {s : Nat} {v : Value} {n : Nat} {xs : List Value}, wc.ownsRow Wz.heap.size T s v n xs → (wc.alloc o).ownsRow W1.heap.size T s v n xs := fun h => ownsRow_less (h.kept (World.grownBy_alloc wc o none) (Classical.em _)) hz
  exact ⟨k h.rc, k h.fa, k h.jo⟩
theorem mk_ownB {W1 Wz wc : World} {id at_ : Int} {m : MailP} {sv jv : Value} {p2 : Option Addr} {c2 n b : Nat} {cs : Array Value} {v0 v1 v2 v3 v4 v5 v6 v7 v8 v9 : Value} (h : OwnE wc Wz.heap.size (preN id at_ m) sv (.slice p2 n c2) jv) (hn : n = m.rcpts.length) (hz : W1.heap.size ≤ Wz.heap.size) (hb : wc.heap[b]? = some (.cells cs 28 (0, 0))) : OwnE (setAll wc b v0 v1 v2 v3 v4 v5 v6 v7 v8 v9) W1.heap.size (preN id at_ m) sv (.slice p2 m.rcpts.length c2) jv := by
  subst hn
  exact ⟨ownsRow_less (own_set h.rc hb (by decide) _ _ _ _ _ _ _ _ _ _) hz, ownsRow_less (own_set h.fa hb (by decide) _ _ _ _ _ _ _ _ _ _) hz, ownsRow_less (own_set h.jo hb (by decide) _ _ _ _ _ _ _ _ _ _) hz⟩
/-- Rows of different types do not share a block. -/
theorem own_apart {w : World} {a b : Nat} {S T : TypeId} {j k : Nat} {u v : Value} {m n : Nat} {xs ys : List Value} (h : w.ownsRow a S j u m xs) (g : w.ownsRow b T k v n ys) (hne : S ≠ T) : u.ownBlock = none ∨ u.ownBlock ≠ v.ownBlock := by
  rcases h.2 with ⟨rfl, _⟩ | ⟨p, c1, cur1, rfl, _, h1, _⟩
  · exact .inl rfl
  · refine .inr fun e => ?_
    rcases g.2 with ⟨rfl, _⟩ | ⟨q, c2, cur2, rfl, _, h2, _⟩
    · simp [Value.ownBlock] at e
    · have e2 : p = q := by simpa [Value.ownBlock] using e
      subst e2
      rw [h1] at h2
      injection h2 with h2
      injection h2 with _ h2 _
      exact hne h2
theorem own_set1 {W : World} {base b o : Nat} {T S : TypeId} {k : Nat} {v u : Value} {n : Nat} {xs : List Value} {cs : Array Value} (h : W.ownsRow base T k v n xs) (hb : W.heap[b]? = some (.cells cs S (0, 0))) (hT : T ≠ S) : (W.setCell ⟨b, o, none⟩ u).ownsRow base T k v n xs := by
  refine h.kept (row := some b) ⟨rfl, rfl, rfl, by simp [World.setCell], fun k _ hk => Below.heap_setCell _ _ _ k (fun e => hk (by rw [e]))⟩ ?_
  rcases h.2 with ⟨rfl, _⟩ | ⟨g, cap, cur, rfl, _, hg, _⟩
  · exact .inl rfl
  · refine .inr fun e => ?_
    have e2 : g = b := by simpa [Value.ownBlock] using e
    subst e2
    rw [hg] at hb
    injection hb with hb
    injection hb with _ hb _
    exact hT hb
def addN (id at_ : Int) (m : MailP) (D : List Bytes) : EntP := ⟨id, at_, m, plainM m, List.replicate m.rcpts.length (0, []), D.map fun d => ⟨d, 0, at_⟩⟩
/-- The entry under way, with the jobs of the first domains. -/
structure MkL (W1 : World) (x : EntP) (D : List Bytes) (bx : Nat) (sv fv dv jv : Value) (wr : World) : Prop where
  below : Below W1.heap.size W1 wr
  box : wr.heap[bx]? = some (.cells (entC x sv fv jv).toArray 28 (0, 0))
  ge : W1.heap.size ≤ bx
  own : OwnE wr W1.heap.size x sv fv jv
  dom : wr.ownsRow W1.heap.size 9 1 dv D.length (D.map str)
theorem MkL.box5 {W1 : World} {x : EntP} {D : List Bytes} {bx : Nat} {sv fv dv jv : Value} {wr w5 : World} {o : Obj} (h : MkL W1 x D bx sv fv dv jv wr) (hg : (wr.alloc o).grownBy w5 jv.ownBlock) : w5.heap[bx]? = some (.cells (entC x sv fv jv).toArray 28 (0, 0)) := by
  have hg2 : wr.grownBy w5 jv.ownBlock := (World.grownBy_alloc _ _ _).trans hg
  have hjo : jv.ownBlock ≠ some bx := by
    intro e
    rcases h.own.jo.2 with ⟨rfl, _⟩ | ⟨g, cap, cur, rfl, _, hg, _⟩
    · simp [Value.ownBlock] at e
    · have e2 : g = bx := by simpa [Value.ownBlock] using e
      subst e2
      have hb := h.box
      rw [hg] at hb
      injection hb with hb
      injection hb with _ hb _
      exact absurd hb (by decide)
  have hlt : bx < wr.heap.size := (Array.getElem?_eq_some_iff.1 h.box).1
  rw [hg2.block bx hlt (fun e => hjo e.symm)]
  exact h.box
theorem MkL.step {W1 : World} {id at_ : Int} {m : MailP} {D : List Bytes} {i : Nat} {d : Bytes} {bx : Nat} {sv fv dv jv jv' : Value} {wr w5 : World} {o : Obj} {ys : List Value} (h : MkL W1 (addN id at_ m (D.take i)) D bx sv fv dv jv wr) (hd : D[i]? = some d)
    (hg : (wr.alloc o).grownBy w5 jv.ownBlock) (ho : w5.ownsRow W1.heap.size 71 3 jv' (i + 1) ys) (hys : ys = ((D.take i).map fun d => (⟨d, 0, at_⟩ : JoP)).flatMap joE ++ [.string ⟨d.toArray⟩, .int .i64 0, .int .i64 at_]) :
    MkL W1 (addN id at_ m (D.take (i + 1))) D bx sv fv dv jv' (w5.setCell ⟨bx, 9, none⟩ jv') := by
  have hi : i < D.length := (List.getElem?_eq_some_iff.1 hd).1
  have hdi : D[i] = d := (List.getElem?_eq_some_iff.1 hd).2
  have htk : D.take (i + 1) = D.take i ++ [d] := by rw [List.take_succ_eq_append_getElem hi, hdi]
  have hg2 : wr.grownBy w5 jv.ownBlock := (World.grownBy_alloc _ _ _).trans hg
  have hjo : jv.ownBlock ≠ some bx := by
    intro e
    rcases h.own.jo.2 with ⟨rfl, _⟩ | ⟨g, cap, cur, rfl, _, hg, _⟩
    · simp [Value.ownBlock] at e
    · have e2 : g = bx := by simpa [Value.ownBlock] using e
      subst e2
      have hb := h.box
      rw [hg] at hb
      injection hb with hb
      injection hb with _ hb _
      exact absurd hb (by decide)
  have hlt : bx < wr.heap.size := (Array.getElem?_eq_some_iff.1 h.box).1
  have hb5 : w5.heap[bx]? = some (.cells (entC (addN id at_ m (D.take i)) sv fv jv).toArray 28 (0, 0)) := by
    rw [hg2.block bx hlt (fun e => hjo e.symm)]
    exact h.box
  have hbs := heap_setE (off := 9) (v := jv') hb5
  unfold entC at hbs
  simp only [List.setIfInBounds_toArray, List.set_cons_succ, List.set_cons_zero] at hbs
  have hB := h.below.grown hg2 h.below.size (fun k e => own_ge h.own.jo k e)
  refine ⟨hB.setCell (p := ⟨bx, 9, none⟩) h.ge _, by unfold entC; exact hbs, h.ge, ⟨?_, ?_, ?_⟩, ?_⟩
  · exact own_set1 (h.own.rc.kept hg2 (own_apart h.own.rc h.own.jo (by decide))) hb5 (by decide)
  · exact own_set1 (h.own.fa.kept hg2 (own_apart h.own.fa h.own.jo (by decide))) hb5 (by decide)
  · have e1 : (addN id at_ m (D.take (i + 1))).jobs.length = i + 1 := by simp [addN]; omega
    have e2 : (addN id at_ m (D.take (i + 1))).jobs.flatMap joE = ys := by
      rw [hys, htk]
      simp [addN, joE]
    rw [e1, e2]
    exact own_set1 ho hb5 (by decide)
  · exact own_set1 (h.dom.kept hg2 (own_apart h.dom h.own.jo (by decide))) hb5 (by decide)
theorem MkL.start {W1 T w2 : World} {id at_ : Int} {m : MailP} {D : List Bytes} {bx : Nat} {sv fv dv jv : Value} (h : MkEnd W1 (preN id at_ m) bx sv fv jv T) (hb : Below T.heap.size T w2) (ho : w2.ownsRow (T.heap.size + 1) 9 1 dv D.length (D.map str)) : MkL W1 (addN id at_ m (D.take 0)) D bx sv fv dv jv w2 := by
  have hg := grownBy_of_below hb none
  exact ⟨h.below.trans (hb.mono h.below.size), (hb.block _ (lt_of_cells h.box)).trans h.box, h.ge, ⟨h.own.rc.kept hg (Classical.em _), h.own.fa.kept hg (Classical.em _), h.own.jo.kept hg (Classical.em _)⟩, ownsRow_less ho (by have := h.below.size; omega)⟩
theorem MkL.last {W1 wr : World} {id at_ : Int} {m : MailP} {bx : Nat} {sv fv dv jv : Value} (h : MkL W1 (addN id at_ m ((domsM m.rcpts).take (domsM m.rcpts).length)) (domsM m.rcpts) bx sv fv dv jv wr) : MkL W1 (makeN id at_ m) (domsM m.rcpts) bx sv fv dv jv wr := by
  rw [List.take_length] at h
  exact h
end Go.Proofs.YtlpngibdplnieaaGreatDoor

/- entry: what may be, its bytes, and how they are read: in plain Lean, with what was encoded decoded as it was, and the other way. -/
namespace Go.Proofs.YtlpngibdplnieaaGreatDoor
open Go
/-! ### What may be -/
/-! ### Numbers and texts -/
/-! ### Reading -/
def decV (s : Bytes) : Nat := s.foldl (fun n c => 10 * n + (c.toNat - 48)) 0
def numOk (s : Bytes) : Bool := !s.isEmpty && (!(decide (1 < s.length) && s.head? == some 48) && s.all isDig)
/-- A number so great at most, and the error's number. -/
def numC (s : Bytes) (most : Nat) : Nat × Nat := if numOk s = false then (0, 4) else if most < decV s then (0, 40) else (decV s, 0)
structure Rd where
  s : Bytes
  bad : Bool
  deriving DecidableEq
def rdNum (most : Nat) (r : Rd) : Nat × Rd := ((numC (Lib.cut r.s [58]).1 most).1, ⟨(Lib.cut r.s [58]).2.1, r.bad || (!(Lib.cut r.s [58]).2.2 || decide ((numC (Lib.cut r.s [58]).1 most).2 ≠ 0))⟩)
def rdText (r : Rd) : Bytes × Rd :=
  if (rdNum r.s.length r).2.s.length < (rdNum r.s.length r).1 then ([], ⟨(rdNum r.s.length r).2.s, true⟩)
  else ((rdNum r.s.length r).2.s.take (rdNum r.s.length r).1, ⟨(rdNum r.s.length r).2.s.drop (rdNum r.s.length r).1, (rdNum r.s.length r).2.bad⟩)
def rdYes (r : Rd) : Bool × Rd := (decide ((rdNum 1 r).1 = 1), (rdNum 1 r).2)
def rdRf (r : Rd) : (RcP × FaP) × Rd :=
  let a := rdText r
  let b := rdYes a.2
  let c := rdNum 2 b.2
  let d := rdText c.2
  (((a.1, b.1), (c.1, d.1)), d.2)
def rdJob (r : Rd) : JoP × Rd :=
  let a := rdText r
  let b := rdNum 99 a.2
  let c := rdNum 1099511627776 b.2
  (⟨a.1, b.1, c.1⟩, c.2)
def rdMany {α : Type} (one : Rd → α × Rd) : Nat → Rd → List α × Rd
  | 0, r => ([], r)
  | n + 1, r => ((one r).1 :: (rdMany one n (one r).2).1, (rdMany one n (one r).2).2)
def rdEach {α : Type} (one : Rd → α × Rd) (most : Nat) (r : Rd) : List α × Rd := rdMany one (rdNum most r).1 (rdNum most r).2
def rdEnt (r : Rd) : EntP × Rd :=
  let a := rdNum 1099511627776 r
  let b := rdNum 1099511627776 a.2
  let c := rdText b.2
  let d := rdYes c.2
  let e := rdText d.2
  let f := rdText e.2
  let g := rdEach rdRf 4 f.2
  let h := rdEach rdJob 4 g.2
  let m : MailP := ⟨c.1, g.1.map (·.1), d.1, e.1, f.1⟩
  (⟨a.1, b.1, m, plainM m, g.1.map (·.2), h.1⟩, h.2)
def decB (s : Bytes) : Option EntP :=
  if (rdEnt ⟨s, false⟩).2.bad = true ∨ (rdEnt ⟨s, false⟩).2.s ≠ [] ∨ mayN (rdEnt ⟨s, false⟩).1 = false then none else some (rdEnt ⟨s, false⟩).1
/-! ### Decimal numbers -/
theorem decV_snoc (s : Bytes) (c : UInt8) : decV (s ++ [c]) = 10 * decV s + (c.toNat - 48) := by simp [decV]
theorem ofNat_dig (k : Nat) (h : k < 10) : (UInt8.ofNat (48 + k)).toNat = 48 + k := by
  rw [UInt8.toNat_ofNat']; exact Nat.mod_eq_of_lt (by omega)
theorem isDig_of (k : Nat) (h : k < 10) : isDig (UInt8.ofNat (48 + k)) = true := by
  unfold isDig; rw [ofNat_dig k h]; simp; omega
theorem decDigits_all : ∀ n : Nat, (Lib.decDigits n).all isDig = true := by
  intro n
  induction n using Nat.strongRecOn with
  | _ n ih =>
    rw [Lib.decDigits]
    split
    · rename_i h
      rw [List.all_cons, isDig_of n h]; rfl
    · rename_i h
      rw [List.all_append, ih _ (by omega), List.all_cons, isDig_of (n % 10) (by omega)]; rfl
theorem decV_decDigits : ∀ n : Nat, decV (Lib.decDigits n) = n := by
  intro n
  induction n using Nat.strongRecOn with
  | _ n ih =>
    rw [Lib.decDigits]
    split
    · rename_i h; simp [decV]; have := ofNat_dig n h; simp at this; omega
    · rename_i h
      rw [decV_snoc, ih _ (by omega), ofNat_dig _ (by omega)]
      omega
theorem decDigits_ne (n : Nat) : Lib.decDigits n ≠ [] := by
  rw [Lib.decDigits]; split <;> simp
theorem decDigits_head : ∀ n : Nat, 0 < n → (Lib.decDigits n).head? ≠ some 48 := by
  intro n
  induction n using Nat.strongRecOn with
  | _ n ih =>
    intro hn
    rw [Lib.decDigits]
    split
    · rename_i h
      simp
      intro e
      have h2 := ofNat_dig n h
      have h3 := congrArg UInt8.toNat e
      simp at h2 h3
      omega
    · rename_i h
      rw [List.head?_append]
      have h1 := ih (n / 10) (by omega) (by omega)
      cases h2 : (Lib.decDigits (n / 10)).head? with
      | none => exact absurd (List.head?_eq_none_iff.1 h2) (decDigits_ne _)
      | some c => rw [h2] at h1; simpa using h1
theorem numOk_decDigits (n : Nat) : numOk (Lib.decDigits n) = true := by
  unfold numOk
  rw [decDigits_all]
  have h0 : (Lib.decDigits n).isEmpty = false := by simpa using decDigits_ne n
  rw [h0]
  by_cases hn : 0 < n
  · have h := decDigits_head n hn
    have h2 : ((Lib.decDigits n).head? == some 48) = false := by simpa using h
    rw [h2]; simp
  · have : n = 0 := by omega
    subst this
    rw [Lib.decDigits]; simp
/-- The text of a number is the only one. -/
theorem decDigits_decV : ∀ s : Bytes, numOk s = true → Lib.decDigits (decV s) = s := by
  intro s
  induction hn : s.length using Nat.strongRecOn generalizing s with
  | _ n ih =>
    intro h
    unfold numOk at h
    simp only [Bool.and_eq_true, Bool.not_eq_true', Bool.and_eq_false_iff, decide_eq_false_iff_not] at h
    obtain ⟨h0, h1, h2⟩ := h
    obtain ⟨t, c, rfl⟩ : ∃ t c, s = t ++ [c] := by
      have hne : s ≠ [] := by simpa using h0
      exact ⟨s.dropLast, s.getLast hne, (List.dropLast_concat_getLast hne).symm⟩
    rw [decV_snoc]
    rw [List.all_append] at h2
    simp only [Bool.and_eq_true, List.all_cons, List.all_nil, and_true] at h2
    obtain ⟨h2, h3⟩ := h2
    unfold isDig at h3
    simp at h3
    have hc : ∀ k, k = c.toNat - 48 → UInt8.ofNat (48 + k) = c := fun k hk => by
      rw [hk, show 48 + (c.toNat - 48) = c.toNat by omega]; simp
    by_cases ht : t = []
    · subst ht
      simp only [decV, List.foldl_nil, List.nil_append]
      rw [Lib.decDigits, dif_pos (by omega), hc (10 * 0 + (c.toNat - 48)) (by omega)]
    · have hl : 0 < t.length := List.length_pos_iff.2 ht
      have hh : (t.head? == some 48) = false := by
        rcases h1 with h1 | h1
        · exfalso
          rw [List.length_append, List.length_cons, List.length_nil] at h1
          omega
        · rw [List.head?_append] at h1
          cases h4 : t.head? with
          | none => exact absurd (List.head?_eq_none_iff.1 h4) ht
          | some b => rw [h4] at h1; simpa using h1
      have ht' : numOk t = true := by
        unfold numOk
        rw [hh, h2]
        simp [ht]
      have hi := ih t.length (by rw [← hn, List.length_append]; simp) t rfl ht'
      have hpos : 0 < decV t := by
        rcases Nat.eq_zero_or_pos (decV t) with h | h
        · rw [h] at hi
          rw [Lib.decDigits] at hi
          simp at hi
          rw [← hi] at hh
          simp at hh
        · exact h
      rw [Lib.decDigits, dif_neg (by omega)]
      rw [show (10 * decV t + (c.toNat - 48)) / 10 = decV t by omega, show (10 * decV t + (c.toNat - 48)) % 10 = c.toNat - 48 by omega, hi, hc _ rfl]
theorem itoa_nat (n : Nat) : Lib.itoa (n : Int) = Lib.decDigits n := by
  unfold Lib.itoa
  rw [if_neg (by omega)]; rfl
/-! ### One sign cut off -/
theorem cut_first (a t : Bytes) (b : UInt8) (h : b ∉ a) : Lib.cut (a ++ b :: t) [b] = (a, t, true) := by
  induction a with
  | nil => exact cut_cons_eq b t
  | cons c r ih =>
    have hc : c ≠ b := fun e => h (by rw [e]; exact List.mem_cons_self)
    rw [List.cons_append, cut_cons_ne b c _ hc, ih (fun hm => h (List.mem_cons_of_mem _ hm))]
theorem cut_true (s : Bytes) (b : UInt8) (h : (Lib.cut s [b]).2.2 = true) : s = (Lib.cut s [b]).1 ++ b :: (Lib.cut s [b]).2.1 := by
  induction s with
  | nil => simp [Lib.cut, Lib.index] at h
  | cons c r ih =>
    by_cases hc : c = b
    · subst hc; rw [cut_cons_eq]; rfl
    · rw [cut_cons_ne b c r hc] at h ⊢
      have := ih h
      simp only at this ⊢
      rw [List.cons_append, ← this]
theorem dig_no58 {s : Bytes} (h : s.all isDig = true) : (58 : UInt8) ∉ s := fun hm => by
  have := List.all_eq_true.1 h _ hm
  simp [isDig] at this
theorem numC_dec (n most : Nat) (h : n ≤ most) : numC (Lib.decDigits n) most = (n, 0) := by
  unfold numC
  rw [if_neg (by rw [numOk_decDigits]; simp), if_neg (by rw [decV_decDigits]; omega), decV_decDigits]
theorem rdNum_num (n most : Nat) (h : n ≤ most) (t : Bytes) (bad : Bool) : rdNum most ⟨numB n ++ t, bad⟩ = (n, ⟨t, bad⟩) := by
  unfold rdNum numB
  rw [itoa_nat]
  have hc := cut_first (Lib.decDigits n) t 58 (dig_no58 (decDigits_all n))
  simp only [List.append_assoc, List.singleton_append]
  rw [hc]
  simp only
  rw [numC_dec n most h]
  simp
theorem rdText_txt (s t : Bytes) (bad : Bool) : rdText ⟨txtB s ++ t, bad⟩ = (s, ⟨t, bad⟩) := by
  have h : rdNum (txtB s ++ t).length ⟨txtB s ++ t, bad⟩ = (s.length, ⟨s ++ t, bad⟩) := by
    have hl : s.length ≤ (txtB s ++ t).length := by simp [txtB]; omega
    have := rdNum_num s.length (txtB s ++ t).length hl (s ++ t) bad
    unfold txtB at this ⊢
    rw [List.append_assoc] at this ⊢
    exact this
  unfold rdText
  simp only [h]
  rw [if_neg (by simp)]
  simp
theorem rdYes_yes (b : Bool) (t : Bytes) (bad : Bool) : rdYes ⟨yesB b ++ t, bad⟩ = (b, ⟨t, bad⟩) := by
  unfold rdYes yesB
  cases b with
  | true => have := rdNum_num 1 1 (Nat.le_refl _) t bad; simp at this ⊢; rw [this]; simp
  | false => have := rdNum_num 0 1 (by omega) t bad; simp at this ⊢; rw [this]; simp
theorem rdRf_rf (p : RcP × FaP) (t : Bytes) (bad : Bool) (h : p.2.1 ≤ 2) : rdRf ⟨rfB p ++ t, bad⟩ = (p, ⟨t, bad⟩) := by
  unfold rdRf rfB
  simp only [List.append_assoc]
  rw [rdText_txt]
  simp only
  rw [rdYes_yes]
  simp only
  rw [rdNum_num _ _ h]
  simp only
  rw [rdText_txt]
theorem rdJob_job (j : JoP) (t : Bytes) (bad : Bool) (h0 : 0 ≤ j.tries) (h1 : j.tries ≤ 99) (h2 : clockB j.due = true) : rdJob ⟨joB j ++ t, bad⟩ = (j, ⟨t, bad⟩) := by
  unfold clockB at h2
  simp only [Bool.and_eq_true, decide_eq_true_eq] at h2
  obtain ⟨d, tr, du⟩ := j
  dsimp only at h0 h1 h2
  obtain ⟨n, rfl⟩ := Int.eq_ofNat_of_zero_le h0
  obtain ⟨m, rfl⟩ := Int.eq_ofNat_of_zero_le h2.1
  unfold rdJob joB
  simp only [List.append_assoc]
  rw [rdText_txt]
  simp only
  rw [rdNum_num _ _ (by omega)]
  simp only
  rw [rdNum_num _ _ (by omega)]
theorem rdMany_all {α : Type} (one : Rd → α × Rd) (enc : α → Bytes) (bad : Bool) : ∀ (l : List α) (t : Bytes), (∀ x ∈ l, ∀ t, one ⟨enc x ++ t, bad⟩ = (x, ⟨t, bad⟩)) → rdMany one l.length ⟨l.flatMap enc ++ t, bad⟩ = (l, ⟨t, bad⟩)
  | [], t, _ => rfl
  | x :: l, t, h => by
    have h1 := h x List.mem_cons_self (l.flatMap enc ++ t)
    have h2 := rdMany_all one enc bad l t fun y hy => h y (List.mem_cons_of_mem _ hy)
    rw [List.flatMap_cons, List.append_assoc, List.length_cons]
    unfold rdMany
    rw [h1]
    simp only [h2]
theorem rdEach_all {α : Type} (one : Rd → α × Rd) (enc : α → Bytes) (bad : Bool) (most : Nat) (l : List α) (t : Bytes) (hl : l.length ≤ most) (h : ∀ x ∈ l, ∀ t, one ⟨enc x ++ t, bad⟩ = (x, ⟨t, bad⟩)) : rdEach one most ⟨numB l.length ++ (l.flatMap enc ++ t), bad⟩ = (l, ⟨t, bad⟩) := by
  unfold rdEach
  rw [rdNum_num _ _ hl]
  exact rdMany_all one enc bad l t h
/-! ### The other way -/
/-- What was read well was written so. -/
def Well {α : Type} (one : Rd → α × Rd) (enc : α → Bytes) : Prop := ∀ r, (one r).2.bad = false → r.bad = false ∧ r.s = enc (one r).1 ++ (one r).2.s
theorem well_num (most : Nat) : Well (rdNum most) (fun n => numB (n : Int)) := by
  intro r h
  unfold rdNum at h ⊢
  simp only [Bool.or_eq_false_iff, Bool.not_eq_false', decide_eq_false_iff_not, Decidable.not_not] at h
  obtain ⟨h1, h2, h3⟩ := h
  refine ⟨h1, ?_⟩
  simp only
  have hc := cut_true r.s 58 h2
  unfold numC at h3
  split at h3
  · simp at h3
  · rename_i hok
    split at h3
    · simp at h3
    · rename_i hle
      unfold numC
      rw [if_neg hok, if_neg hle]
      simp only
      unfold numB
      rw [itoa_nat, decDigits_decV _ (by simpa using hok)]
      rw [List.append_assoc, List.singleton_append]
      exact hc
theorem num_le (most : Nat) (r : Rd) : (rdNum most r).1 ≤ most := by
  unfold rdNum numC
  dsimp only
  split
  · simp
  · split
    · simp
    · simp; omega
theorem well_text : Well rdText txtB := by
  intro r h
  unfold rdText at h ⊢
  split at h
  · simp at h
  · rename_i hlt
    rw [if_neg hlt]
    have hw := well_num r.s.length r h
    refine ⟨hw.1, ?_⟩
    dsimp only
    unfold txtB
    rw [List.append_assoc, List.take_append_drop]
    rw [show ((rdNum r.s.length r).2.s.take (rdNum r.s.length r).1).length = (rdNum r.s.length r).1 by simp; omega]
    exact hw.2
theorem well_yes : Well rdYes yesB := by
  intro r h
  unfold rdYes at h ⊢
  have hw := well_num 1 r h
  refine ⟨hw.1, ?_⟩
  dsimp only
  have hl := num_le 1 r
  unfold yesB
  have : (if decide ((rdNum 1 r).1 = 1) = true then (1 : Int) else 0) = ((rdNum 1 r).1 : Int) := by
    by_cases h : (rdNum 1 r).1 = 1
    · simp [h]
    · have : (rdNum 1 r).1 = 0 := by omega
      simp [this]
  rw [this]
  exact hw.2
theorem well_rf : Well rdRf rfB := by
  intro r h
  unfold rdRf at h ⊢
  dsimp only at h ⊢
  obtain ⟨h4, e4⟩ := well_text _ h
  obtain ⟨h3, e3⟩ := well_num 2 _ h4
  obtain ⟨h2, e2⟩ := well_yes _ h3
  obtain ⟨h1, e1⟩ := well_text _ h2
  refine ⟨h1, ?_⟩
  unfold rfB
  dsimp only
  simp only [List.append_assoc]
  rw [← e4, ← e3, ← e2, ← e1]
theorem well_job : Well rdJob joB := by
  intro r h
  unfold rdJob at h ⊢
  dsimp only at h ⊢
  obtain ⟨h3, e3⟩ := well_num _ _ h
  obtain ⟨h2, e2⟩ := well_num _ _ h3
  obtain ⟨h1, e1⟩ := well_text _ h2
  refine ⟨h1, ?_⟩
  unfold joB
  dsimp only
  simp only [List.append_assoc]
  rw [← e3, ← e2, ← e1]
theorem rdMany_len {α : Type} (one : Rd → α × Rd) : ∀ (n : Nat) (r : Rd), (rdMany one n r).1.length = n
  | 0, _ => rfl
  | n + 1, r => by unfold rdMany; rw [List.length_cons, rdMany_len one n]
theorem well_many {α : Type} {one : Rd → α × Rd} {enc : α → Bytes} (hw : Well one enc) : ∀ n, Well (rdMany one n) (fun l => l.flatMap enc)
  | 0 => fun r h => ⟨h, rfl⟩
  | n + 1 => fun r h => by
    unfold rdMany at h ⊢
    dsimp only at h ⊢
    obtain ⟨h2, e2⟩ := well_many hw n _ h
    obtain ⟨h1, e1⟩ := hw _ h2
    refine ⟨h1, ?_⟩
    rw [List.flatMap_cons, List.append_assoc, ← e2, ← e1]
theorem well_each {α : Type} {one : Rd → α × Rd} {enc : α → Bytes} (hw : Well one enc) (most : Nat) : Well (rdEach one most) (fun l => numB l.length ++ l.flatMap enc) := by
  intro r h
  unfold rdEach at h ⊢
  obtain ⟨h2, e2⟩ := well_many hw _ _ h
  obtain ⟨h1, e1⟩ := well_num most r h2
  refine ⟨h1, ?_⟩
  dsimp only at e1 e2 ⊢
  rw [rdMany_len, List.append_assoc, ← e2, ← e1]
theorem zip_maps {α β : Type} : ∀ l : List (α × β), (l.map (·.1)).zip (l.map (·.2)) = l
  | [] => rfl
  | x :: l => by simp [zip_maps l]
theorem well_ent : Well rdEnt encB := by
  intro r h
  unfold rdEnt at h ⊢
  dsimp only at h ⊢
  obtain ⟨h8, e8⟩ := well_each well_job 4 _ h
  obtain ⟨h7, e7⟩ := well_each well_rf 4 _ h8
  obtain ⟨h6, e6⟩ := well_text _ h7
  obtain ⟨h5, e5⟩ := well_text _ h6
  obtain ⟨h4, e4⟩ := well_yes _ h5
  obtain ⟨h3, e3⟩ := well_text _ h4
  obtain ⟨h2, e2⟩ := well_num _ _ h3
  obtain ⟨h1, e1⟩ := well_num _ _ h2
  refine ⟨h1, ?_⟩
  unfold encB
  dsimp only
  rw [zip_maps, List.length_map]
  simp only [List.append_assoc] at *
  rw [← e8, ← e7, ← e6, ← e5, ← e4, ← e3, ← e2, ← e1]
theorem dec_back {s : Bytes} {x : EntP} (h : decB s = some x) : mayN x = true ∧ encB x = s := by
  unfold decB at h
  split at h
  · cases h
  · rename_i hn
    injection h with h
    simp only [not_or, Bool.not_eq_true, Bool.not_eq_false, ne_eq, Decidable.not_not] at hn
    obtain ⟨h1, h2, h3⟩ := hn
    subst h
    refine ⟨h3, ?_⟩
    have := (well_ent _ h1).2
    rw [h2, List.append_nil] at this
    exact this.symm
theorem jobsOk_len : ∀ {l : List JoP} {ds : List Bytes}, jobsOk l ds = true → l.length = ds.length
  | [], [], _ => rfl
  | [], _ :: _, h => by simp [jobsOk] at h
  | _ :: _, [], h => by simp [jobsOk] at h
  | j :: l, d :: ds, h => by
    unfold jobsOk at h
    rw [Bool.and_eq_true] at h
    simp [jobsOk_len h.2]
theorem map_zip1 {α β : Type} : ∀ (l : List α) (m : List β), l.length = m.length → (l.zip m).map (·.1) = l ∧ (l.zip m).map (·.2) = m
  | [], [], _ => ⟨rfl, rfl⟩
  | [], _ :: _, h => by simp at h
  | _ :: _, [], h => by simp at h
  | a :: l, b :: m, h => by
    have := map_zip1 l m (by simpa using h)
    simp [this.1, this.2]
/-- What was written is read as it was. -/
theorem dec_enc {x : EntP} (h : mayN x = true) : decB (encB x) = some x := by
  have hm := (mayN_iff x).1 h
  have hrc := hm.rc
  have hz : (x.mail.rcpts.zip x.fates).length = x.fates.length := by rw [List.length_zip, hm.len]; simp
  have hjl := jobsOk_len hm.jobs
  have hdl := domsM_len x.mail.rcpts
  have hst : ∀ p ∈ x.mail.rcpts.zip x.fates, p.2.1 ≤ 2 := fun p hp => by
    have := hm.fates p.2 (List.of_mem_zip hp).2
    unfold wrongB at this
    simp only [Bool.or_eq_false_iff, decide_eq_false_iff_not] at this
    omega
  have hjm := jobsOk_mem hm.jobs
  have hid := hm.idc
  have hat := hm.at_
  unfold clockB at hid hat
  simp only [Bool.and_eq_true, decide_eq_true_eq] at hid hat
  have he : rdEnt ⟨encB x, false⟩ = (x, ⟨[], false⟩) := by
    have hp := hm.plain
    have hmz := map_zip1 x.mail.rcpts x.fates hm.len.symm
    have hlen := hm.len
    clear h hm
    obtain ⟨id, at_, ⟨s, rc, rq, ev, tx⟩, pl, fa, jo⟩ := x
    dsimp only at *
    obtain ⟨n, rfl⟩ := Int.eq_ofNat_of_zero_le hid.1
    obtain ⟨k, rfl⟩ := Int.eq_ofNat_of_zero_le hat.1
    unfold rdEnt encB
    dsimp only
    rw [rdNum_num _ _ (by omega)]
    dsimp only
    rw [rdNum_num _ _ (by omega)]
    dsimp only
    rw [rdText_txt]
    dsimp only
    rw [rdYes_yes]
    dsimp only
    rw [rdText_txt]
    dsimp only
    rw [rdText_txt]
    dsimp only
    have h1 := rdEach_all rdRf rfB false 4 (rc.zip fa) (numB jo.length ++ jo.flatMap joB) (by omega) fun p hp t => rdRf_rf p t false (hst p hp)
    rw [hz] at h1
    rw [h1]
    dsimp only
    have h2 := rdEach_all rdJob joB false 4 jo [] (by omega) fun j hj t => rdJob_job j t false (hjm.2 j hj).1 (hjm.2 j hj).2.1 (hjm.2 j hj).2.2
    rw [List.append_nil] at h2
    rw [h2]
    dsimp only
    rw [hmz.1, hmz.2, ← hp]
  unfold decB
  rw [he]
  simp [h]
end Go.Proofs.YtlpngibdplnieaaGreatDoor

/- code.Num. -/
namespace Go.Proofs.YtlpngibdplnieaaGreatDoor
open Go Go.RowKit Go.Shelf Go.Sort
attribute [local go_sem] bneI

theorem dig_iff (c : UInt8) : isDig c = true ↔ (48 ≤ c.toNat ∧ c.toNat ≤ 57) := by unfold isDig; simp
theorem foldV_ge : ∀ (l : Bytes) (acc : Nat), acc ≤ l.foldl (fun n c => 10 * n + (c.toNat - 48)) acc
  | [], acc => Nat.le_refl _
  | c :: r, acc => by
    rw [List.foldl_cons]
    have := foldV_ge r (10 * acc + (c.toNat - 48))
    omega
theorem parse_dig : ∀ (l : Bytes) (acc : Nat), acc < 18446744073709551616 → l.all isDig = true → Lib.parseUint10 acc l = if l.foldl (fun n c => 10 * n + (c.toNat - 48)) acc < 18446744073709551616 then .ok (l.foldl (fun n c => 10 * n + (c.toNat - 48)) acc) else .range
  | [], acc, h, _ => by
    rw [Lib.parseUint10, List.foldl_nil, if_pos h]
  | c :: r, acc, h, hd => by
    rw [List.all_cons, Bool.and_eq_true] at hd
    have hc := (dig_iff c).1 hd.1
    have hg := foldV_ge r (10 * acc + (c.toNat - 48))
    rw [Lib.parseUint10, if_pos hc, List.foldl_cons]
    by_cases h1 : 1844674407370955162 ≤ acc
    · rw [if_pos h1, if_neg (by omega)]
    · rw [if_neg h1]
      by_cases h2 : 18446744073709551616 ≤ acc * 10 + (c.toNat - 48)
      · rw [if_pos h2, if_neg (by omega)]
      · rw [if_neg h2, parse_dig r _ (by omega) hd.2, Nat.mul_comm acc 10]
theorem numOk_parts {s : Bytes} (h : numOk s = true) : s ≠ [] ∧ ¬ (1 < s.length ∧ s.head? = some 48) ∧ s.all isDig = true := by
  unfold numOk at h
  simp only [Bool.and_eq_true, Bool.not_eq_true', List.isEmpty_eq_false_iff, ne_eq, Bool.and_eq_false_iff, decide_eq_false_iff_not] at h
  refine ⟨h.1, fun e => ?_, h.2.2⟩
  rcases h.2.1 with h | h
  · exact h e.1
  · rw [e.2] at h; simp at h
theorem atoi_dig {s : Bytes} (h : s ≠ []) (hd : s.all isDig = true) : Lib.atoiAll s = if decV s < 9223372036854775808 then .ok (decV s : Int) else .range := by
  cases s with
  | nil => exact absurd rfl h
  | cons c r =>
    have hc := (dig_iff c).1 (by rw [List.all_cons, Bool.and_eq_true] at hd; exact hd.1)
    have hp := parse_dig (c :: r) 0 (by decide) hd
    unfold Lib.atoiAll
    dsimp only
    rw [if_neg (by omega)]
    unfold Lib.parseMag
    rw [if_neg (by simp), hp]
    have e : (c :: r).foldl (fun n c => 10 * n + (c.toNat - 48)) 0 = decV (c :: r) := rfl
    rw [e]
    have h45 : ¬ c.toNat = 45 := by omega
    by_cases h1 : decV (c :: r) < 18446744073709551616
    · rw [if_pos h1]
      dsimp only
      by_cases h2 : decV (c :: r) < 9223372036854775808
      · rw [if_neg (by omega), if_neg (by omega), if_neg h45, if_pos h2]
      · rw [if_pos ⟨h45, by omega⟩, if_neg h2]
    · rw [if_neg h1, if_neg (by omega)]
def digs : Bytes := [48, 49, 50, 51, 52, 53, 54, 55, 56, 57]
theorem digs_mem (c : UInt8) : digs.contains c = isDig c := by
  have h : ∀ n : Fin 256, digs.contains (UInt8.ofNat n.val) = isDig (UInt8.ofNat n.val) := by decide +kernel
  have := h ⟨c.toNat, c.toNat_lt⟩
  simpa using this
theorem dropW_nil {f : UInt8 → Bool} : ∀ {l : Bytes}, l.dropWhile f = [] ↔ l.all f = true
  | [] => by simp
  | c :: r => by
    rw [List.dropWhile_cons, List.all_cons]
    by_cases h : f c = true
    · rw [if_pos h, h, Bool.true_and]; exact dropW_nil
    · rw [if_neg h]
      have : f c = false := by simpa using h
      rw [this]; simp
def trimD (s : Bytes) : Bytes := Lib.trimS s digs
theorem trimD_nil (s : Bytes) : trimD s = [] ↔ s.all isDig = true := by
  unfold trimD Lib.trimS Lib.trimLeftS Lib.trimRightS
  have e : (fun x : UInt8 => digs.contains x) = isDig := funext digs_mem
  rw [e]
  constructor
  · intro h
    have h1 := dropW_nil.1 h
    rw [List.all_eq_true] at h1 ⊢
    intro c hc
    by_cases hd : isDig c = true
    · exact hd
    · exfalso
      have : (s.reverse.dropWhile isDig).reverse.all isDig = true := List.all_eq_true.2 h1
      have h2 : (s.reverse.dropWhile isDig) = [] := by
        cases hh : s.reverse.dropWhile isDig with
        | nil => rfl
        | cons a b =>
          have h3 := List.head?_dropWhile_not isDig s.reverse
          rw [hh] at h3 this
          simp at h3
          rw [List.all_eq_true] at this
          have := this a (by simp)
          rw [h3] at this; cases this
      have h3 := dropW_nil.1 h2
      rw [List.all_eq_true] at h3
      exact hd (h3 c (by simpa using hc))
  · intro h
    have h2 : s.reverse.dropWhile isDig = [] := dropW_nil.2 (by rw [List.all_eq_true] at h ⊢; intro c hc; exact h c (by simpa using hc))
    rw [h2]; rfl
theorem trimD_any (s : Bytes) (w : World) (hs : s.length ≤ 9223372036854775807) : Calls Tryz.prog 144 #[.string ⟨s.toArray⟩, .string ⟨#[48, 49, 50, 51, 52, 53, 54, 55, 56, 57]⟩] w fun e w' => e = .returned (.string ⟨(trimD s).toArray⟩) ∧ Below w.heap.size w w' := by
  have h := Any.strings_Trim_laid Tryz.lays160 (by kernel_rfl) ⟨s.toArray⟩ ⟨#[48, 49, 50, 51, 52, 53, 54, 55, 56, 57]⟩ w hs (by decide) (ascii_of_all (by decide))
  exact h
/-- Env, and the variable that Atoi's error bears. -/
structure Env8 (w : World) : Prop where
  env : Env w
  rng : ∃ ev, w.cell? ⟨3, 0, none⟩ = some ev ∧ (ev = .nilIface ∨ ∃ te pe, ev = .iface te pe)
theorem Env8.keep {w w' : World} (h : Env8 w) (hb : Below w.heap.size w w') : Env8 w' := by
  obtain ⟨ev, h1, h2⟩ := h.rng
  exact ⟨h.env.keep hb, ev, (hb.cell (p := ⟨_, _, none⟩) (cell_lt h1)).trans h1, h2⟩
def AtoiPost (s : Bytes) (e : Ending) : Prop := (decV s < 9223372036854775808 ∧ e = .returned (.tuple #[.int .i64 (decV s : Int), .nilIface])) ∨ (9223372036854775808 ≤ decV s ∧ ∃ N, e = .returned (.tuple #[.int .i64 9223372036854775807, .iface 241 (.pointer (some ⟨N, 0, none⟩))]))
theorem atoi_any (s : Bytes) (w : World) (h0 : s ≠ []) (hd : s.all isDig = true) (hs : s.length ≤ 1000000000) (hE : Env8 w) : Calls Tryz.prog 145 #[.string ⟨s.toArray⟩] w fun e w' => AtoiPost s e ∧ Below w.heap.size w w' := by
  have ha := atoi_dig h0 hd
  by_cases h1 : decV s < 9223372036854775808
  · rw [if_pos h1] at ha
    refine (Tryz.strconv_Atoi_ok ⟨s.toArray⟩ (by show s.length ≤ _; omega) _ ha w).mono ?_
    rintro e w' ⟨rfl, h⟩
    refine ⟨.inl ⟨h1, rfl⟩, ?_⟩
    rcases h with rfl | ⟨t, rfl⟩
    · exact Below.refl _ _
    · exact Lib.bytesWorld_below _ _ _
  · rw [if_neg h1] at ha
    obtain ⟨ev, he, hev⟩ := hE.rng
    refine (Tryz.strconv_Atoi_range ⟨s.toArray⟩ (by show s.length ≤ _; omega) ha ev w he hev).mono ?_
    rintro e w' ⟨N, rfl, _, _, hb⟩
    have hsat : Lib.atoiSat s = 9223372036854775807 := by
      cases s with
      | nil => exact absurd rfl h0
      | cons c r =>
        have hc := (dig_iff c).1 (by rw [List.all_cons, Bool.and_eq_true] at hd; exact hd.1)
        unfold Lib.atoiSat
        rw [if_neg (by simp; omega)]
    refine ⟨.inr ⟨by omega, N, ?_⟩, hb⟩
    have : Lib.atoiSat (⟨s.toArray⟩ : ByteArray).data.toList = 9223372036854775807 := hsat
    rw [this]
def NumPost (s : Bytes) (most : Nat) (e : Ending) : Prop := e = .returned (.tuple #[.int .i64 ((numC s most).1 : Int), .int .i64 ((numC s most).2 : Int)])
set_option maxRecDepth 100000 in
set_option maxHeartbeats 4000000 in
theorem num_any (s : Bytes) (most : Nat) (w : World) (hs : s.length ≤ 1000000000) (hm : most < 9223372036854775808) (hE : Env8 w) : Calls Tryz.prog 101 #[.string ⟨s.toArray⟩, .int .i64 (most : Int)] w fun e w' => NumPost s most e ∧ Below w.heap.size w w' := by
  have hT := trimD_any s w (by omega)
  cases s with
  | nil =>
    have hc : numC [] most = (0, 4) := rfl
    have HC := Lib.hid (show NumPost [] most (.returned (.tuple #[.int .i64 0, .int .i64 4])) by unfold NumPost; rw [hc]; rfl)
    clear hc hT hE
    go_enter Tryz.func101, Tryz.ntmps101
    go_wp2
    refine bodyPost_ret (v := .tuple #[.int .i64 0, .int .i64 4]) (by simp [results, Tryz.results101, go_sem]) rfl ⟨HC.out, Below.refl _ _⟩
  | cons c r =>
    have hnil : (c :: r).isEmpty = false := rfl
    by_cases h48 : 0 < r.length ∧ c = 48
    · have hok : numOk (c :: r) = false := by
        unfold numOk
        have : decide (1 < (c :: r).length) = true := by simp; omega
        rw [this, h48.2]; simp
      have HC := Lib.hid (show NumPost (c :: r) most (.returned (.tuple #[.int .i64 0, .int .i64 4])) by unfold NumPost numC; rw [hok]; rfl)
      obtain ⟨hr, rfl⟩ := h48
      have hl : (1 : Int) < (((48 :: r : Bytes).length : Nat) : Int) := by simp; omega
      clear hok hT hE
      go_enter Tryz.func101, Tryz.ntmps101
      go_wp2
      refine bodyPost_ret (v := .tuple #[.int .i64 0, .int .i64 4]) (by simp [results, Tryz.results101, go_sem]) rfl ⟨HC.out, Below.refl _ _⟩
    · have hok : numOk (c :: r) = (c :: r).all isDig := by
        unfold numOk
        have : (decide (1 < (c :: r).length) && (c :: r).head? == some 48) = false := by
          by_cases h1 : 0 < r.length
          · have : c ≠ 48 := fun e => h48 ⟨h1, e⟩
            simp [this]
          · simp; omega
        rw [this]; simp
      have htn := trimD_nil (c :: r)
      have HH := Lib.hid (And.intro hok (And.intro hE (And.intro hs hm)))
      obtain ⟨t, ht⟩ : ∃ t, t = trimD (c :: r) := ⟨_, rfl⟩
      rw [← ht] at hT htn
      have HT := Lib.hid htn
      clear hok hE htn ht
      go_enter Tryz.func101, Tryz.ntmps101
      go_upto_region 1 with (fail)
      go_cut [24] (fun s24 w' => s24 = .bool (!(c :: r).all isDig) ∧ Below w.heap.size w w')
      case first =>
        by_cases h1 : 0 < r.length
        · have hc : c ≠ 48 := fun e => h48 ⟨h1, e⟩
          have hcn : ¬ c.toNat = 48 := fun e => hc (UInt8.toNat_inj.1 e)
          have hl1 : (1 : Int) < (r.length : Int) + 1 := by omega
          have hg : ∀ h, (⟨(c :: r).toArray⟩ : ByteArray)[0]'h = c := fun _ => rfl
          have e1 : ((c.toNat : Int) == 48) = false := beq_eq_false_iff_ne.2 (by omega)
          have e2 : decide ((c.toNat : Int) = 48) = false := decide_eq_false (by omega)
          have e3 : decide (c.toNat = 48) = false := by simpa using hcn
          have e4 : (c == 48) = false := by simpa using hc
          clear h48
          go_wp2_with fail
          refine hT.mono ?_
          rintro e w2 ⟨rfl, hb2⟩
          have H2 := Lib.hid hb2
          clear hT hb2
          cases hd : (c :: r).all isDig with
          | true =>
            have htn := HT.out.2 hd
            subst htn
            go_wp2
            go_meet
            case rel => exact ⟨by rw [hd]; rfl, H2.out⟩
          | false =>
            have htn : t ≠ [] := fun e => by rw [HT.out.1 e] at hd; cases hd
            have e5 : (t == []) = false := by simpa using htn
            have e6 : t.isEmpty = false := by simpa using htn
            go_wp2
            go_meet
            case rel => exact ⟨by rw [hd]; rfl, H2.out⟩
        · have hr0 : r = [] := List.eq_nil_of_length_eq_zero (by omega)
          subst hr0
          clear h48 h1
          go_wp2_with fail
          refine hT.mono ?_
          rintro e w2 ⟨rfl, hb2⟩
          have H2 := Lib.hid hb2
          clear hT hb2
          cases hd : ([c] : Bytes).all isDig with
          | true =>
            have htn := HT.out.2 hd
            subst htn
            go_wp2
            go_meet
            case rel => exact ⟨by rw [hd]; rfl, H2.out⟩
          | false =>
            have htn : t ≠ [] := fun e => by rw [HT.out.1 e] at hd; cases hd
            have e5 : (t == []) = false := by simpa using htn
            have e6 : t.isEmpty = false := by simpa using htn
            go_wp2
            go_meet
            case rel => exact ⟨by rw [hd]; rfl, H2.out⟩
      case rest =>
        obtain ⟨rfl, hbc⟩ := hcut
        have HB := Lib.hid hbc
        clear hbc hT
        cases hd : (c :: r).all isDig with
        | false =>
          have hok := HH.out.1
          rw [hd] at hok
          have HC := Lib.hid (show NumPost (c :: r) most (.returned (.tuple #[.int .i64 0, .int .i64 4])) by unfold NumPost numC; rw [hok]; rfl)
          clear hok hd
          rw [Bool.not_false]
          go_wp2
          refine bodyPost_ret (v := .tuple #[.int .i64 0, .int .i64 4]) (by simp [results, Tryz.results101, go_sem]) rfl ⟨HC.out, HB.out⟩
        | true =>
          have hok := HH.out.1
          rw [hd] at hok
          have hA := atoi_any (c :: r) wc (by simp) hd HH.out.2.2.1 (HH.out.2.1.keep HB.out)
          have hN1 : most < decV (c :: r) → NumPost (c :: r) most (.returned (.tuple #[.int .i64 0, .int .i64 40])) := fun h => by unfold NumPost numC; rw [hok, if_neg (by simp), if_pos h]; rfl
          have hN2 : ¬ most < decV (c :: r) → NumPost (c :: r) most (.returned (.tuple #[.int .i64 (decV (c :: r) : Int), .int .i64 0])) := fun h => by unfold NumPost numC; rw [hok, if_neg (by simp), if_neg h]; rfl
          have HN := Lib.hid (And.intro hN1 hN2)
          clear hok hd hN1 hN2
          rw [Bool.not_true]
          go_wp2_with fail
          refine hA.mono ?_
          rintro e w3 ⟨hp, hb3⟩
          have H3 := Lib.hid (HB.out.trans (hb3.mono HB.out.size))
          clear hA hb3
          rcases hp with ⟨hlt, rfl⟩ | ⟨hge, N, rfl⟩
          · by_cases hmo : most < decV (c :: r)
            · have HC := Lib.hid (HN.out.1 hmo)
              have hmi : (most : Int) < (decV (c :: r) : Int) := by omega
              generalize decV (c :: r) = V at *
              go_wp2
              refine bodyPost_ret (v := .tuple #[.int .i64 0, .int .i64 40]) (by simp [results, Tryz.results101, go_sem]) rfl ⟨HC.out, H3.out⟩
            · have HC := Lib.hid (HN.out.2 hmo)
              have hmi : ¬ (most : Int) < (decV (c :: r) : Int) := by omega
              generalize decV (c :: r) = V at *
              go_wp2
              refine bodyPost_ret (v := .tuple #[.int .i64 (V : Int), .int .i64 0]) (by simp [results, Tryz.results101, go_sem]) rfl ⟨HC.out, H3.out⟩
          · have HC := Lib.hid (HN.out.1 (by have := HH.out.2.2.2; omega))
            go_wp2
            refine bodyPost_ret (v := .tuple #[.int .i64 0, .int .i64 40]) (by simp [results, Tryz.results101, go_sem]) rfl ⟨HC.out, H3.out⟩
end Go.Proofs.YtlpngibdplnieaaGreatDoor
