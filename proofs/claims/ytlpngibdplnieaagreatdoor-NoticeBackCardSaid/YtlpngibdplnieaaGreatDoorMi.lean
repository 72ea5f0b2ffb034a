/- Parts of the proof, joined: Nwr, Nln, Npln, Nlst. -/
import Derived.Test.YtlpngibdplnieaaGreatDoorMh
import Derived.Test.YtlpngibdplnieaaGreatDoorMg
import Derived.Test.YtlpngibdplnieaaGreatDoorMf
import Derived.Lib.Builder
import Derived.Lib.AppendStr
import Derived.Lib.UnsafeStr
import Derived.Laws.Externs
import Derived.Deep.CutRange
/- notice's Builder: WriteString. -/
namespace Go.Proofs.YtlpngibdplnieaaGreatDoor
open Go Go.RowKit Go.Shelf Go.Sort
attribute [local go_sem] bneI

theorem liesBld : liesAt Tryz.prog Tryz.prog.depth 118 (2 / Tryz.prog.cellsOf 118) 0 118 1 = true := by kernel_rfl
abbrev BT : TypeId := 118
set_option maxRecDepth 100000 in
theorem copyCheckN_any (B b : Nat) (bs : List Value) (w : World) (h : Lib.IsBuilder BT 5 B b bs w) :
    Calls Tryz.prog 127 #[.pointer (some ⟨b, 0, none⟩)] w fun e w' => e = .returned (.tuple #[]) ∧ Lib.BuilderAt BT 5 B b (.pointer (some ⟨b, 0, none⟩)) bs w' ∧ (w' = w ∨ w' = w.setCell ⟨b, 0, none⟩ (.pointer (some ⟨b, 0, none⟩))) := by
  obtain ⟨j, hj, hjs⟩ := Option.map_eq_some_iff.1 infoBuilder
  rcases h with h | h
  · have c0 := h.cell0
    have hsh := h.shape
    have f0 := h.frozen0
    have HU := Lib.hid (h.used (.pointer (some ⟨b, 0, none⟩)))
    have hto := Lib.run_to_unsafe (P := Tryz.prog) w ⟨b, 0, none⟩ Tryz.underlying115 Tryz.underlying200 hj (by rw [hjs]; decide) hsh (Nat.zero_lt_succ 1)
    have hfrom := Lib.run_from_unsafe (P := Tryz.prog) w ⟨b, 0, none⟩ Tryz.underlying200 Tryz.underlying115 hj hsh liesBld
    have hno : Sem.run Tryz.prog (callFunc 169 #[.pointer (some ⟨b, 0, none⟩)]) w = .ok (.value (.pointer (some ⟨b, 0, none⟩))) w := by
      rw [run_callFunc_extern Tryz.func169 (by kernel_rfl) (by kernel_rfl) (by kernel_rfl) (e := Extern.AbiNoEscape.same) (by kernel_rfl), Lib.run_noEscape]
      rfl
    clear h hsh hj hjs
    go_enter Tryz.func127, Tryz.ntmps127
    go_wp2
    go_end0
    exact ⟨rfl, HU.out, .inr rfl⟩
  · have c0 := h.cell0
    have HU := Lib.hid h
    have hne := Lib.run_neq_ptr_same (P := Tryz.prog) w ⟨b, 0, none⟩ Tryz.underlying115 hj
    clear h hj hjs
    go_enter Tryz.func127, Tryz.ntmps127
    go_wp2
    go_end0
    exact ⟨rfl, HU.out, .inl rfl⟩
theorem builderN_lt {B b : Nat} {bs : List Value} {w : World} (h : Lib.IsBuilder BT 5 B b bs w) : B ≤ b ∧ b < w.heap.size := by
  rcases h with h | h <;> exact ⟨h.1, h.lt⟩
set_option maxRecDepth 100000 in
set_option maxHeartbeats 1000000 in
theorem writeStringN_any (B b : Nat) (bs : List Value) (s : Bytes) (w : World) (h : Lib.IsBuilder BT 5 B b bs w) (hlen : bs.length + s.length ≤ 1000000000000) (hBw : B ≤ w.heap.size) :
    Calls Tryz.prog 83 #[.pointer (some ⟨b, 0, none⟩), .string ⟨s.toArray⟩] w fun e w' => e = .returned (.tuple #[.int .i64 (s.length : Int), .nilIface]) ∧ Lib.IsBuilder BT 5 B b (bs ++ Lib.byteCells s) w' ∧ Below B w w' ∧ FrameW b w w' := by
  obtain ⟨i0, hi, hz0, hz1, hz2⟩ := info_parts infoByte
  have hC := copyCheckN_any B b bs w h
  have hBb := builderN_lt h
  clear h
  go_enter Tryz.func83, Tryz.ntmps83
  go_wp2_with fail
  refine hC.mono ?_
  rintro e w1 ⟨rfl, h1, hw1⟩
  clear hC
  have hb1 : Below B w w1 := by
    rcases hw1 with rfl | rfl
    · exact Below.refl _ _
    · exact (Below.refl B w).setCell (p := ⟨b, 0, none⟩) hBb.1 _
  have hf1 : FrameW b w w1 := by
    rcases hw1 with rfl | rfl
    · exact FrameW.refl _ _
    · exact FrameW.set _ _ _
  clear hw1
  obtain ⟨hB, v, hbk, hown, hne⟩ := h1
  have c1 : w1.cell? ⟨b, 1, none⟩ = some v := by rw [Lib.cell_of_heap hbk]; rfl
  have H1 := Lib.hid (And.intro hb1 (And.intro hf1 (And.intro hbk (And.intro hown (And.intro hne hBb)))))
  clear hb1 hf1 hbk hown hne hBb
  go_wp2_with (at_builtin; refine Bx.h ?_)
  refine ⟨?_⟩
  refine Lib.wpList_append_own_string _ rfl _ _ 116 9 rfl B 5 i0 Tryz.underlying116 Tryz.underlying9 hi hz0 hz1 hz2 _ _ _ rfl H1.out.2.2.2.1 ⟨s.toArray⟩ rfl ?c3 ?c4 ?c5 ?_
  case c3 => show bs.length + s.length ≤ maxLen; unfold maxLen; omega
  case c4 => show bs.length + s.length ≤ _; omega
  case c5 => have := H1.out.1.size; omega
  intro v' w2 hown' hgrow _
  replace hgrow : w1.grownBy w2 v.ownBlock := hgrow
  have hblt : b < w1.heap.size := (Array.getElem?_eq_some_iff.1 H1.out.2.2.1).1
  have hb2 : w2.heap[b]? = some (.cells #[.pointer (some ⟨b, 0, none⟩), v] BT (0, 0)) := (hgrow.block b hblt (fun e => H1.out.2.2.2.2.1 e.symm)).trans H1.out.2.2.1
  have d1 : w2.cell? ⟨b, 1, none⟩ = some v := by rw [Lib.cell_of_heap hb2]; rfl
  have f1 : w2.frozen? ⟨b, 1, none⟩ = false := Lib.frozen_of_heap hb2 1
  obtain ⟨ao, n', cap, rfl⟩ : ∃ ao n' cap, v' = .slice ao n' cap := by
    rcases hown'.2 with ⟨hv, _⟩ | ⟨g, cap, cur, hv, _⟩
    · exact ⟨_, _, _, hv⟩
    · exact ⟨_, _, _, hv⟩
  have hcs : Lib.strCells ⟨s.toArray⟩ = Lib.byteCells s := by
    unfold Lib.strCells
    rfl
  have hput := Lib.BuilderAt.put (T := BT) (e := 5) H1.out.2.2.2.2.2.1 hb2 (bs' := bs ++ Lib.byteCells s) (by rw [hcs] at hown'; rw [List.length_append, Lib.byteCells_length]; exact hown') (by decide)
  have hbel : Below B w (w2.setCell ⟨b, 1, none⟩ (.slice ao n' cap)) := (H1.out.1.grown hgrow (by have := H1.out.1.size; omega) (fun k hk => (H1.out.2.2.2.1.lt k hk).1)).setCell (p := ⟨b, 1, none⟩) H1.out.2.2.2.2.2.1 _
  have hfr : FrameW b w (w2.setCell ⟨b, 1, none⟩ (.slice ao n' cap)) := (H1.out.2.1.trans (FrameW.grown hgrow H1.out.2.2.2.1)).trans (FrameW.set _ _ _)
  have H2 := Lib.hid (And.intro hput (And.intro hbel hfr))
  clear hput hbel hfr hown' hgrow hb2 hcs hblt c1
  go_wp2
  go_ret2
  exact ⟨rfl, .inr H2.out.1, H2.out.2.1, H2.out.2.2⟩
end Go.Proofs.YtlpngibdplnieaaGreatDoor

/- notice.Text: what writes a line. -/
namespace Go.Proofs.YtlpngibdplnieaaGreatDoor
open Go Go.RowKit Go.Shelf Go.Sort
attribute [local go_sem] bneI

/-- The builder holds so much. -/
structure BdAt (w0 : World) (b : Nat) (l : Bytes) (w : World) : Prop where
  below : Below w0.heap.size w0 w
  bld : Lib.IsBuilder BT 5 w0.heap.size b (Lib.byteCells l) w
theorem BdAt.keep {w0 w w' : World} {b : Nat} {l : Bytes} (h : BdAt w0 b l w) (hB : Below w.heap.size w w') : BdAt w0 b l w' := by
  refine ⟨h.below.trans (hB.mono h.below.size), ?_⟩
  rcases h.bld with h | h
  · obtain ⟨h1, v, h2, h3, h4⟩ := h
    exact .inl ⟨h1, v, (hB.block _ (lt_of_cells h2)).trans h2, h3.kept (grownBy_of_below hB none) (by
      by_cases e : v.ownBlock = none
      · exact .inl e
      · exact .inr e), h4⟩
  · obtain ⟨h1, v, h2, h3, h4⟩ := h
    exact .inr ⟨h1, v, (hB.block _ (lt_of_cells h2)).trans h2, h3.kept (grownBy_of_below hB none) (by
      by_cases e : v.ownBlock = none
      · exact .inl e
      · exact .inr e), h4⟩
theorem writeN_any (w0 : World) (b : Nat) (l s : Bytes) (w : World) (h : BdAt w0 b l w) (hlen : l.length + s.length ≤ 1000000000000) :
    Calls Tryz.prog 83 #[.pointer (some ⟨b, 0, none⟩), .string ⟨s.toArray⟩] w fun e w' => e = .returned (.tuple #[.int .i64 (s.length : Int), .nilIface]) ∧ BdAt w0 b (l ++ s) w' ∧ FrameW b w w' := by
  refine (writeStringN_any w0.heap.size b (Lib.byteCells l) s w h.bld (by rw [Lib.byteCells_length]; exact hlen) h.below.size).mono ?_
  rintro e w' ⟨he, h1, h2, h3⟩
  exact ⟨he, ⟨h.below.trans h2, by rw [byteCells_append]; exact h1⟩, h3⟩
/-- A text in memory that a writing of lines leaves as it is. -/
structure TxtAt (b : Nat) (a : Addr) (t : Bytes) (w : World) : Prop where
  ne : a.block ≠ b
  ex : a.spot = none ∧ ∃ cs T f, w.heap[a.block]? = some (.cells cs T f) ∧ T ≠ 5 ∧ cs[a.off]? = some (.string ⟨t.toArray⟩)
theorem TxtAt.cell {b : Nat} {a : Addr} {t : Bytes} {w : World} (h : TxtAt b a t w) : w.cell? a = some (.string ⟨t.toArray⟩) := by
  obtain ⟨hs, cs, T, f, h1, h2, h3⟩ := h.ex
  obtain ⟨ab, ao, asp⟩ := a
  dsimp only at hs h1 h3
  subst hs
  simp [World.cell?, h1, h3]
theorem TxtAt.frame {b : Nat} {a : Addr} {t : Bytes} {w w' : World} (h : TxtAt b a t w) (hf : FrameW b w w') : TxtAt b a t w' := by
  obtain ⟨hs, cs, T, f, h1, h2, h3⟩ := h.ex
  exact ⟨h.ne, hs, cs, T, f, hf.2 _ _ _ _ h.ne h1 h2, h2, h3⟩
/-- What a line tells. -/
inductive Told (b : Nat) (w : World) : Value → Bytes → Prop where
  | none : Told b w (.pointer none) []
  | some (a : Addr) (t : Bytes) : TxtAt b a t w → Told b w (.pointer (some a)) t
def lineB (ahead t behind : Bytes) : Bytes := ahead ++ (t ++ (behind ++ [13, 10]))
theorem enterSheet : ∀ args w, (callFunc 82 args).run Tryz.prog w = .ok (.enter 82 args) w := enters_of Tryz.func82 (by kernel_rfl) rfl
set_option maxRecDepth 100000 in
set_option maxHeartbeats 4000000 in
theorem sheet_any (w0 : World) (b : Nat) (l ahead behind t : Bytes) (tv : Value) (w : World) (h : BdAt w0 b l w) (ht : Told b w tv t) (hlen : l.length + (ahead.length + (t.length + behind.length)) ≤ 100000000000) :
    Calls Tryz.prog 82 (#[.string ⟨ahead.toArray⟩, tv, .string ⟨behind.toArray⟩] ++ #[.pointer (some ⟨b, 0, none⟩)]) w fun e w' => e = .returned (.tuple #[]) ∧ BdAt w0 b (l ++ lineB ahead t behind) w' ∧ FrameW b w w' := by
  show Calls Tryz.prog 82 #[.string ⟨ahead.toArray⟩, tv, .string ⟨behind.toArray⟩, .pointer (some ⟨b, 0, none⟩)] w _
  have hw1 := writeN_any w0 b l ahead w h (by omega)
  have hcat := cat_bytes behind [13, 10]
  have hbl : ¬ 9223372036854775807 < behind.length + 2 := by omega
  have HL := Lib.hid hlen
  clear h hlen
  obtain ⟨nb, hnb⟩ : ∃ nb, nb = behind ++ [13, 10] := ⟨_, rfl⟩
  have hnl : nb.length = behind.length + 2 := by rw [hnb]; simp
  have HNB := Lib.hid (And.intro hnb hnl)
  rw [← hnb] at hcat
  clear hnb hnl
  cases ht with
  | none =>
    go_enter Tryz.func82, Tryz.ntmps82
    go_wp2_with fail
    refine hw1.mono ?_
    rintro e w2 ⟨rfl, h2, hf2⟩
    have hw2 := writeN_any w0 b (l ++ ahead) nb w2 h2 (by have := HL.out; have := HNB.out.2; simp at *; omega)
    have H2 := Lib.hid (And.intro h2 hf2)
    clear hw1 h2 hf2
    go_wp2_with fail
    refine hw2.mono ?_
    rintro e w3 ⟨rfl, h3, hf3⟩
    have H3 := Lib.hid (And.intro h3 hf3)
    clear hw2 h3 hf3
    go_wp2
    go_end0
    refine ⟨rfl, ?_, H2.out.2.trans H3.out.2⟩
    have e : l ++ lineB ahead [] behind = l ++ ahead ++ nb := by unfold lineB; rw [HNB.out.1]; simp
    rw [e]
    exact H3.out.1
  | some a t hta =>
    have HT := Lib.hid hta
    clear hta
    go_enter Tryz.func82, Tryz.ntmps82
    go_wp2_with fail
    refine hw1.mono ?_
    rintro e w2 ⟨rfl, h2, hf2⟩
    have y0 := (HT.out.frame hf2).cell
    have hw2 := writeN_any w0 b (l ++ ahead) t w2 h2 (by have := HL.out; simp at *; omega)
    have H2 := Lib.hid (And.intro h2 hf2)
    clear hw1 h2 hf2
    go_wp2_with fail
    refine hw2.mono ?_
    rintro e w3 ⟨rfl, h3, hf3⟩
    have hw3 := writeN_any w0 b (l ++ ahead ++ t) nb w3 h3 (by have := HL.out; have := HNB.out.2; simp at *; omega)
    have H3 := Lib.hid (And.intro h3 hf3)
    clear hw2 h3 hf3 y0
    go_wp2_with fail
    refine hw3.mono ?_
    rintro e w4 ⟨rfl, h4, hf4⟩
    have H4 := Lib.hid (And.intro h4 hf4)
    clear hw3 h4 hf4
    go_wp2
    go_end0
    refine ⟨rfl, ?_, (H2.out.2.trans H3.out.2).trans H4.out.2⟩
    have e : l ++ lineB ahead t behind = l ++ ahead ++ t ++ nb := by unfold lineB; rw [HNB.out.1]; simp
    rw [e]
    exact H4.out.1
end Go.Proofs.YtlpngibdplnieaaGreatDoor

/- notice.lines: its plain lines; what Text's lines leave as it is. -/
namespace Go.Proofs.YtlpngibdplnieaaGreatDoor
open Go Go.RowKit Go.Shelf Go.Sort
attribute [local go_sem] bneI

/-- A cell that a writing of lines leaves as it is. -/
structure ValAt (b : Nat) (a : Addr) (v : Value) (w : World) : Prop where
  ne : a.block ≠ b
  ex : a.spot = none ∧ ∃ cs T f, w.heap[a.block]? = some (.cells cs T f) ∧ T ≠ 5 ∧ cs[a.off]? = some v
theorem ValAt.cell {b : Nat} {a : Addr} {v : Value} {w : World} (h : ValAt b a v w) : w.cell? a = some v := by
  obtain ⟨hs, cs, T, f, h1, h2, h3⟩ := h.ex
  obtain ⟨ab, ao, asp⟩ := a
  dsimp only at hs h1 h3
  subst hs
  simp [World.cell?, h1, h3]
theorem ValAt.frame {b : Nat} {a : Addr} {v : Value} {w w' : World} (h : ValAt b a v w) (hf : FrameW b w w') : ValAt b a v w' := by
  obtain ⟨hs, cs, T, f, h1, h2, h3⟩ := h.ex
  exact ⟨h.ne, hs, cs, T, f, hf.2 _ _ _ _ h.ne h1 h2, h2, h3⟩
theorem ValAt.told {b : Nat} {a : Addr} {t : Bytes} {w : World} (h : ValAt b a (.string ⟨t.toArray⟩) w) : Told b w (.pointer (some a)) t := .some a t ⟨h.ne, h.ex⟩
def barB (ls : List Bytes) : Bytes := ls.flatMap fun s => lineB s [] []
/-- What a line is written by. -/
def sheetV (b : Nat) : Value := .func (.func 82) #[] #[.pointer (some ⟨b, 0, none⟩)]
theorem barB_succ {ls : List Bytes} {i : Nat} (hi : i < ls.length) : barB (ls.take (i + 1)) = barB (ls.take i) ++ lineB ls[i] [] [] := by
  unfold barB
  rw [List.take_succ_eq_append_getElem hi, List.flatMap_append]
  simp
theorem barB_len {ls : List Bytes} (h : ∀ s ∈ ls, s.length ≤ 1000) : (barB ls).length ≤ ls.length * 1002 := by
  induction ls with
  | nil => simp [barB]
  | cons s ls ih =>
    have h1 := h s List.mem_cons_self
    have h2 := ih fun x hx => h x (List.mem_cons_of_mem _ hx)
    unfold barB at h2 ⊢
    rw [List.flatMap_cons, List.length_append, List.length_cons, Nat.succ_mul]
    unfold lineB at h2 ⊢
    simp at *
    omega
set_option maxRecDepth 100000 in
set_option maxHeartbeats 4000000 in
theorem plain_any (w0 : World) (b : Nat) (l : Bytes) (b8 g : Nat) (ls : List Bytes) (cap : Nat) (w : World) (h : BdAt w0 b l w) (h8 : ValAt b ⟨b8, 0, none⟩ (sheetV b) w) (hr : ∀ (i : Nat) (hi : i < ls.length), ValAt b ⟨g, i, none⟩ (.string ⟨(ls[i]).toArray⟩) w)
    (hs : ∀ s ∈ ls, s.length ≤ 1000) (hn : ls.length ≤ 1000) (hl : l.length ≤ 1000000000) :
    Calls Tryz.prog 126 (#[.slice (some ⟨g, 0, none⟩) ls.length cap] ++ #[.pointer (some ⟨b8, 0, none⟩)]) w fun e w' => e = .returned (.tuple #[]) ∧ BdAt w0 b (l ++ barB ls) w' ∧ FrameW b w w' := by
  show Calls Tryz.prog 126 #[.slice (some ⟨g, 0, none⟩) ls.length cap, .pointer (some ⟨b8, 0, none⟩)] w _
  have HX := Lib.hid (And.intro h8 (And.intro hr (And.intro hs (And.intro hl h))))
  clear h8 hr hs hl h
  go_enter Tryz.func126, Tryz.ntmps126
  go_wp2_with fail
  go_loopw [7] (fun s7 wr => ∃ i : Nat, s7 = .int .i64 (i : Int) ∧ i ≤ ls.length ∧ BdAt w0 b (l ++ barB (ls.take i)) wr ∧ FrameW b w wr) (fun s7 _ => ls.length - natI s7)
  case atStart => exact ⟨0, rfl, Nat.zero_le _, by simpa [barB] using HX.out.2.2.2.2, FrameW.refl _ _⟩
  case round =>
    obtain ⟨i, rfl, hi, hB, hF⟩ := hrel
    by_cases hlast : i < ls.length
    · have hli : (i : Int) < (ls.length : Int) := by omega
      have hw1 : wrap64 ((i : Int) + 1) = (i : Int) + 1 := by unfold wrap64; omega
      have y8 := (HX.out.1.frame hF).cell
      have y0 := ((HX.out.2.1 i hlast).frame hF).cell
      have hps := barB_len (ls := ls.take i) fun s hs => HX.out.2.2.1 s (List.mem_of_mem_take hs)
      have hls := HX.out.2.2.1 _ (List.getElem_mem hlast)
      have htl : (ls.take i).length ≤ 1000 := by rw [List.length_take]; omega
      have hC := sheet_any w0 b (l ++ barB (ls.take i)) ls[i] [] [] (.pointer none) wr hB .none (by
        have := HX.out.2.2.2.1
        have h2 : (ls.take i).length * 1002 ≤ 1000 * 1002 := Nat.mul_le_mul_right _ htl
        simp only [List.length_append, List.length_nil]
        omega)
      have hsu := barB_succ hlast
      have HH := Lib.hid (And.intro hsu (And.intro hF hlast))
      clear hB hF hps hls htl hsu
      obtain ⟨s, hse⟩ : ∃ s, s = ls[i] := ⟨_, rfl⟩
      rw [← hse] at y0 hC HH
      clear hse
      unfold sheetV at y8
      have hrun : Sem.run Tryz.prog (callFunc 82 (#[.string ⟨s.toArray⟩, .pointer none, .string ⟨#[]⟩] ++ #[.pointer (some ⟨b, 0, none⟩)])) wr = .ok (.enter 82 (#[.string ⟨s.toArray⟩, .pointer none, .string ⟨#[]⟩] ++ #[.pointer (some ⟨b, 0, none⟩)])) wr := enterSheet _ _
      go_wp2_with fail
      refine hC.mono ?_
      rintro e w2 ⟨rfl, hb2, hf2⟩
      have HZ := Lib.hid (And.intro hb2 (HH.out.2.1.trans hf2))
      clear hC hb2 hf2 hrun y8 y0
      go_wp2
      go_roundw
      case rel => exact ⟨i + 1, by simp, by omega, by rw [HH.out.1, ← List.append_assoc]; exact HZ.out.1, HZ.out.2⟩
      case measure => simp [natI]; omega
    · have hli : ¬ (i : Int) < (ls.length : Int) := by omega
      rw [List.take_of_length_le (by omega)] at hB
      have HZ := Lib.hid (And.intro hB hF)
      clear hB hF
      go_wp2
      go_end0
      exact ⟨rfl, HZ.out.1, HZ.out.2⟩
theorem enterPlain : ∀ args w, (callFunc 126 args).run Tryz.prog w = .ok (.enter 126 args) w := enters_of Tryz.func126 (by kernel_rfl) rfl
theorem enterMore : ∀ args w, (callFunc 84 args).run Tryz.prog w = .ok (.enter 84 args) w := enters_of Tryz.func84 (by kernel_rfl) rfl
end Go.Proofs.YtlpngibdplnieaaGreatDoor

/- notice.lines, as Text calls it: the state between its lines. -/
namespace Go.Proofs.YtlpngibdplnieaaGreatDoor
open Go Go.RowKit Go.Shelf Go.Sort
attribute [local go_sem] bneI

/-- Where things lie. -/
structure TxP where
  b : Nat
  bn : Nat
  bi : Nat
  ba : Nat
  bl : Nat
  b8 : Nat
  g : Nat
/-- Between two lines of a text. -/
structure TxL (w0 : World) (q : TxP) (n : NotP) (fv : Value) (ids ats : Bytes) (l : Bytes) (k : Nat) (left : Int) (w : World) : Prop where
  bd : BdAt w0 q.b l w
  box : w.heap[q.bn]? = some (.cells (notC n fv).toArray 34 (0, 0))
  id : w.heap[q.bi]? = some (.cells #[.string ⟨ids.toArray⟩] 9 (0, 0))
  at_ : w.heap[q.ba]? = some (.cells #[.string ⟨ats.toArray⟩] 9 (0, 0))
  lf : w.heap[q.bl]? = some (.cells #[.int .i64 left] 3 (0, 0))
  s8 : w.heap[q.b8]? = some (.cells #[sheetV q.b] 172 (0, 0))
  rows : ∃ cur, w.heap[q.g]? = some (.cells cur 55 (0, 0)) ∧ ∀ i f, n.failed[i]? = some f → cur[i * 3]? = some (.string ⟨f.dest.toArray⟩) ∧ cur[i * 3 + 1]? = some (.string ⟨f.status.toArray⟩) ∧ cur[i * 3 + 2]? = some (.string ⟨f.text.toArray⟩)
  nn : q.bn ≠ q.b ∧ q.bi ≠ q.b ∧ q.ba ≠ q.b ∧ q.bl ≠ q.b ∧ q.b8 ≠ q.b ∧ q.g ≠ q.b
  nl : q.bn ≠ q.bl ∧ q.bi ≠ q.bl ∧ q.ba ≠ q.bl ∧ q.b8 ≠ q.bl ∧ q.g ≠ q.bl
  ge : w0.heap.size ≤ q.bl
  len : l.length ≤ k * 2000000
theorem TxL.frame {w0 : World} {q : TxP} {n : NotP} {fv : Value} {ids ats l : Bytes} {k : Nat} {left : Int} {w w' : World} (h : TxL w0 q n fv ids ats l k left w) (hf : FrameW q.b w w') {l' : Bytes} {k' : Nat} (hb : BdAt w0 q.b l' w') (hl : l'.length ≤ k' * 2000000) :
    TxL w0 q n fv ids ats l' k' left w' := by
  obtain ⟨cur, hg, hr⟩ := h.rows
  obtain ⟨n1, n2, n3, n4, n5, n6⟩ := h.nn
  exact ⟨hb, hf.2 _ _ _ _ n1 h.box (by decide), hf.2 _ _ _ _ n2 h.id (by decide), hf.2 _ _ _ _ n3 h.at_ (by decide), hf.2 _ _ _ _ n4 h.lf (by decide), hf.2 _ _ _ _ n5 h.s8 (by decide), ⟨cur, hf.2 _ _ _ _ n6 hg (by decide), hr⟩, h.nn, h.nl, h.ge, hl⟩
theorem TxL.keep {w0 : World} {q : TxP} {n : NotP} {fv : Value} {ids ats l : Bytes} {k : Nat} {left : Int} {w w' : World} (h : TxL w0 q n fv ids ats l k left w) (hb : Below w.heap.size w w') : TxL w0 q n fv ids ats l k left w' :=
  h.frame (FrameW.below hb) (h.bd.keep hb) h.len
theorem TxL.told_id {w0 : World} {q : TxP} {n : NotP} {fv : Value} {ids ats l : Bytes} {k : Nat} {left : Int} {w : World} (h : TxL w0 q n fv ids ats l k left w) : Told q.b w (.pointer (some ⟨q.bi, 0, none⟩)) ids :=
  ValAt.told ⟨h.nn.2.1, rfl, _, _, _, h.id, by decide, rfl⟩
theorem TxL.told_at {w0 : World} {q : TxP} {n : NotP} {fv : Value} {ids ats l : Bytes} {k : Nat} {left : Int} {w : World} (h : TxL w0 q n fv ids ats l k left w) : Told q.b w (.pointer (some ⟨q.ba, 0, none⟩)) ats :=
  ValAt.told ⟨h.nn.2.2.1, rfl, _, _, _, h.at_, by decide, rfl⟩
theorem TxL.told_host {w0 : World} {q : TxP} {n : NotP} {fv : Value} {ids ats l : Bytes} {k : Nat} {left : Int} {w : World} (h : TxL w0 q n fv ids ats l k left w) : Told q.b w (.pointer (some ⟨q.bn, 1, none⟩)) n.host :=
  ValAt.told ⟨h.nn.1, rfl, _, _, _, h.box, by decide, rfl⟩
theorem TxL.told_dest {w0 : World} {q : TxP} {n : NotP} {fv : Value} {ids ats l : Bytes} {k : Nat} {left : Int} {w : World} (h : TxL w0 q n fv ids ats l k left w) : Told q.b w (.pointer (some ⟨q.bn, 2, none⟩)) n.dest :=
  ValAt.told ⟨h.nn.1, rfl, _, _, _, h.box, by decide, rfl⟩
theorem TxL.told_envid {w0 : World} {q : TxP} {n : NotP} {fv : Value} {ids ats l : Bytes} {k : Nat} {left : Int} {w : World} (h : TxL w0 q n fv ids ats l k left w) : Told q.b w (.pointer (some ⟨q.bn, 3, none⟩)) n.envid :=
  ValAt.told ⟨h.nn.1, rfl, _, _, _, h.box, by decide, rfl⟩
theorem TxL.told_f {w0 : World} {q : TxP} {n : NotP} {fv : Value} {ids ats l : Bytes} {k : Nat} {left : Int} {w : World} (h : TxL w0 q n fv ids ats l k left w) {i : Nat} {f : FlP} (hi : n.failed[i]? = some f) :
    Told q.b w (.pointer (some ⟨q.g, i * 3, none⟩)) f.dest ∧ Told q.b w (.pointer (some ⟨q.g, i * 3 + 1, none⟩)) f.status ∧ Told q.b w (.pointer (some ⟨q.g, i * 3 + 2, none⟩)) f.text := by
  obtain ⟨cur, hg, hr⟩ := h.rows
  obtain ⟨r0, r1, r2⟩ := hr i f hi
  exact ⟨ValAt.told ⟨h.nn.2.2.2.2.2, rfl, _, _, _, hg, by decide, r0⟩, ValAt.told ⟨h.nn.2.2.2.2.2, rfl, _, _, _, hg, by decide, r1⟩, ValAt.told ⟨h.nn.2.2.2.2.2, rfl, _, _, _, hg, by decide, r2⟩⟩
theorem TxL.sheet {w0 : World} {q : TxP} {n : NotP} {fv : Value} {ids ats l : Bytes} {k : Nat} {left : Int} {w : World} (h : TxL w0 q n fv ids ats l k left w) (ahead behind t : Bytes) (tv : Value) (ht : Told q.b w tv t) (h1 : ahead.length + behind.length ≤ 1000) (h2 : t.length ≤ 1000000) (hk : k ≤ 1000) :
    Calls Tryz.prog 82 (#[.string ⟨ahead.toArray⟩, tv, .string ⟨behind.toArray⟩] ++ #[.pointer (some ⟨q.b, 0, none⟩)]) w fun e w' => e = .returned (.tuple #[]) ∧ TxL w0 q n fv ids ats (l ++ lineB ahead t behind) (k + 1) left w' := by
  have hlen := h.len
  refine (sheet_any w0 q.b l ahead behind t tv w h.bd ht (by omega)).mono ?_
  rintro e w' ⟨he, hb, hf⟩
  refine ⟨he, h.frame hf hb ?_⟩
  unfold lineB
  simp only [List.length_append, List.length_cons, List.length_nil]
  omega
theorem TxL.plain {w0 : World} {q : TxP} {n : NotP} {fv : Value} {ids ats l : Bytes} {k : Nat} {left : Int} {w : World} (h : TxL w0 q n fv ids ats l k left w) (ls : List Bytes) (hs : ∀ s ∈ ls, s.length ≤ 1000) (hn : ls.length ≤ 1000) (hk : k ≤ 400) :
    Calls Tryz.prog 126 (#[.slice (some ⟨w.heap.size, 0, none⟩) ls.length ls.length] ++ #[.pointer (some ⟨q.b8, 0, none⟩)]) (w.alloc (.cells (ls.map str).toArray 9)) fun e w' => e = .returned (.tuple #[]) ∧ TxL w0 q n fv ids ats (l ++ barB ls) (k + 1) left w' := by
  have h1 : TxL w0 q n fv ids ats l k left (w.alloc (.cells (ls.map str).toArray 9)) := h.keep ((Below.refl _ _).alloc (Nat.le_refl _) _)
  have hlen := h.len
  have hbb := barB_len hs
  have hmul : ls.length * 1002 ≤ 1000 * 1002 := Nat.mul_le_mul_right _ hn
  have hne : w.heap.size ≠ q.b := by
    intro e
    have := (builderN_lt h.bd.bld).2
    omega
  refine (plain_any w0 q.b l q.b8 w.heap.size ls ls.length _ h1.bd ⟨h.nn.2.2.2.2.1, rfl, _, _, _, h1.s8, by decide, rfl⟩ (fun i hi => ⟨hne, rfl, _, _, _, ha_eq rfl, by decide, by simp [str, List.getElem?_map, List.getElem?_eq_getElem hi]⟩) hs hn (by omega)).mono ?_
  rintro e w' ⟨he, hb, hf⟩
  refine ⟨he, h1.frame hf hb ?_⟩
  rw [List.length_append]
  omega
set_option maxRecDepth 100000 in
theorem TxL.moreE {w0 : World} {q : TxP} {n : NotP} {fv : Value} {ids ats l : Bytes} {k : Nat} {left : Int} {w : World} (h : TxL w0 q n fv ids ats l k left w) (s : Bytes) (hs : s ≠ []) :
    Calls Tryz.prog 84 (#[.string ⟨s.toArray⟩] ++ #[.pointer (some ⟨q.bn, 0, none⟩), .pointer (some ⟨q.bl, 0, none⟩)]) w fun e w' => e = .returned (.bool (decide (n.envid ≠ []))) ∧ TxL w0 q n fv ids ats l k left w' := by
  show Calls Tryz.prog 84 #[.string ⟨s.toArray⟩, .pointer (some ⟨q.bn, 0, none⟩), .pointer (some ⟨q.bl, 0, none⟩)] w _
  have hbx := h.box
  unfold notC at hbx
  obtain ⟨-, -, -, x3, -, -⟩ := nobox hbx
  have H := Lib.hid h
  have hse : s.isEmpty = false := by simpa using hs
  clear h hbx
  obtain ⟨ev, hev⟩ : ∃ ev, ev = n.envid := ⟨_, rfl⟩
  rw [← hev] at x3 ⊢
  clear hev
  go_enter Tryz.func84, Tryz.ntmps84
  by_cases he : ev = []
  · subst he
    go_wp2
    refine bodyPost_ret (v := .bool false) (by simp [results, Tryz.results84, go_sem]) rfl ⟨by simp, H.out⟩
  · go_wp2
    refine bodyPost_ret (v := .bool true) (by simp [results, Tryz.results84, go_sem, he]) rfl ⟨by simp [he], H.out⟩
theorem TxL.left {w0 : World} {q : TxP} {n : NotP} {fv : Value} {ids ats l : Bytes} {k : Nat} {left : Int} {w : World} (h : TxL w0 q n fv ids ats l k left w) (v : Int) : TxL w0 q n fv ids ats l k v (w.setCell ⟨q.bl, 0, none⟩ (.int .i64 v)) := by
  obtain ⟨cur, hg, hr⟩ := h.rows
  obtain ⟨n1, n2, n3, n4, n5⟩ := h.nl
  have hset : ∀ (j : Nat) (o : Obj), j ≠ q.bl → w.heap[j]? = some o → (w.setCell ⟨q.bl, 0, none⟩ (.int .i64 v)).heap[j]? = some o := fun j o hj ho => (Below.heap_setCell w ⟨q.bl, 0, none⟩ _ j hj).trans ho
  refine ⟨⟨h.bd.below.setCell (p := ⟨q.bl, 0, none⟩) h.ge _, ?_⟩, hset _ _ n1 h.box, hset _ _ n2 h.id, hset _ _ n3 h.at_, ?_, hset _ _ n4 h.s8, ⟨cur, hset _ _ n5 hg, hr⟩, h.nn, h.nl, h.ge, h.len⟩
  · have hb : q.b ≠ q.bl := fun e => h.nn.2.2.2.1 e.symm
    rcases h.bd.bld with hh | hh
    · obtain ⟨h1, u, h2, h3, h4⟩ := hh
      exact .inl ⟨h1, u, hset _ _ hb h2, own_set1 h3 h.lf (by decide), h4⟩
    · obtain ⟨h1, u, h2, h3, h4⟩ := hh
      exact .inr ⟨h1, u, hset _ _ hb h2, own_set1 h3 h.lf (by decide), h4⟩
  · exact heap_setE h.lf
set_option maxRecDepth 100000 in
theorem TxL.moreL {w0 : World} {q : TxP} {n : NotP} {fv : Value} {ids ats l : Bytes} {k : Nat} {left : Int} {w : World} (h : TxL w0 q n fv ids ats l k left w) (h0 : 0 ≤ left) (h1 : left ≤ 1000000) :
    Calls Tryz.prog 84 (#[.string ⟨#[]⟩] ++ #[.pointer (some ⟨q.bn, 0, none⟩), .pointer (some ⟨q.bl, 0, none⟩)]) w fun e w' => e = .returned (.bool (decide (1 ≤ left))) ∧ TxL w0 q n fv ids ats l k (left - 1) w' := by
  show Calls Tryz.prog 84 #[.string ⟨#[]⟩, .pointer (some ⟨q.bn, 0, none⟩), .pointer (some ⟨q.bl, 0, none⟩)] w _
  have c0 : w.cell? ⟨q.bl, 0, none⟩ = some (.int .i64 left) := by simp [World.cell?, h.lf]
  have f0 := efroz h.lf 0
  have hl := h.left (left - 1)
  have c1 : (w.setCell ⟨q.bl, 0, none⟩ (.int .i64 (left - 1))).cell? ⟨q.bl, 0, none⟩ = some (.int .i64 (left - 1)) := by simp [World.cell?, hl.lf]
  have hw1 : wrap64 (left - 1) = left - 1 := by unfold wrap64; omega
  have H := Lib.hid hl
  clear h hl
  go_enter Tryz.func84, Tryz.ntmps84
  by_cases hle : 1 ≤ left
  · have hge : left - 1 ≥ 0 := by omega
    have hge2 : (0 : Int) ≤ left - 1 := by omega
    go_wp2
    refine bodyPost_ret (v := .bool true) (by simp [results, Tryz.results84, go_sem]) rfl ⟨by simp [hle], H.out⟩
  · have hge : ¬ left - 1 ≥ 0 := by omega
    have hge2 : ¬ (0 : Int) ≤ left - 1 := by omega
    go_wp2
    refine bodyPost_ret (v := .bool false) (by simp [results, Tryz.results84, go_sem]) rfl ⟨by simp [hle], H.out⟩
end Go.Proofs.YtlpngibdplnieaaGreatDoor
