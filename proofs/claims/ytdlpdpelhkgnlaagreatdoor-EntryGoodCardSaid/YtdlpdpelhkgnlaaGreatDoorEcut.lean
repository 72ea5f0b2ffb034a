/- line.Cut: a text's lines, and what is left. -/
import Derived.Test.YtdlpdpelhkgnlaaGreatDoorEhead
import Derived.Test.YtdlpdpelhkgnlaaGreatDoorMc
import Derived.TacticsInMore
namespace Go.Proofs.YtdlpdpelhkgnlaaGreatDoor
open Go Go.RowKit Go.Shelf Go.Sort
attribute [local go_sem] bneI Oper.semAt_some

/-- Where the last line ends. -/
def lastAt (xs : List (Bytes × Nat)) : Nat := (xs.getLast?.map (·.2)).getD 0
/-- So far the lines of a text have been told. -/
structure CutI (s : Bytes) (pre : List (Bytes × Nat)) (n : Nat) : Prop where
  pos : n = lastAt pre
  le : n ≤ s.length
  two : pre.length * 2 ≤ n
  lines : linesB s = (pre.map (·.1) ++ (linesB (s.drop n)).1, (linesB (s.drop n)).2)
theorem CutI.zero (s : Bytes) : CutI s [] 0 := ⟨rfl, Nat.zero_le _, Nat.le_refl _, by simp⟩
theorem index_cut (s : Bytes) : (Lib.index s [13, 10] < 0 ∧ Lib.cut s [13, 10] = (s, [], false)) ∨ ∃ i : Nat, Lib.index s [13, 10] = (i : Int) ∧ i + 2 ≤ s.length ∧ Lib.cut s [13, 10] = (s.take i, s.drop (i + 2), true) := by
  by_cases h : 0 ≤ Lib.index s [13, 10]
  · right
    have hr := Lib.index_room s [13, 10] h
    obtain ⟨i, hi⟩ := Int.eq_ofNat_of_zero_le h
    refine ⟨i, hi, by rw [hi] at hr; simp at hr; omega, ?_⟩
    unfold Lib.cut
    rw [if_pos h, hi]
    rfl
  · left
    refine ⟨by omega, ?_⟩
    unfold Lib.cut
    rw [if_neg h]
theorem CutI.step {s : Bytes} {pre : List (Bytes × Nat)} {a i : Nat} (h : CutI s pre a) (hi : i + 2 ≤ (s.drop a).length) (hc : Lib.cut (s.drop a) [13, 10] = ((s.drop a).take i, (s.drop a).drop (i + 2), true)) :
    CutI s (pre ++ [((s.drop a).take i, a + (i + 2))]) (a + (i + 2)) := by
  have hl := h.le
  simp only [List.length_drop] at hi
  refine ⟨by simp [lastAt], by omega, by have := h.two; simp; omega, ?_⟩
  have hx := linesB_cut hc
  rw [List.drop_drop] at hx
  rw [h.lines, hx]
  simp
theorem CutI.done {s : Bytes} {pre : List (Bytes × Nat)} {a : Nat} (h : CutI s pre a) (hc : Lib.cut (s.drop a) [13, 10] = (s.drop a, [], false)) : linesB s = (pre.map (·.1), s.drop (lastAt pre)) := by
  rw [h.lines, linesB_no hc, ← h.pos]
  simp
def liE (x : Bytes × Nat) : Array Value := #[str x.1, .int .i64 (x.2 : Int)]

set_option maxRecDepth 100000 in
set_option maxHeartbeats 1000000 in
theorem whole1_in (n l Bs n₀ : Nat) (s : Bytes) (hs : s.length ≤ 1000000) (hgl : 1 < n₀) (J Jx : List (Bytes × Nat) → World → Prop)
    (W : World)
    (hY : ∀ pre x W1, J pre W1 → pre.length < s.length → YieldAt Fence.wide (n - 1) Tryz.prog l (liE x) W1 fun e W' =>
      (e = .returned (.bool true) ∧ J (pre ++ [x]) W' ∧ KeepsPriv (KB n₀ Bs) W1 W') ∨ (e = .returned (.bool false) ∧ Jx (pre ++ [x]) W'))
    (hB : W.heap[Bs]? = some (.cells #[str s] 9 (0, 0))) (hg : Glob W) (h0 : J [] W) :
    CallsIn Fence.wide n Tryz.prog 203 #[.func (.yield l) #[] #[], .pointer (some ⟨Bs, 0, none⟩)] W fun e W' => (∃ v, e = .returned v) ∧
      ((∃ xs, (linesB s = (xs.map (·.1), s.drop (lastAt xs)) ∧ lastAt xs ≤ s.length) ∧ J xs W') ∨ (∃ pre, True ∧ Jx pre W')) := by
  refine callsIn_of_wp Tryz.func203 rfl trivial ?_ rfl
  simp only [Tryz.ntmps203, List.size_toArray, List.length_cons, List.length_nil, Nat.reduceAdd, Nat.reduceSub, Array.replicate_succ, Array.replicate_zero, List.push_toArray, List.append_toArray, List.nil_append, List.cons_append]
  gi_wp2
  gi_loopw [3] (fun s3 wr => ∃ (pre : List (Bytes × Nat)) (a : Nat), s3 = .int .i64 (a : Int) ∧ CutI s pre a ∧ wr.heap[Bs]? = some (.cells #[str s] 9 (0, 0)) ∧ Glob wr ∧ W.heap.size ≤ wr.heap.size ∧ J pre wr)
    (fun s3 _ => s.length - natI s3)
  case atStart =>
    exact ⟨[], 0, rfl, CutI.zero s, hB, hg, Nat.le_refl _, h0⟩
  case round =>
    obtain ⟨pre, a, rfl, hI, hb, ⟨m, hm⟩, hsz, hj⟩ := hrel
    obtain ⟨hc, hf⟩ := box_cell hb
    unfold str at hc
    have hale := hI.le
    have hpl : pre.length * 2 ≤ a := hI.two
    have hex := extract_drop s a s.length rfl
    have hdl : (s.drop a).length = s.length - a := by simp
    have hst := Tryz.strings_Index ⟨(s.drop a).toArray⟩ ⟨#[13, 10]⟩ m wr (by show (s.drop a).length < _; omega) hm
    have hix := index_cut (s.drop a)
    have e0 : (⟨(s.drop a).toArray⟩ : ByteArray).data.toList = s.drop a := rfl
    have e1 : (⟨#[13, 10]⟩ : ByteArray).data.toList = [13, 10] := rfl
    rw [e0, e1] at hst
    clear e0 e1
    have hszs : (⟨s.toArray⟩ : ByteArray).size = s.length := rfl
    have HI := Lib.hid (And.intro hI (And.intro hix (And.intro hj (And.intro hb (And.intro hsz hm)))))
    clear hI hix hj hb hsz hm
    gi_wp2_with fail
    refine callW (hst.mono ?_)
    rintro e wr ⟨rfl, rfl⟩
    clear hst
    rcases HI.out.2.1 with ⟨hneg, hc⟩ | ⟨i, hi, hroom, hc⟩
    · have HD := Lib.hid (And.intro (HI.out.1.done hc) (show lastAt pre ≤ s.length by rw [← HI.out.1.pos]; exact hale))
      clear hc
      generalize Lib.index (s.drop a) [13, 10] = ix at *
      gi_wp2
      refine bodyPost_ret (results_none rfl _ _ _) rfl ?_
      exact ⟨⟨_, rfl⟩, .inl ⟨pre, HD.out, HI.out.2.2.1⟩⟩
    · rw [hi]
      have hstp := HI.out.1.step hroom hc
      have hl2 : a + i + 2 ≤ s.length := by rw [hdl] at hroom; omega
      have hx2 : (⟨s.toArray⟩ : ByteArray).extract a (a + i) = ⟨((s.drop a).take i).toArray⟩ := by
        apply ByteArray.ext
        apply Array.toList_inj.1
        simp only [ByteArray.data_extract, Array.toList_extract, List.extract_eq_take_drop]
        rw [show a + i - a = i by omega]
      have hlt : pre.length < s.length := by omega
      have hwr : wr.heap[Bs]? = some (.cells #[str s] 9 (0, 0)) := HI.out.2.2.2.1
      have hjj := HI.out.2.2.1
      have hdf : ¬ (i : Int) < 0 := by omega
      obtain ⟨x, hx⟩ : ∃ x, x = (s.drop a).take i := ⟨_, rfl⟩
      rw [← hx] at hx2 hstp
      obtain ⟨fn, tmps, assign, body, hy, hR⟩ := hY pre (x, a + (i + 2)) wr hjj hlt
      unfold liE str at hy
      have HS := Lib.hid (And.intro hstp (And.intro hi (And.intro hl2 (And.intro hwr (And.intro hx hlt)))))
      clear hstp hi hc hwr hjj hx hlt hroom hdl hex
      have hai : a + i ≤ s.length := by omega
      have e2 : ((a + (i + 2) : Nat) : Int) = (a : Int) + ((i : Int) + 2) := by omega
      dsimp only at hy
      rw [e2] at hy
      clear e2
      gi_wp2_with fail
      refine ⟨(fun h => by cases h), hR.mono ?_⟩
      rintro e W3 (⟨rfl, hJ3, hk3⟩ | ⟨rfl, hJx3⟩)
      · have hb3 : W3.heap[Bs]? = some (.cells #[str s] 9 (0, 0)) := (hk3.2 Bs (.inr rfl)).trans HS.out.2.2.2.1
        have hsz3 : W.heap.size ≤ W3.heap.size := Nat.le_trans HI.out.2.2.2.2.1 hk3.1
        have hg3 : Glob W3 := ⟨m, (World.cell?_of_block (hk3.2 _ (.inl hgl))).trans HI.out.2.2.2.2.2⟩
        have HB3 := Lib.hid (And.intro hb3 (And.intro hg3 (And.intro hsz3 hJ3)))
        clear hb3 hg3 hsz3 hJ3 hk3 hc hf hx2 hy hR
        gi_wp2
        go_roundw
        case rel => exact ⟨pre ++ [(x, a + (i + 2))], a + (i + 2), by simp, HS.out.1, HB3.out.1, HB3.out.2.1, HB3.out.2.2.1, HB3.out.2.2.2⟩
        case measure => simp [natI]; omega
      · clear hx2 hy hR hc hf
        gi_wp2
        refine bodyPost_ret (results_none rfl _ _ _) rfl ?_
        exact ⟨⟨_, rfl⟩, .inr ⟨_, trivial, hJx3⟩⟩
theorem whole_stops (n Bs n₀ : Nat) (s : Bytes) (hs : s.length ≤ 1000000) (hgl : 1 < n₀) (hBn : n₀ ≤ Bs) (w : World) (hB : w.heap[Bs]? = some (.cells #[str s] 9 (0, 0))) (hg : Glob w) :
    SeqStopsP Fence.wide n Tryz.prog 203 #[.pointer (some ⟨Bs, 0, none⟩)] liE (KeepsPriv (KB n₀ Bs)) (fun _ => False) (fun xs => linesB s = (xs.map (·.1), s.drop (lastAt xs)) ∧ lastAt xs ≤ s.length) (fun _ => True) (fun pre _ => pre.length < s.length) w := fun l J Jx W hW _ _ hY h0 => by
  have hlt := (Array.getElem?_eq_some_iff.1 hB).1
  exact whole1_in n l Bs n₀ s hs hgl J Jx W hY ((hW.block Bs hlt).trans hB) (hg.below hW (by omega)) h0
theorem whole_in (n : Nat) (s : ByteArray) (w : World) :
    CallsIn Fence.wide n Tryz.prog 192 #[.string s] w fun e w' => e = .returned (.func (.func 203) #[] #[.pointer (some ⟨w.heap.size, 0, none⟩)]) ∧ w.alloc (.cells #[.string s] 9) = w' := by
  refine callsIn_of_wp Tryz.func192 rfl trivial ?_ rfl
  simp only [Tryz.ntmps192, List.size_toArray, List.length_cons, List.length_nil, Nat.reduceAdd, Nat.reduceSub, Array.replicate_succ, Array.replicate_zero, List.push_toArray, List.append_toArray, List.nil_append, List.cons_append]
  gi_wp2
  go_ret
  exact ⟨rfl, rfl⟩
theorem infoStr : (Tryz.prog.info? 9).map (fun i => (i.zero, i.size, i.bytes)) = some (some (.string ⟨#[]⟩), 1, 16) := by kernel_rfl
theorem row_ne {W : World} {base : Nat} {e : TypeId} {size : Nat} {v : Value} {k : Nat} {xs : List Value} (h : W.ownsRow base e size v k xs) {row : Option Nat} (hr : ∀ r, row = some r → ∃ o : Obj, W.heap[r]? = some o ∧ ∀ cur, o ≠ .cells cur e (0, 0)) : v.ownBlock = none ∨ v.ownBlock ≠ row := by
  rcases h.2 with ⟨rfl, _⟩ | ⟨g, cap, cur, rfl, _, hgb, _⟩
  · exact .inl rfl
  · refine .inr fun e' => ?_
    obtain ⟨o, ho, hn⟩ := hr g (by simpa [Value.ownBlock] using e'.symm)
    rw [hgb] at ho; cases ho; exact hn cur rfl
theorem row_cells {W : World} {base : Nat} {e : TypeId} {size : Nat} {v : Value} {k : Nat} {xs : List Value} (h : W.ownsRow base e size v k xs) : ∀ (j : Nat) (o : Obj), v.ownBlock = some j → W.heap[j]? = some o → o.isCells = true := by
  intro j o hj ho
  rcases h.2 with ⟨rfl, _⟩ | ⟨g, cap, cur, rfl, _, hgb, _⟩
  · simp [Value.ownBlock] at hj
  · have : g = j := by simpa [Value.ownBlock] using hj
    subst this; rw [hgb] at ho; cases ho; rfl
theorem cell_list1 {w : World} {x : Value} {t : TypeId} {k : Nat} (hk : k = w.heap.size) : ∀ j u, [x][j]? = some u → (w.alloc (.cells #[x] t)).cell? ((⟨k, 0, none⟩ : Addr).add j) = some u := by
  subst hk
  intro j u hj
  match j, hj with
  | 0, hj => simp at hj; subst hj; simp [Addr.add]
theorem setCell_same {W : World} {b off : Nat} {cs : Array Value} {t : TypeId} {f : Nat × Nat} {v : Value} (h : W.heap[b]? = some (.cells cs t f)) (hv : cs[off]? = some v) : W.setCell ⟨b, off, none⟩ v = W := by
  have hlt := (Array.getElem?_eq_some_iff.1 h).1
  have hol := (Array.getElem?_eq_some_iff.1 hv).1
  have e : W.heap.modify b (fun
      | .cells c elem frozen => .cells (if (none : Option Nat).isSome then c else c.setIfInBounds off v) elem frozen
      | o => o) = W.heap := by
    apply Array.ext
    · simp
    · intro i h1 h2
      rw [Array.getElem_modify]
      split
      · rename_i hi
        subst hi
        have hg : W.heap[b] = .cells cs t f := (Array.getElem?_eq_some_iff.1 h).2
        rw [hg]
        have : cs.setIfInBounds off v = cs := by
          apply Array.ext
          · simp
          · intro j h3 h4
            rw [Array.getElem_setIfInBounds]
            split
            · rename_i hj
              subst hj
              exact ((Array.getElem?_eq_some_iff.1 hv).2).symm
            · rfl
        simp [this]
      · rfl
  show { W with heap := _ } = W
  exact congrArg (fun x => { W with heap := x }) e

theorem grown_put (W : World) (D : Nat) : W.grownBy (W.putObj D (.deferred none)) (some D) := grownBy_putObj' W D _
/-- What a round of Cut has done. -/
structure CutJ (w : World) (pre : List (Bytes × Nat)) (W : World) : Prop where
  below : Below w.heap.size w W
  size : w.heap.size + 3 ≤ W.heap.size
  box : ∃ v, W.heap[w.heap.size]? = some (.cells #[v] 64 (0, 0)) ∧ W.ownsRow (w.heap.size + 3) 9 1 v pre.length (pre.map fun x => str x.1)
  used : W.heap[w.heap.size + 1]? = some (.cells #[.int .i64 (lastAt pre : Int)] 3 (0, 0))
theorem ownP_cut {w : World} {B : Nat} (hB : w.heap.size ≤ B) : OwnP B (fun _ => False) (CutJ w) := fun s W W' row h hg hr => by
  obtain ⟨v, hv, ho⟩ := h.box
  have hcell : ∀ {b : Nat} {cs : Array Value} {t : TypeId}, W.heap[b]? = some (.cells cs t (0, 0)) → W'.heap[b]? = some (.cells cs t (0, 0)) := fun {b cs t} hb => (hg.block b (Array.getElem?_eq_some_iff.1 hb).1 (fun e => by
      rcases hr b e.symm with ⟨_, o, ho, hc⟩ | h
      · rw [hb] at ho; cases ho; cases hc
      · exact h)).trans hb
  refine ⟨h.below.grown hg h.below.size (fun k e => by rcases hr k e with h | h; exact Nat.le_trans hB h.1; exact h.elim), Nat.le_trans h.size hg.size, ⟨v, hcell hv, ho.kept hg (row_ne ho (fun r e => ?_))⟩, hcell h.used⟩
  rcases hr r e with ⟨_, o, ho, hc⟩ | h
  · exact ⟨o, ho, fun cur e => by rw [e] at hc; cases hc⟩
  · exact h.elim
/-- What Cut hands back. -/
def CutPost (w : World) (s : Bytes) (e : Ending) (w' : World) : Prop := ∃ v, e = .returned (.tuple #[v, .string ⟨(linesB s).2.toArray⟩]) ∧ w'.ownsRow (w.heap.size + 3) 9 1 v (linesB s).1.length ((linesB s).1.map str)

set_option maxRecDepth 100000 in
set_option maxHeartbeats 2000000 in
theorem cut_any (s : Bytes) (w : World) (hs : s.length ≤ 1000000) (hg : Glob w) :
    Calls Tryz.prog 175 #[.string ⟨s.toArray⟩] w fun e w' => CutPost w s e w' ∧ Below w.heap.size w w' := by
  obtain ⟨i0, hi0, hz0, hz1, hz2⟩ := info_parts infoStr
  have hgl : 1 < w.heap.size := by obtain ⟨m, hm⟩ := hg; exact cell_lt hm
  refine (callsIn_wide (n := 8)).1 ?_
  refine callsIn_of_wp_marks Tryz.func175 rfl trivial ?_ rfl
  simp only [Tryz.ntmps175, List.size_toArray, List.length_cons, List.length_nil, Nat.reduceAdd, Nat.reduceSub, Array.replicate_succ, Array.replicate_zero, List.push_toArray, List.append_toArray, List.nil_append, List.cons_append]
  gi_wp2_with fail
  refine ⟨trivial, (whole_in 7 ⟨s.toArray⟩ _).mono ?_⟩
  rintro e w' ⟨rfl, hw⟩
  have hs1 : w'.heap.size = w.heap.size + 3 := by rw [← hw]; simp
  have hb0 : w'.heap[w.heap.size]? = some (.cells #[.slice none 0 0] 64 (0, 0)) := by rw [← hw, ha_ne (by simp; omega), ha_ne (by simp), ha_eq rfl]
  have hb1 : w'.heap[w.heap.size + 1]? = some (.cells #[.int .i64 0] 3 (0, 0)) := by rw [← hw, ha_ne (by simp), ha_eq (by simp)]
  have hb2 : w'.heap[w.heap.size + 2]? = some (.cells #[str s] 9 (0, 0)) := by rw [← hw]; exact ha_eq (by simp)
  have hbl : Below w.heap.size w w' := by rw [← hw]; exact (((Below.refl _ _).alloc (Nat.le_refl _) _).alloc (by simp) _).alloc (by simp; omega) _
  have hg' := hg.below hbl hgl
  simp only [World.size_alloc]
  clear hw
  gi_wp2_with fail
  have HD := Lib.hid (And.intro hb0 (And.intro hb1 (And.intro hb2 hg')))
  clear hb0 hb1 hb2 hg'
  refine wpIn_rangeFunc_Q (w0 := w') (encs := liE) (Kb := KB w.heap.size (w.heap.size + 2)) (Pb := fun _ => False) rfl (by decide) (gf := 203) (lb := #[.pointer (some ⟨w.heap.size + 2, 0, none⟩)]) rfl trivial (enters_of Tryz.func203 (by kernel_rfl) rfl)
    (whole_stops 7 (w.heap.size + 2) w.heap.size s hs hgl (by omega) w' HD.out.2.2.1 HD.out.2.2.2)
    (Below.refl _ _) (fun _ => rfl) (fun r hr => by rcases hr with h | h <;> omega) (fun r hr => hr.elim)
    (CutJ w) (fun _ _ _ => False) (ownP_cut (by omega)) (fun c => fun _ _ _ _ h _ _ => h)
    ⟨hbl, by omega, ⟨_, HD.out.1, ⟨rfl, .inl ⟨rfl, rfl⟩⟩⟩, HD.out.2.1⟩ ?a1 ?assign ?body ?done ?stop
  case assign =>
    intro l x W K hK
    unfold liE str
    gi_wp2
    exact hK
  case stop =>
    intro D c pre W hD _ hf hK
    exact hf.elim
  case body =>
    intro l pre x W hI hlen
    obtain ⟨v, hv, ho⟩ := hI.box
    obtain ⟨c1, f1⟩ := box_cell hv
    obtain ⟨c2, f2⟩ := box_cell hI.used
    have hHI := Lib.hid (And.intro hI.below (And.intro hI.used (And.intro hv ho)))
    have hHW := Lib.hid hI.size
    clear hI hv ho
    gi_wp2_with (gi_at_builtin; refine Bx.h ?_)
    refine ⟨?_⟩
    refine wpListIn_append_own _ rfl _ _ 64 rfl (w.heap.size + 3) 9 i0 (.string ⟨#[]⟩) 1 16 Tryz.underlying64 hi0 hz0 hz1 hz2 rfl (by decide) _ _ _ rfl (hHI.out.2.2.2.alloc _) ⟨W.heap.size, 0, none⟩ 1 1 [.string ⟨x.1.toArray⟩] rfl rfl (cell_list1 rfl) (by simp [Value.oneCell']) (by unfold maxLen; omega) (by omega) (by have := hHW.out; simp; omega) ?_
    intro v' w3 hown3 hgrow3 hnil3
    replace hgrow3 : (W.alloc _).grownBy w3 v.ownBlock := hgrow3
    clear hnil3
    obtain ⟨hb, hu, hv, ho⟩ := hHI.out
    obtain ⟨g', cap', rfl⟩ : ∃ g' cap', v' = .slice (some ⟨g', 0, none⟩) (pre.length + 1) cap' := by
      rcases hown3.2 with ⟨_, h0⟩ | ⟨g, cap, _, h, _⟩
      · exact absurd h0 (by omega)
      · exact ⟨g, cap, h⟩
    have hBs : w.heap.size + 3 ≤ W.heap.size := by have := hHW.out; omega
    have hrne : ∀ b, b < w.heap.size + 3 → v.ownBlock ≠ some b := fun b hb' e => by
      have := (ho.lt b e).1; omega
    have hx : W.grownBy w3 v.ownBlock := World.grownBy.trans (World.grownBy_alloc _ _ _) hgrow3
    have hv3 : w3.heap[w.heap.size]? = some (.cells #[v] 64 (0, 0)) := (hx.block w.heap.size (by omega) (fun e => hrne _ (by omega) e.symm)).trans hv
    have hu3 : w3.heap[w.heap.size + 1]? = some (.cells #[.int .i64 (lastAt pre : Int)] 3 (0, 0)) := (hx.block (w.heap.size + 1) (by omega) (fun e => hrne _ (by omega) e.symm)).trans hu
    obtain ⟨c3, f3⟩ := box_cell hv3
    obtain ⟨c4, f4⟩ := box_cell hu3
    have hw3 : KeepsOthers W w3 := KeepsOthers.of_grownBy hx (row_cells ho)
    have hkp : KeepsPriv (KB w.heap.size (w.heap.size + 2)) W w3 := ⟨hx.size, fun r hr => hx.block r (by rcases hr with h | h <;> omega) (fun e => hrne r (by rcases hr with h | h <;> omega) e.symm)⟩
    have hb3 : Below w.heap.size w w3 := hb.grown hx hb.size (fun k e => Nat.le_trans (by omega) (ho.lt k e).1)
    have hH3 := Lib.hid (And.intro hw3 (And.intro hb3 (And.intro hv3 (And.intro hu3 (And.intro hown3 hkp)))))
    clear hown3 hgrow3 hb hu hv ho hrne hv3 hu3 hx hw3 hb3 hkp c1 f1 c2 f2 hHI
    gi_wp2
    have hs1 := grown_set w3 w.heap.size (.slice (some ⟨g', 0, none⟩) (pre.length + 1) cap')
    have hs2 := grown_set (w3.setCell ⟨w.heap.size, 0, none⟩ (.slice (some ⟨g', 0, none⟩) (pre.length + 1) cap')) (w.heap.size + 1) (.int .i64 (x.2 : Int))
    have hown := hH3.out.2.2.2.2.1
    have hr0 : ∀ b, b < w.heap.size + 3 → (Value.slice (some ⟨g', 0, none⟩) (pre.length + 1) cap').ownBlock = none ∨ (Value.slice (some ⟨g', 0, none⟩) (pre.length + 1) cap').ownBlock ≠ some b := fun b hb' => .inr fun e => by
      have := (hown.lt b e).1; omega
    have hb5 : Below w.heap.size w _ := (hH3.out.2.1.setCell (p := ⟨w.heap.size, 0, none⟩) (Nat.le_refl _) (.slice (some ⟨g', 0, none⟩) (pre.length + 1) cap')).setCell (p := ⟨w.heap.size + 1, 0, none⟩) (by simp) (.int .i64 (x.2 : Int))
    have hbx := box_other (.int .i64 (x.2 : Int)) (box_set (.slice (some ⟨g', 0, none⟩) (pre.length + 1) cap') hH3.out.2.2.1) (show w.heap.size ≠ w.heap.size + 1 by omega)
    have hus := box_set (.int .i64 (x.2 : Int)) (box_other (.slice (some ⟨g', 0, none⟩) (pre.length + 1) cap') hH3.out.2.2.2.1 (show w.heap.size + 1 ≠ w.heap.size by omega))
    have hkp5 := (hH3.out.2.2.2.2.2.trans (keepsPriv_set (W := w3) (b := w.heap.size) (v := .slice (some ⟨g', 0, none⟩) (pre.length + 1) cap') (fun h => by rcases h with h | h <;> omega))).trans (keepsPriv_set (b := w.heap.size + 1) (v := .int .i64 (x.2 : Int)) (fun h => by rcases h with h | h <;> omega))
    refine ⟨((hH3.out.1.trans (KeepsOthers.setCell _ _ _)).trans (KeepsOthers.setCell _ _ _)).from _, hkp5, hb5, ?_, ⟨_, hbx, ?_⟩, ?_⟩
    · exact Nat.le_trans hBs (by have h1 := hH3.out.1.size; simpa [World.setCell] using h1)
    · have := (hown.kept hs1 (hr0 _ (by omega))).kept hs2 (hr0 _ (by omega))
      rw [List.length_append, List.map_append]
      exact this
    · rw [hus]
      simp [lastAt]
  case done =>
    intro D xs W hD hS hI hK
    obtain ⟨v, hv, ho⟩ := hI.box
    obtain ⟨p, c, rfl⟩ : ∃ p c, v = .slice p xs.length c := by
      rcases ho.2 with ⟨rfl, h0⟩ | ⟨g, cap, cur, rfl, _⟩
      · exact ⟨none, 0, by rw [h0]⟩
      · exact ⟨_, _, rfl⟩
    obtain ⟨c1, f1⟩ := box_cell hv
    obtain ⟨c2, f2⟩ := box_cell hI.used
    have hsame : W.setCell ⟨w.heap.size, 0, none⟩ (.slice p xs.length c) = W := setCell_same hv rfl
    have hle := hS.2
    have hex := extract_drop s (lastAt xs) s.length rfl
    have hszs : (⟨s.toArray⟩ : ByteArray).size = s.length := rfl
    have hH := Lib.hid (And.intro hI.below (And.intro hv (And.intro ho hS.1)))
    clear hI hv ho hS
    gi_wp2
    gi_region
    gi_wp2
    have hKd : W.drew.heap[D]? = some (.deferred (some [])) := hK
    refine ⟨by simp, .inl ⟨_, _, rfl, run_takeDeferred hKd, ?_⟩⟩
    have hg := World.grownBy.trans (grown_drewN W 1 (some D)) (grown_put W.drew D)
    have hv2 : (W.drew.putObj D (.deferred none)).heap[w.heap.size]? = some (.cells #[.slice p xs.length c] 64 (0, 0)) := (World.putObj_heap_other (by omega)).trans hH.out.2.1
    have hcl := (box_cell hv2).1
    have hbe : Below w.heap.size w W.drew := hH.out.1.trans ⟨rfl, rfl, rfl, Nat.le_refl _, fun _ _ => rfl⟩
    refine ⟨.tuple #[.slice p xs.length c, .string ⟨(s.drop (lastAt xs)).toArray⟩], by simp [results, Tryz.results175, go_sem, hcl], ⟨_, by rw [hH.out.2.2.2], ?_⟩, hbe.trans (belowK_b (w := w) (Nat.le_refl _) _ D _ _ (by omega) hKd rfl rfl)⟩
    rw [hH.out.2.2.2]
    have hn : (Value.slice p xs.length c).ownBlock = none ∨ (Value.slice p xs.length c).ownBlock ≠ some D := row_ne hH.out.2.2.1 (fun r e => by cases e; exact ⟨_, hK, fun cur e => by cases e⟩)
    have := hH.out.2.2.1.kept hg hn
    rw [List.length_map, List.map_map]
    exact this
end Go.Proofs.YtdlpdpelhkgnlaaGreatDoor
