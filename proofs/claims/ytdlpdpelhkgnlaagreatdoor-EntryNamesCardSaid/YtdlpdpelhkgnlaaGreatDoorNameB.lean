/- The contracts of package name: split and its iterator, May. -/
import Derived.Test.YtdlpdpelhkgnlaaGreatDoorProg
import Derived.Test.YtdlpdpelhkgnlaaGreatDoorPlain
import Derived.Test.YtdlpdpelhkgnlaaGreatDoorSeq
import Derived.Test.YtdlpdpelhkgnlaaGreatDoorNameA
import Derived.LoopTactic
import Derived.Outline
import Derived.Lib.Hide
import Derived.BigQuiet
import Derived.Deep.QuietTactic
import Derived.WalkLawsBesides
import Derived.WalkSpells
import Derived.ScopeJumps
import Derived.Shelf.Abstract
import Derived.Shelf.RegionOpen
import Derived.OwnWalkIn
import Derived.TacticsInMore
import Derived.LoopNIn
import Derived.LoopIn
import Derived.Test.YtdlpdpelhkgnlaaGreatDoorShelf
namespace Go.Proofs.YtdlpdpelhkgnlaaGreatDoor
open Go Go.RowKit Go.Shelf
attribute [local go_sem] Oper.semAt_some

/-- What the library's Cut asks of the package variables. -/
def Glob (w : World) : Prop := ∃ m : Int, w.cell? ⟨1, 0, none⟩ = some (.int .i64 m)
def str (l : Bytes) : Value := .string ⟨l.toArray⟩
/-- Blocks below n₀, and the iterator's own box. -/
def KB (n₀ b : Nat) (r : Nat) : Prop := r < n₀ ∨ r = b
theorem box_cell {W : World} {b : Nat} {v : Value} {t : TypeId} (h : W.heap[b]? = some (.cells #[v] t (0, 0))) : W.cell? ⟨b, 0, none⟩ = some v ∧ W.frozen? ⟨b, 0, none⟩ = false := by
  constructor <;> simp [World.cell?, World.frozen?, h]
theorem box_set {W : World} {b : Nat} {v : Value} {t : TypeId} (v' : Value) (h : W.heap[b]? = some (.cells #[v] t (0, 0))) : (W.setCell ⟨b, 0, none⟩ v').heap[b]? = some (.cells #[v'] t (0, 0)) := by
  simp [World.setCell, Array.getElem?_modify, h]
theorem grown_drewN (W : World) (n : Nat) (row : Option Nat) : W.grownBy (W.drewN n) row := ⟨rfl, rfl, rfl, Nat.le_refl _, fun _ _ _ => rfl⟩
theorem grown_set (W : World) (b : Nat) (v : Value) : W.grownBy (W.setCell ⟨b, 0, none⟩ v) (some b) :=
  ⟨rfl, rfl, rfl, by simp [World.setCell], fun k _ hk => Below.heap_setCell _ _ _ k (fun e => hk (by rw [e]))⟩

theorem callW {n : Nat} {P : Program} {f : FuncId} {args : Array Value} {w : World} {R : Ending → World → Prop} (h : Calls P f args w R) :
    Fence.wide.fn f ∧ ((Fence.wide.depth.isSome = true → 1 ≤ n) ∧ CallsIn Fence.wide (n - 1) P f args w R) := ⟨trivial, (fun h => by cases h), callsIn_wide.2 h⟩
theorem box_other {W : World} {b b' : Nat} {cs : Array Value} {t : TypeId} (v : Value) (h : W.heap[b]? = some (.cells cs t (0, 0))) (hne : b ≠ b') : (W.setCell ⟨b', 0, none⟩ v).heap[b]? = some (.cells cs t (0, 0)) :=
  (Below.heap_setCell W ⟨b', 0, none⟩ v b hne).trans h
theorem keepsPriv_set {Kb : Nat → Prop} {W : World} {b : Nat} {v : Value} (h : ¬ Kb b) : KeepsPriv Kb W (W.setCell ⟨b, 0, none⟩ v) :=
  ⟨by simp [World.setCell], fun r hr => Below.heap_setCell W ⟨b, 0, none⟩ v r (fun e => h (by rw [← show r = b from e]; exact hr))⟩
def boxLen (W : World) (b : Nat) : Nat := match W.cell? ⟨b, 0, none⟩ with | some (.string s) => s.size | _ => 0
theorem boxLen_eq {W : World} {b : Nat} {l : Bytes} {t : TypeId} (h : W.heap[b]? = some (.cells #[str l] t (0, 0))) : boxLen W b = l.length := by
  unfold boxLen; rw [(box_cell h).1]; simp [str, ByteArray.size]

set_option maxRecDepth 100000 in
set_option maxHeartbeats 1000000 in
theorem split1_in (n l Bs n₀ : Nat) (s : Bytes) (hs : s.length ≤ 253) (hgl : 1 < n₀) (hBn : n₀ ≤ Bs) (J Jx : List Bytes → World → Prop)
    (W : World) (hJ : AbidesP W.heap.size (· = Bs) J)
    (hY : ∀ pre x W1, J pre W1 → pre ++ [x] <+: parts 46 s → YieldAt Fence.wide (n - 1) Tryz.prog l #[str x] W1 fun e W' =>
      (e = .returned (.bool true) ∧ J (pre ++ [x]) W' ∧ KeepsPriv (KB n₀ Bs) W1 W') ∨ (e = .returned (.bool false) ∧ Jx (pre ++ [x]) W'))
    (hB : W.heap[Bs]? = some (.cells #[str s] 9 (0, 0))) (hg : Glob W) (h0 : J [] W) :
    CallsIn Fence.wide n Tryz.prog 178 #[.func (.yield l) #[] #[], .pointer (some ⟨Bs, 0, none⟩)] W fun e W' => (∃ v, e = .returned v) ∧
      ((∃ xs, xs = parts 46 s ∧ J xs W') ∨ (∃ pre, pre <+: parts 46 s ∧ Jx pre W')) := by
  refine callsIn_of_wp Tryz.func178 rfl trivial ?_ rfl
  simp only [Tryz.ntmps178, List.size_toArray, List.length_cons, List.length_nil, Nat.reduceAdd, Nat.reduceSub, Array.replicate_succ, Array.replicate_zero, List.push_toArray, List.append_toArray, List.nil_append, List.cons_append]
  gi_wp2
  gi_loopw [3] (fun _ wr => ∃ (pre : List Bytes) (rest : Bytes), parts 46 s = pre ++ parts 46 rest ∧ rest.length ≤ s.length ∧ wr.heap[Bs]? = some (.cells #[str rest] 9 (0, 0)) ∧ Glob wr ∧ W.heap.size ≤ wr.heap.size ∧ J pre wr)
    (fun _ wr => boxLen wr Bs)
  case atStart =>
    exact ⟨[], s, rfl, Nat.le_refl _, hB, hg, Nat.le_refl _, h0⟩
  case round =>
    obtain ⟨pre, rest, hp, hlen, hb, ⟨m, hm⟩, hsz, hj⟩ := hrel
    have HP := Lib.hid hp
    clear hp
    have hbl := boxLen_eq hb
    obtain ⟨hc, hf⟩ := box_cell hb
    unfold str at hc
    have hBlt : Bs < wr.heap.size := (Array.getElem?_eq_some_iff.1 hb).1
    have HBL := Lib.hid hbl
    clear hbl
    gi_wp2_with fail
    refine callW ((Tryz.strings_Cut _ _ m wr (by simp [ByteArray.size]; omega) hm).mono ?_)
    rintro e w' ⟨rfl, q, rfl⟩
    have hcut := parts_cut 46 rest
    have e0 : (⟨List.toArray rest⟩ : ByteArray).data.toList = rest := rfl
    have e1 : (⟨#[46]⟩ : ByteArray).data.toList = [46] := rfl
    rw [e0, e1]
    clear e0 e1
    generalize Lib.cut rest [46] = c at hcut ⊢
    obtain ⟨x, y, f⟩ := c
    dsimp only at hcut ⊢
    have hj1 := hJ pre wr (wr.drewN q) none hj (grown_drewN _ _ _) (fun r e => by cases e)
    have hlt : pre ++ [x] <+: parts 46 s := by
      rw [HP.out]
      rcases hcut with ⟨_, h, _⟩ | ⟨_, h, e⟩
      · rw [h]; exact ⟨parts 46 y, by simp⟩
      · rw [h]; exact ⟨[], by simp [e]⟩
    have hb1 : (wr.drewN q).heap[Bs]? = some (.cells #[str rest] 9 (0, 0)) := hb
    have hsz1 : W.heap.size ≤ (wr.drewN q).heap.size := hsz
    have hgl1 : (wr.drewN q).heap[1]? = wr.heap[1]? := rfl
    have HJ1 := Lib.hid (And.intro hj1 (And.intro hb1 hsz1))
    clear hj1 hb1 hsz1
    obtain ⟨fn, tmps, assign, body, hy, hR⟩ := hY pre x (wr.drewN q) HJ1.out.1 hlt
    unfold str at hy
    rcases hcut with ⟨rfl, hp1, hp2⟩ | ⟨rfl, hp1, rfl⟩
    all_goals have HP1 := Lib.hid hp1; clear hp1
    · gi_wp2_with fail
      refine ⟨(fun h => by cases h), hR.mono ?_⟩
      rintro e W3 (⟨rfl, hJ3, hk3⟩ | ⟨rfl, hJx3⟩)
      · have hb3 : W3.heap[Bs]? = some (.cells #[str rest] 9 (0, 0)) := (hk3.2 Bs (.inr rfl)).trans HJ1.out.2.1
        obtain ⟨hc3, hf3⟩ := box_cell hb3
        unfold str at hc3
        have hsz3 : W.heap.size ≤ W3.heap.size := Nat.le_trans HJ1.out.2.2 hk3.1
        have hg3 : Glob (W3.setCell ⟨Bs, 0, none⟩ (.string ⟨y.toArray⟩)) :=
          ⟨m, (World.cell?_of_block ((Below.heap_setCell W3 ⟨Bs, 0, none⟩ _ _ (by show 1 ≠ Bs; omega)).trans ((hk3.2 _ (.inl hgl)).trans hgl1))).trans hm⟩
        have HB3 := Lib.hid (And.intro hb3 hg3)
        clear hb3 hg3 hgl1 hc hf hm
        gi_wp2
        go_roundw
        case rel => exact ⟨pre ++ [x], y, by simp [HP.out, HP1.out], by omega, box_set _ HB3.out.1, HB3.out.2, by simpa [World.setCell] using hsz3, hJ (pre ++ [x]) W3 _ (some Bs) hJ3 (grown_set _ _ _) (fun r e => by cases e; exact .inr rfl)⟩
        case measure =>
          have e := boxLen_eq (l := y) (box_set (str y) HB3.out.1)
          rw [HBL.out]
          show boxLen (W3.setCell ⟨Bs, 0, none⟩ (str y)) Bs < _
          rw [e]; exact hp2
      · gi_wp2
        refine bodyPost_ret (results_none rfl _ _ _) rfl ?_
        exact ⟨⟨_, rfl⟩, .inr ⟨pre ++ [x], ⟨parts 46 y, by simp [HP.out, HP1.out]⟩, hJx3⟩⟩
    · gi_wp2_with fail
      refine ⟨(fun h => by cases h), hR.mono ?_⟩
      rintro e W3 (⟨rfl, hJ3, hk3⟩ | ⟨rfl, hJx3⟩)
      · gi_wp2
        refine bodyPost_ret (results_none rfl _ _ _) rfl ?_
        exact ⟨⟨_, rfl⟩, .inl ⟨pre ++ [x], by simp [HP.out, HP1.out], hJ3⟩⟩
      · gi_wp2
        refine bodyPost_ret (results_none rfl _ _ _) rfl ?_
        exact ⟨⟨_, rfl⟩, .inr ⟨pre ++ [x], ⟨[], by simp [HP.out, HP1.out]⟩, hJx3⟩⟩

theorem Glob.below {w w' : World} {n₀ : Nat} (h : Glob w) (hb : Below n₀ w w') (hn : 1 < n₀) : Glob w' := by
  obtain ⟨m, hm⟩ := h
  exact ⟨m, (hb.cell (p := ⟨_, 0, none⟩) hn).trans hm⟩
theorem split_stops (n Bs n₀ : Nat) (s : Bytes) (hs : s.length ≤ 253) (hgl : 1 < n₀) (hBn : n₀ ≤ Bs) (w : World) (hB : w.heap[Bs]? = some (.cells #[str s] 9 (0, 0))) (hg : Glob w) :
    SeqStopsP Fence.wide n Tryz.prog 178 #[.pointer (some ⟨Bs, 0, none⟩)] (fun x : Bytes => #[str x]) (KeepsPriv (KB n₀ Bs)) (· = Bs) (fun xs => xs = parts 46 s) (fun pre => pre <+: parts 46 s) (fun pre x => pre ++ [x] <+: parts 46 s) w := fun l J Jx W hW hJ hJx hY h0 => by
  have hlt := (Array.getElem?_eq_some_iff.1 hB).1
  exact split1_in n l Bs n₀ s hs hgl hBn J Jx W hJ hY ((hW.block Bs hlt).trans hB) (hg.below hW (by omega)) h0

set_option maxHeartbeats 400000 in
theorem split_in (n : Nat) (s : ByteArray) (w : World) :
    CallsIn Fence.wide n Tryz.prog 152 #[.string s] w fun e w' => e = .returned (.func (.func 178) #[] #[.pointer (some ⟨w.heap.size, 0, none⟩)]) ∧ w.alloc (.cells #[.string s] 9) = w' := by
  refine callsIn_of_wp Tryz.func152 rfl trivial ?_ rfl
  simp only [Tryz.ntmps152, List.size_toArray, List.length_cons, List.length_nil, Nat.reduceAdd, Nat.reduceSub, Array.replicate_succ, Array.replicate_zero, List.push_toArray, List.append_toArray, List.nil_append, List.cons_append]
  gi_wp2
  go_ret
  exact ⟨rfl, rfl⟩

theorem cell_lt {w : World} {a : Addr} {v : Value} (h : w.cell? a = some v) : a.block < w.heap.size := by
  obtain ⟨o, ho, _⟩ := cells_of_cell h
  exact (Array.getElem?_eq_some_iff.1 ho).1
theorem ha_ne {w : World} {o : Obj} {k : Nat} (h : k ≠ w.heap.size) : (w.alloc o).heap[k]? = w.heap[k]? := by
  show (w.heap.push o)[k]? = _
  rw [Array.getElem?_push, if_neg h]
theorem ha_eq {w : World} {o : Obj} {k : Nat} (h : k = w.heap.size) : (w.alloc o).heap[k]? = some o := by
  show (w.heap.push o)[k]? = _
  rw [Array.getElem?_push, if_pos h]
theorem str_of (s : ByteArray) : str s.data.toList = .string s := rfl

set_option maxRecDepth 100000 in
set_option maxHeartbeats 2000000 in
theorem nameMay_any (s : ByteArray) (w : World) (hs : s.size ≤ maxLen) (hg : Glob w) :
    Calls Tryz.prog 125 #[.string s] w fun e w' => e = .returned (.bool (mayB s.data.toList)) ∧ Below w.heap.size w w' := by
  unfold maxLen at hs
  by_cases hlong : 253 < s.size
  · go_enter Tryz.func125, Tryz.ntmps125
    go_wp2
    refine bodyPost_ret (v := .bool false) (by simp [results, Tryz.results125, go_sem]) rfl ⟨?_, (Below.refl _ _).alloc (Nat.le_refl _) _⟩
    have : mayB s.data.toList = false := by simp [mayB]; omega
    rw [this]
  · refine (callsIn_wide (n := 8)).1 ?_
    refine callsIn_of_wp_marks Tryz.func125 rfl trivial ?_ rfl
    simp only [Tryz.ntmps125, List.size_toArray, List.length_cons, List.length_nil, Nat.reduceAdd, Nat.reduceSub, Array.replicate_succ, Array.replicate_zero, List.push_toArray, List.append_toArray, List.nil_append, List.cons_append]
    gi_wp2_with fail
    refine ⟨trivial, (split_in 7 s _).mono ?_⟩
    rintro e w' ⟨rfl, hw⟩
    have hs1 : w'.heap.size = w.heap.size + 3 := by rw [← hw]; simp
    have hb0 : w'.heap[w.heap.size]? = some (.cells #[.bool false] 4 (0, 0)) := by rw [← hw, ha_ne (by simp; omega), ha_ne (by simp), ha_eq rfl]
    have hb1 : w'.heap[w.heap.size + 1]? = some (.cells #[.bool false] 4 (0, 0)) := by rw [← hw, ha_ne (by simp), ha_eq (by simp)]
    have hb2 : w'.heap[w.heap.size + 2]? = some (.cells #[str s.data.toList] 9 (0, 0)) := by rw [← hw, str_of, ha_eq (by simp)]
    have hbl : Below w.heap.size w w' := by rw [← hw]; exact (((Below.refl _ _).alloc (Nat.le_refl _) _).alloc (by simp) _).alloc (by simp; omega) _
    have hg' := hg.below hbl (by obtain ⟨m, hm⟩ := hg; have := cell_lt hm; exact this)
    simp only [World.size_alloc]
    clear hw
    gi_wp2_with fail
    have HD := Lib.hid (And.intro hb0 (And.intro hb1 (And.intro hb2 hg')))
    clear hb0 hb1 hb2 hg'
    refine wpIn_rangeFunc_Q (w0 := w') (Kb := KB w.heap.size (w.heap.size + 2)) (Pb := (· = w.heap.size + 2)) rfl (by decide) (gf := 178) (lb := #[.pointer (some ⟨w.heap.size + 2, 0, none⟩)]) rfl trivial (enters_of Tryz.func178 (by kernel_rfl) rfl)
      (split_stops 7 (w.heap.size + 2) w.heap.size s.data.toList (by simp; omega) (by obtain ⟨m, hm⟩ := hg; exact cell_lt hm) (by omega) w' HD.out.2.2.1 HD.out.2.2.2)
      (Below.refl _ _) (fun _ => rfl) (fun r hr => by rcases hr with h | h <;> omega) (fun r hr => by omega)
      (fun pre W => W.heap[w.heap.size]? = some (.cells #[.bool false] 4 (0, 0)) ∧ (W.heap[w.heap.size + 1]? = some (.cells #[.bool (pre.getLast?.any digB)] 4 (0, 0)) ∧ (Below w.heap.size w W ∧ pre.all labB = true)))
      (fun c pre W => W.heap[w.heap.size]? = some (.cells #[.bool false] 4 (0, 0)) ∧ (Below w.heap.size w W ∧ (c = .ret ∧ pre.all labB = false)))
      ((ownP_box (cs := fun _ => _) (by omega)).and ((ownP_box (cs := fun pre : List Bytes => _) (by omega)).and ((ownP_below (Nat.le_refl _) (by omega) (fun r h => by omega)).and (ownP_pure _ _ _))))
      (fun c => (ownP_box (cs := fun _ => _) (by omega)).and ((ownP_below (Nat.le_refl _) (by omega) (fun r h => by omega)).and (ownP_pure _ _ _)))
      ⟨HD.out.1, HD.out.2.1, hbl, rfl⟩ ?a1 ?assign ?body ?done ?stop
    case assign =>
      intro l x W K hK
      gi_wp2
      exact hK
    case body =>
      rintro l pre x W ⟨h1, h2, h3, h4⟩ hlen
      have hxl : x.length ≤ s.size := by
        have := parts_le 46 s.data.toList x (hlen.subset (by simp))
        simpa using this
      have HI := Lib.hid (And.intro h1 h2)
      obtain ⟨c1, f1⟩ := box_cell h1
      obtain ⟨c2, f2⟩ := box_cell h2
      have H4 := Lib.hid h4
      clear h1 h2 h4
      gi_wp2_with fail
      refine ⟨trivial, CallsIn.inRound l (callsIn_wide.2 ((label_any ⟨x.toArray⟩ W (by unfold maxLen; simp [ByteArray.size]; omega)).mono ?_))⟩
      rintro e w2 ⟨rfl, rfl⟩
      have e0 : (⟨List.toArray x⟩ : ByteArray).data.toList = x := rfl
      rw [e0]
      clear e0
      cases hlab : labB x
      · have HL := Lib.hid hlab
        clear hlab
        gi_wp2
        exact ⟨(KeepsOthers.setCell _ _ _).from _, box_set _ HI.out.1, h3.setCell (p := ⟨w.heap.size, 0, none⟩) (Nat.le_refl _) _, rfl, by rw [List.all_append, List.all_cons, HL.out]; simp⟩
      · have HL := Lib.hid hlab
        clear hlab
        gi_wp2
        exact ⟨(KeepsOthers.setCell _ _ _).from _, keepsPriv_set (fun h => by rcases h with h | h <;> omega), box_other _ HI.out.1 (by omega), by rw [List.getLast?_concat]; exact box_set _ HI.out.2, h3.setCell (p := ⟨w.heap.size + 1, 0, none⟩) (by simp) _, by rw [List.all_append, List.all_cons, HL.out, H4.out]; rfl⟩
    case done =>
      rintro D xs W hD rfl ⟨h1, h2, h3, h4⟩ hK
      have HI := Lib.hid h1
      obtain ⟨c1, f1⟩ := box_cell h1
      obtain ⟨c2, f2⟩ := box_cell h2
      have H4 := Lib.hid h4
      clear h1 h2 h4
      gi_wp2
      have hb1 := box_set (.bool !((parts 46 s.data.toList).getLast?.any digB)) HI.out
      have hK1 : (W.setCell ⟨w.heap.size, 0, none⟩ (.bool !((parts 46 s.data.toList).getLast?.any digB))).heap[D]? = some (.deferred (some [])) := (Below.heap_setCell W _ _ D (by show D ≠ w.heap.size; omega)).trans hK
      have hB := (h3.setCell (p := ⟨w.heap.size, 0, none⟩) (Nat.le_refl _) (.bool !((parts 46 s.data.toList).getLast?.any digB)))
      refine ⟨by simp, .inl ⟨_, _, rfl, run_takeDeferred hK1, ?_⟩⟩
      refine ⟨.bool (mayB s.data.toList), ?_, rfl, hB.trans (belowK_b (w := w) (Nat.le_refl _) _ D _ _ (by omega) hK1 rfl rfl)⟩
      have hm : mayB s.data.toList = !((parts 46 s.data.toList).getLast?.any digB) := by
        unfold mayB; rw [H4.out]; simp; omega
      rw [hm]
      have hc := (box_cell ((World.putObj_heap_other (o := .deferred none) (w := W.setCell ⟨w.heap.size, 0, none⟩ (.bool !((parts 46 s.data.toList).getLast?.any digB))) (k := w.heap.size) (r := D) (by omega)).trans hb1)).1
      simp [results, Tryz.results125, go_sem, hc]
    case stop =>
      rintro D c pre W hD hp ⟨h1, h3, rfl, h4⟩ hK
      have HI := Lib.hid h1
      have H4 := Lib.hid h4
      clear h1 h4
      gi_wp2
      refine ⟨by simp, .inl ⟨_, _, rfl, run_takeDeferred hK, ?_⟩⟩
      refine ⟨.bool (mayB s.data.toList), ?_, rfl, h3.trans (belowK_b (w := w) (Nat.le_refl _) _ D _ _ (by omega) hK rfl rfl)⟩
      have hm : mayB s.data.toList = false := by
        have : (parts 46 s.data.toList).all labB = false := by
          obtain ⟨r, hr⟩ := hp
          rw [← hr, List.all_append, H4.out]; rfl
        unfold mayB; rw [this]; simp
      rw [hm]
      have hc := (box_cell ((World.putObj_heap_other (o := .deferred none) (w := W) (k := w.heap.size) (r := D) (by omega)).trans HI.out)).1
      simp [results, Tryz.results125, go_sem, hc]
end Go.Proofs.YtdlpdpelhkgnlaaGreatDoor
