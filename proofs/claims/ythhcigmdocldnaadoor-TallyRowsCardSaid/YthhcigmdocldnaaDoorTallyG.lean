/- The contracts of package tally: slices.AppendSeq over places. -/
import Derived.Test.YthhcigmdocldnaaDoorTallyF
namespace Go.Proofs.YthhcigmdocldnaaDoor
open Go Go.RowKit Go.Shelf Go.Sort

theorem keys_stops (n Bm b : Nat) (l : Ent) (w : World) (hm : w.cell? ⟨Bm, 0, none⟩ = some (.map (some b))) (hmap : MapAt w b eK eV l) :
    SeqStopsP Fence.wide n Tryd.prog 58 #[.pointer (some ⟨Bm, 0, none⟩)] (fun x : Bytes × Nat => #[eK x]) KeepsWalks (fun _ => False) (fun xs => xs.Perm (l.map (·.1))) (fun _ => True) (fun pre _ => pre.length < l.length) w := fun lv J Jx W hW hJ hJx hY h0 =>
  keys1_in n lv Bm b l J Jx W hJ hY ((hW.cell (cell_lt hm)).trans hm) (hmap.below hW hmap.lt) h0

def pcells (p : Bytes × Nat) : List Value := [str p.1, .int .u8 (p.2 : Int)]
def pc (ps : List (Bytes × Nat)) : List Value := ps.flatMap pcells
theorem pc_snoc (ps : List (Bytes × Nat)) (p : Bytes × Nat) : pc (ps ++ [p]) = pc ps ++ pcells p := by simp [pc]
theorem infoP : (Tryd.prog.info? 78).map (fun i => (i.zero, i.size, i.bytes)) = some (some (.agg #[.string ⟨#[]⟩, .int .u8 0]), 2, 24) := by kernel_rfl

structure ApI (w : World) (Bs : Nat) (pre : List (Bytes × Nat)) (W : World) : Prop where
  below : Below w.heap.size w W
  box : ∃ v, W.heap[Bs]? = some (.cells #[v] 75 (0, 0)) ∧ W.ownsRow w.heap.size 78 2 v pre.length (pc pre) ∧ (v = .slice none 0 0 ↔ pre = [])

theorem row_ne {W : World} {base : Nat} {e : TypeId} {size : Nat} {v : Value} {k : Nat} {xs : List Value} (h : W.ownsRow base e size v k xs) {row : Option Nat} (hr : ∀ r, row = some r → ∃ o : Obj, W.heap[r]? = some o ∧ ∀ cur, o ≠ .cells cur e (0, 0)) : v.ownBlock = none ∨ v.ownBlock ≠ row := by
  rcases h.2 with ⟨rfl, _⟩ | ⟨g, cap, cur, rfl, _, hgb, _⟩
  · exact .inl rfl
  · refine .inr fun e' => ?_
    obtain ⟨o, ho, hn⟩ := hr g (by simpa [Value.ownBlock] using e'.symm)
    rw [hgb] at ho; cases ho; exact hn cur rfl
theorem row_cells {W : World} {base : Nat} {e : TypeId} {size : Nat} {v : Value} {k : Nat} {xs : List Value} (h : W.ownsRow base e size v k xs) : ∀ (j : Nat) (o : Obj), v.ownBlock = some j → W.heap[j]? = some o → o.isCells = true := by
  intro j o hj ho
  rcases h.2 with ⟨rfl, _⟩ | ⟨g, cap, cur, rfl, _, hgb, _⟩
  · simp [Value.ownBlock] at hj
  · have : g = j := by simpa [Value.ownBlock] using hj
    subst this; rw [hgb] at ho; cases ho; rfl
theorem ownP_ap {w : World} {Bs B : Nat} (hB : w.heap.size ≤ B) : OwnP B (fun _ => False) (ApI w Bs) := fun s W W' row h hg hr => by
  obtain ⟨v, hv, ho, hn⟩ := h.box
  refine ⟨h.below.grown hg h.below.size (fun k e => by rcases hr k e with h | h; exact Nat.le_trans hB h.1; exact h.elim), v, ?_, ho.kept hg (row_ne ho (fun r e => ?_)), hn⟩
  · exact (hg.block Bs (Array.getElem?_eq_some_iff.1 hv).1 (fun e => by
      rcases hr Bs e.symm with ⟨_, o, ho, hc⟩ | h
      · rw [hv] at ho; cases ho; cases hc
      · exact h)).trans hv
  · rcases hr r e with ⟨_, o, ho, hc⟩ | h
    · exact ⟨o, ho, fun cur e => by rw [e] at hc; cases hc⟩
    · exact h.elim
theorem cell_two {w : World} {x y : Value} {t : TypeId} {k : Nat} (hk : k = w.heap.size) : ∀ j u, [x, y][j]? = some u → (w.alloc (.cells #[x, y] t)).cell? ((⟨k, 0, none⟩ : Addr).add j) = some u := by
  subst hk
  intro j u hj
  match j, hj with
  | 0, hj => simp at hj; subst hj; simp [Addr.add]
  | 1, hj => simp at hj; subst hj; simp [Addr.add]

def ApX (gf : Nat) (lb : Array Value) (Bs : Nat) (x : Bytes × Nat) (a' : Act) (W : World) : Prop :=
  ∃ Bv, a' = { tmps := #[.slice none 0 0, .func (.func gf) #[] lb, .pointer (some ⟨Bs, 0, none⟩), undef, .slice none 0 0, .pointer (some ⟨Bv, 0, none⟩), .func (.func gf) #[] lb, .agg #[str x.1, .int .u8 (x.2 : Int)], undef, undef, undef, undef, undef], defers := [] } ∧ W.heap[Bv]? = some (.cells #[str x.1, .int .u8 (x.2 : Int)] 78 (0, 0))
theorem ownP_apx {gf : Nat} {lb : Array Value} {Bs B : Nat} {x : Bytes × Nat} {a' : Act} : OwnP B (fun _ => False) (fun (_ : Unit) W => ApX gf lb Bs x a' W) := fun s W W' row h hg hr => by
  obtain ⟨Bv, e, hb⟩ := h
  exact ⟨Bv, e, (hg.block Bv (Array.getElem?_eq_some_iff.1 hb).1 (fun e => by
      rcases hr Bv e.symm with ⟨_, o, ho, hc⟩ | h
      · rw [hb] at ho; cases ho; cases hc
      · exact h)).trans hb⟩

set_option maxRecDepth 100000 in
set_option maxHeartbeats 2000000 in
theorem appendSeq_in (n N gf : Nat) (lb : Array Value) (hN : N ≤ 1000000) (h1 : 1 ≤ n) (eg : ∀ args w, (callFunc gf args).run Tryd.prog w = .ok (.enter gf args) w) (S : List (Bytes × Nat) → Prop) (w : World)
    (hseq : ∀ w', Below w.heap.size w w' → SeqStopsP Fence.wide (n - 1) Tryd.prog gf lb (fun x : Bytes × Nat => #[eK x]) KeepsWalks (fun _ => False) S (fun _ => True) (fun pre _ => pre.length < N) w') :
    CallsIn Fence.wide n Tryd.prog 72 #[.slice none 0 0, .func (.func gf) #[] lb] w fun e w' => ∃ (v : Value) (ps : List (Bytes × Nat)), e = .returned v ∧ S ps ∧ w'.ownsRow w.heap.size 78 2 v ps.length (pc ps) ∧ (v = .slice none 0 0 ↔ ps = []) ∧ Below w.heap.size w w' := by
  obtain ⟨i0, hi0, hz0, hz1, hz2⟩ := info_parts infoP
  refine callsIn_of_wp_marks Tryd.func72 rfl trivial ?_ rfl
  simp only [Tryd.ntmps72, List.size_toArray, List.length_cons, List.length_nil, Nat.reduceAdd, Nat.reduceSub, Array.replicate_succ, Array.replicate_zero, List.push_toArray, List.append_toArray, List.nil_append, List.cons_append]
  gi_wp2_with fail
  obtain ⟨W0, hW0⟩ : ∃ W0, W0 = w.alloc (.cells #[.slice none 0 0] 75) := ⟨_, rfl⟩
  have hs0 : W0.heap.size = w.heap.size + 1 := by rw [hW0]; simp
  have hv0 : W0.heap[w.heap.size]? = some (.cells #[.slice none 0 0] 75 (0, 0)) := by rw [hW0]; exact World.alloc_heap_new w _
  have hb0 : Below w.heap.size w W0 := by rw [hW0]; exact (Below.refl _ w).alloc (Nat.le_refl _) _
  rw [← hW0]
  clear hW0
  refine wpIn_rangeFunc_P (w0 := W0) (encs := fun x : Bytes × Nat => #[eK x]) (Kp := KeepsWalks) (Pb := fun _ => False) (S := S) (Sp := fun _ => True) (Y := fun pre _ => pre.length < N) rfl h1 (gf := gf) (lb := lb) rfl trivial eg (hseq W0 hb0) (fun h k => h.trans k)
    (fun W lv o o' hl ho hc hw => KeepsWalks.putObj _ ho hw) (Below.refl _ _) (fun _ => rfl) (fun r h => h.elim) (ApI w w.heap.size) (fun _ _ _ => False) (ownP_ap (by omega)) (fun c => fun _ _ _ _ h _ _ => h) ⟨hb0, _, hv0, ⟨rfl, .inl ⟨rfl, rfl⟩⟩, by simp⟩ (ApX gf lb w.heap.size) (fun x a' => ownP_apx) ?assign ?body ?done ?stop
  case assign =>
    intro lv pre x W K hI hK
    unfold eK str
    gi_wp2_with (rw [Oper.semAt_eq _ _ _ (fun c h => by cases h)]; go_simp; try go_bits)
    exact hK _ _ ((KeepsOthers.alloc _ _).from _) (KeepsWalks.alloc _ _) ((ownP_ap (by omega) : OwnP W0.heap.size _ _).alloc _ hI) ⟨W.heap.size, rfl, ha_eq rfl⟩
  case stop =>
    intro D c pre W hD _ hf hK
    exact hf.elim
  case body =>
    intro lv pre x a' W hlv hloop hI ha hlen
    obtain ⟨Bv, rfl, hBv⟩ := ha
    obtain ⟨v, hv, ho, hn⟩ := hI.box
    obtain ⟨c1, f1⟩ := box_cell hv
    have d0 : W.cell? ⟨Bv, 0, none⟩ = some (str x.1) := by simp [World.cell?, hBv]
    have d1 : W.cell? ⟨Bv, 1, none⟩ = some (.int .u8 (x.2 : Int)) := by simp [World.cell?, hBv]
    unfold str at d0
    have hbox := hI.below.size
    have hHI := Lib.hid (And.intro hI.below (And.intro hBv (And.intro hv (And.intro ho hn))))
    clear hI hBv hv ho hn
    gi_wp2_with (first | (gi_at_builtin; refine Bx.h ?_) | rw [Oper.semAt_eq _ _ _ (fun c h => by cases h)]; go_simp; try go_bits)
    refine ⟨?_⟩
    refine wpListIn_append_own _ rfl _ _ 75 rfl w.heap.size 78 i0 (.agg #[.string ⟨#[]⟩, .int .u8 0]) 2 24 Tryd.underlying75 hi0 hz0 hz1 hz2 rfl (by decide) _ _ _ rfl (hHI.out.2.2.2.1.alloc _) ⟨W.heap.size, 0, none⟩ 1 1 (pcells x) rfl rfl (cell_two rfl) (by simp [pcells, str, Value.oneCell']) (by unfold maxLen; omega) (by omega) (by simp; omega) ?_
    intro v' w3 hown3 hgrow3 hnil3
    replace hgrow3 : (W.alloc _).grownBy w3 v.ownBlock := hgrow3
    obtain ⟨g', cap', rfl⟩ : ∃ g' cap', v' = .slice (some ⟨g', 0, none⟩) (pre.length + 1) cap' := by
      rcases hown3.2 with ⟨_, h0⟩ | ⟨g, cap, _, h, _⟩
      · exact absurd h0 (by omega)
      · exact ⟨g, cap, h⟩
    clear hnil3
    obtain ⟨hb, hBv, hv, ho, hn⟩ := hHI.out
    have hBs : w.heap.size < W.heap.size := (Array.getElem?_eq_some_iff.1 hv).1
    have hrne : v.ownBlock = none ∨ v.ownBlock ≠ some w.heap.size := row_ne ho (fun r e => by cases e; exact ⟨_, hv, fun cur e => by cases e⟩)
    have hv3 : w3.heap[w.heap.size]? = some (.cells #[v] 75 (0, 0)) := by
      rw [hgrow3.block w.heap.size (by simp; omega) (fun e => by
        rcases hrne with h | h
        · rw [h] at e; cases e
        · exact h e.symm), ha_ne (by omega)]
      exact hv
    obtain ⟨c3, f3⟩ := box_cell hv3
    have hx : W.grownBy w3 v.ownBlock := World.grownBy.trans (World.grownBy_alloc _ _ _) hgrow3
    have hw3 : KeepsOthers W w3 := KeepsOthers.of_grownBy hx (row_cells ho)
    have hb3 : Below w.heap.size w w3 := hb.grown hx hb.size (fun k e => (ho.lt k e).1)
    have hH3 := Lib.hid (And.intro hw3 (And.intro hb3 (And.intro hv3 hown3)))
    clear hown3 hgrow3 hb hBv hv ho hn hrne hv3 hx hw3 hb3 c1 f1 d0 d1 hHI
    gi_wp2_with (rw [Oper.semAt_eq _ _ _ (fun c h => by cases h)]; go_simp; try go_bits)
    have hst := grown_set w3 w.heap.size (.slice (some ⟨g', 0, none⟩) (pre.length + 1) cap')
    have hr3 : (Value.slice (some ⟨g', 0, none⟩) (pre.length + 1) cap').ownBlock = none ∨ (Value.slice (some ⟨g', 0, none⟩) (pre.length + 1) cap').ownBlock ≠ some w.heap.size := row_ne hH3.out.2.2.2 (fun r e => by cases e; exact ⟨_, hH3.out.2.2.1, fun cur e => by cases e⟩)
    refine ⟨(hH3.out.1.trans (KeepsOthers.setCell _ _ _)).from _, (hH3.out.1.trans (KeepsOthers.setCell _ _ _)).walks, hH3.out.2.1.grown hst hH3.out.2.1.size (fun k e => by cases e; exact Nat.le_refl _), _, box_set _ hH3.out.2.2.1, ?_, by simp⟩
    rw [pc_snoc, List.length_append]
    exact hH3.out.2.2.2.kept hst hr3
  case done =>
    intro D xs W hD hS hI hK
    obtain ⟨v, hv, ho, hn⟩ := hI.box
    obtain ⟨c1, f1⟩ := box_cell hv
    have hH := Lib.hid (And.intro hI.below (And.intro hv (And.intro ho hn)))
    clear hI hv ho hn
    gi_wp2
    refine ⟨by simp, .inl ⟨_, _, rfl, run_takeDeferred hK, ?_⟩⟩
    have hg := grownBy_putObj' W D (.deferred none)
    exact ⟨_, results_tmp rfl _ _ _, v, xs, rfl, hS, hH.out.2.2.1.kept (grownBy_putObj' W D _) (row_ne hH.out.2.2.1 (fun r e => by cases e; exact ⟨_, hK, fun cur e => by cases e⟩)), hH.out.2.2.2, hH.out.1.grown (grownBy_putObj' W D _) hH.out.1.size (fun k e => by cases e; omega)⟩
end Go.Proofs.YthhcigmdocldnaaDoor
