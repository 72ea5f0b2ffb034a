/- entry.Make. -/
import Derived.Test.YtdlpdpelhkgnlaaGreatDoorEcopy
import Derived.Test.YtdlpdpelhkgnlaaGreatDoorEget
import Derived.Test.YtdlpdpelhkgnlaaGreatDoorEenc
import Derived.Deep.RegionHeld3
import Derived.Laws.MakeOwn
namespace Go.Proofs.YtdlpdpelhkgnlaaGreatDoor
open Go Go.RowKit Go.Shelf Go.Sort
attribute [local go_sem] bneI

theorem infoJo : (Tryz.prog.info? 40).map (fun i => (i.zero, i.size, i.bytes)) = some (some (.agg #[.string ⟨#[]⟩, .int .i64 0, .int .i64 0]), 3, 32) := by kernel_rfl
theorem infoF : (Tryz.prog.info? 42).map (fun i => (i.zero, i.size, i.bytes)) = some (some (.agg #[.int .u8 0, .string ⟨#[]⟩]), 2, 24) := by kernel_rfl
/-- The entry that is copied. -/
def preN (id at_ : Int) (m : MailP) : EntP := ⟨id, at_, m, plainM m, List.replicate m.rcpts.length (0, []), []⟩
def makeN (id at_ : Int) (m : MailP) : EntP := ⟨id, at_, m, plainM m, List.replicate m.rcpts.length (0, []), (domsM m.rcpts).map fun d => ⟨d, 0, at_⟩⟩
def zeroF (n : Nat) : Array Value := madeCells #[.int .u8 0, .string ⟨#[]⟩] (n * 2)
theorem make_run (n : Nat) (W : World) (hn : n ≤ 1000000) : (Instr.makeSlice 25 (.int .i64 (n : Int)) (.int .i64 (n : Int))).run Tryz.prog W = .ok (.slice (some ⟨W.heap.size, 0, none⟩) n n) (W.alloc (.cells (zeroF n) 42)) := by
  obtain ⟨i0, hi, hz0, hz1, hz2⟩ := info_parts infoF
  have h := run_makeSlice (P := Tryz.prog) W 25 42 i0 _ Tryz.underlying25 hi hz0 .i64 .i64 (n : Int) (n : Int) (by omega) (Int.le_refl _) (by rw [hz1]; simp; omega) (by rw [hz2]; omega) (by omega)
  rw [hz1] at h
  unfold zeroF
  simpa [Value.cells] using h
theorem zeroF_get (n k : Nat) (h : k < n * 2) : (zeroF n)[k]? = some (if k % 2 = 0 then .int .u8 0 else .string ⟨#[]⟩) := by
  unfold zeroF madeCells
  rw [Array.getElem?_map, Array.getElem?_range, if_pos h]
  have h2 : k % 2 < 2 := Nat.mod_lt _ (by decide)
  by_cases e : k % 2 = 0
  · rw [if_pos e]
    simp [e]
  · rw [if_neg e]
    have : k % 2 = 1 := by omega
    simp [this]
theorem zeroRow {W : World} {g n : Nat} (h : W.heap[g]? = some (.cells (zeroF n) 42 (0, 0))) : RowK 2 faE W (.slice (some ⟨g, 0, none⟩) n n) (List.replicate n ((0, []) : FaP)) := by
  refine ⟨some ⟨g, 0, none⟩, n, by rw [List.length_replicate], by rw [List.length_replicate]; exact Nat.le_refl _, fun _ => ⟨g, 0, rfl, fun i hi j u hu => ?_⟩⟩
  rw [List.length_replicate] at hi
  rw [List.getElem_replicate] at hu
  have hj := (List.getElem?_eq_some_iff.1 hu).1
  have hj2 : j < 2 := hj
  have hk := zeroF_get n (i * 2 + j) (by omega)
  simp only [World.cell?, h, Nat.zero_add]
  have hcases : (j = 0 ∧ u = .int .u8 0) ∨ (j = 1 ∧ u = .string ⟨#[]⟩) := by
    match j, hj2, hu with
    | 0, _, hu => simp [faE] at hu; exact .inl ⟨rfl, hu.symm⟩
    | 1, _, hu => simp [faE] at hu; exact .inr ⟨rfl, hu.symm⟩
  rcases hcases with ⟨rfl, rfl⟩ | ⟨rfl, rfl⟩
  · rw [if_pos (by omega)] at hk
    simpa using hk
  · rw [if_neg (by omega)] at hk
    simpa using hk
theorem shortPre {id at_ : Int} {m : MailP} (h : ShortM m) : ShortE (preN id at_ m) := ⟨h, by simp [preN]; exact h.rcpts, by simp [preN], fun f hf => by rw [List.eq_of_mem_replicate hf]; decide, fun f hf => by rw [List.eq_of_mem_replicate hf]; decide, fun j hj => by cases hj⟩
abbrev setAll (W : World) (b : Nat) (v0 v1 v2 v3 v4 v5 v6 v7 v8 v9 : Value) : World :=
  (((((((((W.setCell ⟨b, 0, none⟩ v0).setCell ⟨b, 1, none⟩ v1).setCell ⟨b, 2, none⟩ v2).setCell ⟨b, 3, none⟩ v3).setCell ⟨b, 4, none⟩ v4).setCell ⟨b, 5, none⟩ v5).setCell ⟨b, 6, none⟩ v6).setCell ⟨b, 7, none⟩ v7).setCell ⟨b, 8, none⟩ v8).setCell ⟨b, 9, none⟩ v9
theorem setAll_below {n : Nat} {W1 W : World} {b : Nat} (h : Below n W1 W) (hb : n ≤ b) (v0 v1 v2 v3 v4 v5 v6 v7 v8 v9 : Value) : Below n W1 (setAll W b v0 v1 v2 v3 v4 v5 v6 v7 v8 v9) :=
  (((((((((h.setCell (p := ⟨b, 0, none⟩) hb _).setCell (p := ⟨b, 1, none⟩) hb _).setCell (p := ⟨b, 2, none⟩) hb _).setCell (p := ⟨b, 3, none⟩) hb _).setCell (p := ⟨b, 4, none⟩) hb _).setCell (p := ⟨b, 5, none⟩) hb _).setCell (p := ⟨b, 6, none⟩) hb _).setCell (p := ⟨b, 7, none⟩) hb _).setCell (p := ⟨b, 8, none⟩) hb _).setCell (p := ⟨b, 9, none⟩) hb _
theorem setAll_box {W : World} {b : Nat} {z0 z1 z2 z3 z4 z5 z6 z7 z8 z9 : Value} {t : TypeId} (h : W.heap[b]? = some (.cells #[z0, z1, z2, z3, z4, z5, z6, z7, z8, z9] t (0, 0))) (v0 v1 v2 v3 v4 v5 v6 v7 v8 v9 : Value) :
    (setAll W b v0 v1 v2 v3 v4 v5 v6 v7 v8 v9).heap[b]? = some (.cells #[v0, v1, v2, v3, v4, v5, v6, v7, v8, v9] t (0, 0)) := by
  have h := heap_setE (off := 9) (v := v9) (heap_setE (off := 8) (v := v8) (heap_setE (off := 7) (v := v7) (heap_setE (off := 6) (v := v6) (heap_setE (off := 5) (v := v5) (heap_setE (off := 4) (v := v4) (heap_setE (off := 3) (v := v3) (heap_setE (off := 2) (v := v2) (heap_setE (off := 1) (v := v1) (heap_setE (off := 0) (v := v0) h)))))))))
  simp only [List.setIfInBounds_toArray, List.set_cons_succ, List.set_cons_zero] at h
  exact h
theorem own_set {W : World} {base b : Nat} {T : TypeId} {k : Nat} {v : Value} {n : Nat} {xs : List Value} {cs : Array Value} (h : W.ownsRow base T k v n xs) (hb : W.heap[b]? = some (.cells cs 32 (0, 0))) (hT : T ≠ 32) (v0 v1 v2 v3 v4 v5 v6 v7 v8 v9 : Value) : (setAll W b v0 v1 v2 v3 v4 v5 v6 v7 v8 v9).ownsRow base T k v n xs := by
  have hne : v.ownBlock = none ∨ v.ownBlock ≠ some b := by
    rcases h.2 with ⟨rfl, _⟩ | ⟨g, cap, cur, rfl, _, hg, _⟩
    · exact .inl rfl
    · refine .inr fun e => ?_
      have : g = b := by simpa [Value.ownBlock] using e
      subst this
      rw [hg] at hb
      injection hb with hb
      injection hb with _ hb _
      exact hT hb
  have s : ∀ (W : World) (o : Nat) (u : Value), W.grownBy (W.setCell ⟨b, o, none⟩ u) (some b) := fun W o u => ⟨rfl, rfl, rfl, by simp [World.setCell], fun k _ hk => Below.heap_setCell _ _ _ k (fun e => hk (by rw [e]))⟩
  exact (((((((((h.kept (s _ _ _) hne).kept (s _ _ _) hne).kept (s _ _ _) hne).kept (s _ _ _) hne).kept (s _ _ _) hne).kept (s _ _ _) hne).kept (s _ _ _) hne).kept (s _ _ _) hne).kept (s _ _ _) hne).kept (s _ _ _) hne
/-- What the first lines of Make leave. -/
structure MkEnd (W1 : World) (x : EntP) (bx : Nat) (sv fv jv : Value) (T : World) : Prop where
  below : Below W1.heap.size W1 T
  box : T.heap[bx]? = some (.cells (entC x sv fv jv).toArray 32 (0, 0))
  ge : W1.heap.size ≤ bx
  own : OwnE T W1.heap.size x sv fv jv
theorem mk_ownA {W1 Wz wc : World} {id at_ : Int} {m : MailP} {sv jv : Value} {p2 : Option Addr} {c2 n : Nat} {o : Obj} (h : OwnE wc Wz.heap.size (preN id at_ m) sv (.slice p2 n c2) jv) (hn : n = m.rcpts.length) (hz : W1.heap.size ≤ Wz.heap.size) : OwnE (wc.alloc o) W1.heap.size (preN id at_ m) sv (.slice p2 m.rcpts.length c2) jv := by
  subst hn
  have k : ∀ {T : TypeId} {s : Nat} {v : Value} {n : Nat} {xs : List Value}, wc.ownsRow Wz.heap.size T s v n xs → (wc.alloc o).ownsRow W1.heap.size T s v n xs := fun h => ownsRow_less (h.kept (World.grownBy_alloc wc o none) (Classical.em _)) hz
  exact ⟨k h.rc, k h.fa, k h.jo⟩
theorem mk_ownB {W1 Wz wc : World} {id at_ : Int} {m : MailP} {sv jv : Value} {p2 : Option Addr} {c2 n b : Nat} {cs : Array Value} {v0 v1 v2 v3 v4 v5 v6 v7 v8 v9 : Value} (h : OwnE wc Wz.heap.size (preN id at_ m) sv (.slice p2 n c2) jv) (hn : n = m.rcpts.length) (hz : W1.heap.size ≤ Wz.heap.size) (hb : wc.heap[b]? = some (.cells cs 32 (0, 0))) : OwnE (setAll wc b v0 v1 v2 v3 v4 v5 v6 v7 v8 v9) W1.heap.size (preN id at_ m) sv (.slice p2 m.rcpts.length c2) jv := by
  subst hn
  exact ⟨ownsRow_less (own_set h.rc hb (by decide) _ _ _ _ _ _ _ _ _ _) hz, ownsRow_less (own_set h.fa hb (by decide) _ _ _ _ _ _ _ _ _ _) hz, ownsRow_less (own_set h.jo hb (by decide) _ _ _ _ _ _ _ _ _ _) hz⟩
/-- Rows of different types do not share a block. -/
theorem own_apart {w : World} {a b : Nat} {S T : TypeId} {j k : Nat} {u v : Value} {m n : Nat} {xs ys : List Value} (h : w.ownsRow a S j u m xs) (g : w.ownsRow b T k v n ys) (hne : S ≠ T) : u.ownBlock = none ∨ u.ownBlock ≠ v.ownBlock := by
  rcases h.2 with ⟨rfl, _⟩ | ⟨p, c1, cur1, rfl, _, h1, _⟩
  · exact .inl rfl
  · refine .inr fun e => ?_
    rcases g.2 with ⟨rfl, _⟩ | ⟨q, c2, cur2, rfl, _, h2, _⟩
    · simp [Value.ownBlock] at e
    · have e2 : p = q := by simpa [Value.ownBlock] using e
      subst e2
      rw [h1] at h2
      injection h2 with h2
      injection h2 with _ h2 _
      exact hne h2
theorem own_set1 {W : World} {base b o : Nat} {T S : TypeId} {k : Nat} {v u : Value} {n : Nat} {xs : List Value} {cs : Array Value} (h : W.ownsRow base T k v n xs) (hb : W.heap[b]? = some (.cells cs S (0, 0))) (hT : T ≠ S) : (W.setCell ⟨b, o, none⟩ u).ownsRow base T k v n xs := by
  refine h.kept (row := some b) ⟨rfl, rfl, rfl, by simp [World.setCell], fun k _ hk => Below.heap_setCell _ _ _ k (fun e => hk (by rw [e]))⟩ ?_
  rcases h.2 with ⟨rfl, _⟩ | ⟨g, cap, cur, rfl, _, hg, _⟩
  · exact .inl rfl
  · refine .inr fun e => ?_
    have e2 : g = b := by simpa [Value.ownBlock] using e
    subst e2
    rw [hg] at hb
    injection hb with hb
    injection hb with _ hb _
    exact hT hb
def addN (id at_ : Int) (m : MailP) (D : List Bytes) : EntP := ⟨id, at_, m, plainM m, List.replicate m.rcpts.length (0, []), D.map fun d => ⟨d, 0, at_⟩⟩
/-- The entry under way, with the jobs of the first domains. -/
structure MkL (W1 : World) (x : EntP) (D : List Bytes) (bx : Nat) (sv fv dv jv : Value) (wr : World) : Prop where
  below : Below W1.heap.size W1 wr
  box : wr.heap[bx]? = some (.cells (entC x sv fv jv).toArray 32 (0, 0))
  ge : W1.heap.size ≤ bx
  own : OwnE wr W1.heap.size x sv fv jv
  dom : wr.ownsRow W1.heap.size 9 1 dv D.length (D.map str)
theorem MkL.box5 {W1 : World} {x : EntP} {D : List Bytes} {bx : Nat} {sv fv dv jv : Value} {wr w5 : World} {o : Obj} (h : MkL W1 x D bx sv fv dv jv wr) (hg : (wr.alloc o).grownBy w5 jv.ownBlock) : w5.heap[bx]? = some (.cells (entC x sv fv jv).toArray 32 (0, 0)) := by
  have hg2 : wr.grownBy w5 jv.ownBlock := (World.grownBy_alloc _ _ _).trans hg
  have hjo : jv.ownBlock ≠ some bx := by
    intro e
    rcases h.own.jo.2 with ⟨rfl, _⟩ | ⟨g, cap, cur, rfl, _, hg, _⟩
    · simp [Value.ownBlock] at e
    · have e2 : g = bx := by simpa [Value.ownBlock] using e
      subst e2
      have hb := h.box
      rw [hg] at hb
      injection hb with hb
      injection hb with _ hb _
      exact absurd hb (by decide)
  have hlt : bx < wr.heap.size := (Array.getElem?_eq_some_iff.1 h.box).1
  rw [hg2.block bx hlt (fun e => hjo e.symm)]
  exact h.box
theorem MkL.step {W1 : World} {id at_ : Int} {m : MailP} {D : List Bytes} {i : Nat} {d : Bytes} {bx : Nat} {sv fv dv jv jv' : Value} {wr w5 : World} {o : Obj} {ys : List Value} (h : MkL W1 (addN id at_ m (D.take i)) D bx sv fv dv jv wr) (hd : D[i]? = some d)
    (hg : (wr.alloc o).grownBy w5 jv.ownBlock) (ho : w5.ownsRow W1.heap.size 40 3 jv' (i + 1) ys) (hys : ys = ((D.take i).map fun d => (⟨d, 0, at_⟩ : JoP)).flatMap joE ++ [.string ⟨d.toArray⟩, .int .i64 0, .int .i64 at_]) :
    MkL W1 (addN id at_ m (D.take (i + 1))) D bx sv fv dv jv' (w5.setCell ⟨bx, 9, none⟩ jv') := by
  have hi : i < D.length := (List.getElem?_eq_some_iff.1 hd).1
  have hdi : D[i] = d := (List.getElem?_eq_some_iff.1 hd).2
  have htk : D.take (i + 1) = D.take i ++ [d] := by rw [List.take_succ_eq_append_getElem hi, hdi]
  have hg2 : wr.grownBy w5 jv.ownBlock := (World.grownBy_alloc _ _ _).trans hg
  have hjo : jv.ownBlock ≠ some bx := by
    intro e
    rcases h.own.jo.2 with ⟨rfl, _⟩ | ⟨g, cap, cur, rfl, _, hg, _⟩
    · simp [Value.ownBlock] at e
    · have e2 : g = bx := by simpa [Value.ownBlock] using e
      subst e2
      have hb := h.box
      rw [hg] at hb
      injection hb with hb
      injection hb with _ hb _
      exact absurd hb (by decide)
  have hlt : bx < wr.heap.size := (Array.getElem?_eq_some_iff.1 h.box).1
  have hb5 : w5.heap[bx]? = some (.cells (entC (addN id at_ m (D.take i)) sv fv jv).toArray 32 (0, 0)) := by
    rw [hg2.block bx hlt (fun e => hjo e.symm)]
    exact h.box
  have hbs := heap_setE (off := 9) (v := jv') hb5
  unfold entC at hbs
  simp only [List.setIfInBounds_toArray, List.set_cons_succ, List.set_cons_zero] at hbs
  have hB := h.below.grown hg2 h.below.size (fun k e => own_ge h.own.jo k e)
  refine ⟨hB.setCell (p := ⟨bx, 9, none⟩) h.ge _, by unfold entC; exact hbs, h.ge, ⟨?_, ?_, ?_⟩, ?_⟩
  · exact own_set1 (h.own.rc.kept hg2 (own_apart h.own.rc h.own.jo (by decide))) hb5 (by decide)
  · exact own_set1 (h.own.fa.kept hg2 (own_apart h.own.fa h.own.jo (by decide))) hb5 (by decide)
  · have e1 : (addN id at_ m (D.take (i + 1))).jobs.length = i + 1 := by simp [addN]; omega
    have e2 : (addN id at_ m (D.take (i + 1))).jobs.flatMap joE = ys := by
      rw [hys, htk]
      simp [addN, joE]
    rw [e1, e2]
    exact own_set1 ho hb5 (by decide)
  · exact own_set1 (h.dom.kept hg2 (own_apart h.dom h.own.jo (by decide))) hb5 (by decide)
theorem MkL.start {W1 T w2 : World} {id at_ : Int} {m : MailP} {D : List Bytes} {bx : Nat} {sv fv dv jv : Value} (h : MkEnd W1 (preN id at_ m) bx sv fv jv T) (hb : Below T.heap.size T w2) (ho : w2.ownsRow (T.heap.size + 1) 9 1 dv D.length (D.map str)) : MkL W1 (addN id at_ m (D.take 0)) D bx sv fv dv jv w2 := by
  have hg := grownBy_of_below hb none
  exact ⟨h.below.trans (hb.mono h.below.size), (hb.block _ (lt_of_cells h.box)).trans h.box, h.ge, ⟨h.own.rc.kept hg (Classical.em _), h.own.fa.kept hg (Classical.em _), h.own.jo.kept hg (Classical.em _)⟩, ownsRow_less ho (by have := h.below.size; omega)⟩
theorem MkL.last {W1 wr : World} {id at_ : Int} {m : MailP} {bx : Nat} {sv fv dv jv : Value} (h : MkL W1 (addN id at_ m ((domsM m.rcpts).take (domsM m.rcpts).length)) (domsM m.rcpts) bx sv fv dv jv wr) : MkL W1 (makeN id at_ m) (domsM m.rcpts) bx sv fv dv jv wr := by
  rw [List.take_length] at h
  exact h
end Go.Proofs.YtdlpdpelhkgnlaaGreatDoor
