/- The contracts of package tally: the keys of the counts, collected and sorted. -/
import Derived.Test.YthhcigmdocldnaaDoorTallyE
namespace Go.Proofs.YthhcigmdocldnaaDoor
open Go Go.RowKit Go.Shelf Go.Sort

def keyAt (l : Ent) (i : Nat) : Bytes × Nat := ((l[i]?).map (·.1)).getD ([], 0)
theorem keyAt_eq {l : Ent} {i : Nat} (h : i < l.length) : keyAt l i = l[i].1 := by simp [keyAt, h]
theorem keys_range (l : Ent) : (List.range l.length).map (keyAt l) = l.map (·.1) := by
  apply List.ext_getElem
  · simp
  · intro i h1 h2
    simp at h1
    simp [keyAt, h1]
theorem ItAt.walk {w : World} {r b : Nat} {l : Ent} {idx : List Nat} (h : ItAt w r b eK eV l idx) : ∃ o : Obj, w.heap[r]? = some o ∧ o.isWalk = true := by
  obtain ⟨es, clock, since, _, _, hb, _⟩ := h
  exact ⟨_, hb, rfl⟩
theorem ItAt.walks {w w' : World} {r b : Nat} {l : Ent} {idx : List Nat} (h : ItAt w r b eK eV l idx) (hk : KeepsWalks w w') : ItAt w' r b eK eV l idx := by
  obtain ⟨es, clock, since, h1, h2, h3, h4⟩ := h
  exact ⟨es, clock, since, hk.same _ _ h1 rfl, h2, hk.same _ _ h3 rfl, h4⟩

set_option maxRecDepth 100000 in
set_option maxHeartbeats 1000000 in
theorem keys1_in (n lv Bm b : Nat) (l : Ent) (J Jx : List (Bytes × Nat) → World → Prop) (W : World) (hJ : AbidesP W.heap.size (fun _ => False) J)
    (hY : ∀ pre x W1, J pre W1 → pre.length < l.length → YieldAt Fence.wide (n - 1) Tryd.prog lv #[eK x] W1 fun e W' =>
      (e = .returned (.bool true) ∧ J (pre ++ [x]) W' ∧ KeepsWalks W1 W') ∨ (e = .returned (.bool false) ∧ Jx (pre ++ [x]) W'))
    (hm : W.cell? ⟨Bm, 0, none⟩ = some (.map (some b))) (hmap : MapAt W b eK eV l) (h0 : J [] W) :
    CallsIn Fence.wide n Tryd.prog 58 #[.func (.yield lv) #[] #[], .pointer (some ⟨Bm, 0, none⟩)] W fun e W' => (∃ v, e = .returned v) ∧
      ((∃ xs : List (Bytes × Nat), xs.Perm (l.map (·.1)) ∧ J xs W') ∨ (∃ pre, True ∧ Jx pre W')) := by
  have hbW := hmap.lt
  obtain ⟨o, hrg, how, hit⟩ := run_range_at (P := Tryd.prog) (t := 72) Tryd.underlying72 hmap
  have HT := Lib.hid (And.intro hmap (And.intro how hit))
  clear hmap how hit
  refine callsIn_of_wp Tryd.func58 rfl trivial ?_ rfl
  simp only [Tryd.ntmps58, List.size_toArray, List.length_cons, List.length_nil, Nat.reduceAdd, Nat.reduceSub, Array.replicate_succ, Array.replicate_zero, List.push_toArray, List.append_toArray, List.nil_append, List.cons_append]
  gi_wp2
  gi_loopw [3] (fun _ wr => ∃ idx : List Nat, ItAt wr W.heap.size b eK eV l idx ∧ W.heap.size + 1 ≤ wr.heap.size ∧ J (idx.map (keyAt l)) wr)
    (fun _ wr => l.length - itSeen wr W.heap.size)
  case atStart =>
    exact ⟨[], HT.out.2.2, by simp, hJ [] W _ none h0 (World.grownBy_alloc _ _ _) (fun r e => by cases e)⟩
  case round =>
    obtain ⟨idx, hit, hsz, hj⟩ := hrel
    have hM := itSeen_eq hit
    have hlen := it_len hit
    rcases run_next_step (P := Tryd.prog) hit (by omega) 0 with ⟨hle, hrun⟩ | ⟨i, hi, q, o2, hni, hrun, hit2⟩
    · have hperm := it_perm hit hle
      clear hle
      gi_wp2
      go_end0
      refine ⟨⟨_, rfl⟩, .inl ⟨idx.map (keyAt l), ?_, hj⟩⟩
      rw [← keys_range]
      exact hperm.map _
    · have hg2 : wr.grownBy ((wr.drewN q).putObj W.heap.size o2) (some W.heap.size) := ⟨rfl, rfl, rfl, by simp [World.putObj, World.drewN], fun k _ hk => by
        show ((wr.drewN q).putObj W.heap.size o2).heap[k]? = (wr.drewN q).heap[k]?
        exact World.putObj_heap_other (fun e => hk (by rw [e]))⟩
      have hj2 := hJ _ wr _ (some W.heap.size) hj hg2 (fun r e => by cases e; exact .inl ⟨Nat.le_refl _, hit.walk⟩)
      have hent := run_entry_it (P := Tryd.prog) hi hit2
      obtain ⟨W2, hW2⟩ : ∃ W2, W2 = (wr.drewN q).putObj W.heap.size o2 := ⟨_, rfl⟩
      rw [← hW2] at hrun hit2 hent hg2 hj2
      clear hW2
      have hsz2 : W.heap.size + 1 ≤ W2.heap.size := Nat.le_trans hsz hg2.size
      have hk : l[i].1 = keyAt l i := (keyAt_eq hi).symm
      rw [hk] at hrun hent
      have hlt : idx.length < l.length := by
        have := it_len hit2; simp at this; omega
      have hA := World.alloc_heap_new W2 (.cells #[str (keyAt l i).1, .int .u8 ((keyAt l i).2 : Int)] 78)
      have hj3 := hJ _ W2 (W2.alloc (.cells #[str (keyAt l i).1, .int .u8 ((keyAt l i).2 : Int)] 78)) none hj2 (World.grownBy_alloc _ _ _) (fun r e => by cases e)
      obtain ⟨fn, tmps, assign, body, hy, hR⟩ := hY _ (keyAt l i) _ hj3 (by simpa using hlt)
      have HF := Lib.hid (And.intro hit2 (And.intro hM (And.intro hj3 hsz2)))
      clear hit hit2 hM hj hj2 hj3 hg2 hA hk hlen hlt hsz
      unfold eK str at hrun hent
      unfold eK str at hy
      unfold str at hR
      gi_wp2_with fail
      refine ⟨(fun h => by cases h), hR.mono ?_⟩
      rintro e W3 (⟨rfl, hJ3, hk3⟩ | ⟨rfl, hJx3⟩)
      · gi_wp2
        have hit3 : ItAt W3 W.heap.size b eK eV l (idx ++ [i]) := ((HF.out.1.of_blocks (ha_ne (by omega)) (ha_ne (by omega)) : ItAt (W2.alloc (.cells #[.string ⟨(keyAt l i).1.toArray⟩, .int .u8 ((keyAt l i).2 : Int)] 78)) W.heap.size b eK eV l (idx ++ [i]))).walks hk3
        go_roundw
        case rel => exact ⟨idx ++ [i], hit3, by have := hk3.size; simp at this; omega, by simpa using hJ3⟩
        case measure =>
          have := it_len hit3
          rw [itSeen_eq hit3, HF.out.2.1]
          simp at this ⊢
          omega
      · gi_wp2
        refine bodyPost_ret (results_none rfl _ _ _) rfl ?_
        exact ⟨⟨_, rfl⟩, .inr ⟨_, trivial, hJx3⟩⟩
end Go.Proofs.YthhcigmdocldnaaDoor
