/- entry.Decode under way: its boxes. -/
import Derived.Test.YtdlpdpelhkgnlaaGreatDoorEeach
import Derived.Test.YtdlpdpelhkgnlaaGreatDoorEmla
namespace Go.Proofs.YtdlpdpelhkgnlaaGreatDoor
open Go Go.RowKit Go.Shelf Go.Sort

/-- The entry, the reader's pointer and the reader in their boxes, behind the world w0. -/
structure DecAt (fx : Option (Nat × Value)) (w0 : World) (eb pb b : Nat) (x : EntP) (r : Rd) (sv fv jv : Value) (W : World) : Prop where
  below : Below w0.heap.size w0 W
  geE : w0.heap.size ≤ eb
  geP : w0.heap.size ≤ pb
  geB : w0.heap.size ≤ b
  ent : W.heap[eb]? = some (.cells (entC x sv fv jv).toArray 32 (0, 0))
  ptr : W.heap[pb]? = some (.cells #[.pointer (some ⟨b, 0, none⟩)] 101 (0, 0))
  rd : W.heap[b]? = some (.cells #[.string ⟨r.s.toArray⟩, .bool r.bad] 103 (0, 0))
  fix : ∀ k v, fx = some (k, v) → W.heap[k]? = some (.cells #[v] 105 (0, 0))
  own : OwnE W w0.heap.size x sv fv jv
section
variable {fx : Option (Nat × Value)} {w0 W W' : World} {eb pb b : Nat} {x : EntP} {r r' : Rd} {sv fv jv : Value}
theorem DecAt.rdAt (h : DecAt fx w0 eb pb b x r sv fv jv W) : RdAt w0 b r W := ⟨h.below, h.geB, h.rd⟩
theorem block_ne {g k : Nat} {cs ds : Array Value} {S T : TypeId} (hg : W.heap[g]? = some (.cells cs S (0, 0))) (hk : W.heap[k]? = some (.cells ds T (0, 0))) (h : S ≠ T) : g ≠ k := by
  intro e
  subst e
  rw [hg] at hk
  injection hk with hk
  injection hk with _ hk _
  exact h hk
theorem own_grown {row : Option Nat} {base k n : Nat} {T : TypeId} {v : Value} {xs : List Value} (h : W.ownsRow base T k v n xs) (hg : W.grownBy W' row) (hne : v.ownBlock = none ∨ v.ownBlock ≠ row) : W'.ownsRow base T k v n xs := h.kept hg hne
theorem own_neb {base k n g : Nat} {S T : TypeId} {v : Value} {xs : List Value} {cs : Array Value} (h : W.ownsRow base T k v n xs) (hb : W.heap[g]? = some (.cells cs S (0, 0))) (hT : T ≠ S) : v.ownBlock ≠ some g := by
  rcases h.2 with ⟨rfl, _⟩ | ⟨q, cap, cur, rfl, _, hq, _⟩
  · simp [Value.ownBlock]
  · intro e
    have : q = g := by simpa [Value.ownBlock] using e
    subst this
    exact block_ne hq hb hT rfl
theorem DecAt.reads (h : DecAt fx w0 eb pb b x r sv fv jv W) (hg : W.grownBy W' (some b)) (hr : RdAt w0 b r' W') : DecAt fx w0 eb pb b x r' sv fv jv W' := by
  have e1 := block_ne h.ent h.rd (by decide)
  have e2 := block_ne h.ptr h.rd (by decide)
  exact ⟨hr.below, h.geE, h.geP, h.geB, (hg.block _ (lt_of_cells h.ent) (fun e => e1 (by injection e))).trans h.ent, (hg.block _ (lt_of_cells h.ptr) (fun e => e2 (by injection e))).trans h.ptr, hr.box,
    fun k v e => (hg.block _ (lt_of_cells (h.fix k v e)) (fun e' => block_ne (h.fix k v e) h.rd (by decide) (by injection e'))).trans (h.fix k v e),
    ⟨own_grown h.own.rc hg (.inr (own_neb h.own.rc h.rd (by decide))), own_grown h.own.fa hg (.inr (own_neb h.own.fa h.rd (by decide))), own_grown h.own.jo hg (.inr (own_neb h.own.jo h.rd (by decide)))⟩⟩
theorem DecAt.keep (h : DecAt fx w0 eb pb b x r sv fv jv W) (hb : Below W.heap.size W W') : DecAt fx w0 eb pb b x r sv fv jv W' := by
  have hg := grownBy_of_below hb none
  exact ⟨h.below.trans (hb.mono h.below.size), h.geE, h.geP, h.geB, (hb.block _ (lt_of_cells h.ent)).trans h.ent, (hb.block _ (lt_of_cells h.ptr)).trans h.ptr, (hb.block _ (lt_of_cells h.rd)).trans h.rd,
    fun k v e => (hb.block _ (lt_of_cells (h.fix k v e))).trans (h.fix k v e),
    ⟨h.own.rc.kept hg (Classical.em _), h.own.fa.kept hg (Classical.em _), h.own.jo.kept hg (Classical.em _)⟩⟩
theorem DecAt.p (h : DecAt fx w0 eb pb b x r sv fv jv W) : W.cell? ⟨pb, 0, none⟩ = some (.pointer (some ⟨b, 0, none⟩)) := by simp [World.cell?, h.ptr]
theorem set_entC {vs : List Value} {k : Nat} {v : Value} (h : W.heap[eb]? = some (.cells vs.toArray 32 (0, 0))) : (W.setCell ⟨eb, k, none⟩ v).heap[eb]? = some (.cells (vs.set k v).toArray 32 (0, 0)) := by
  have h := heap_setE (off := k) (v := v) h
  rw [List.setIfInBounds_toArray] at h
  exact h
theorem own_app {α : Type} {en : α → List Value} {l : List α} {y : α} {base k : Nat} {T : TypeId} {v : Value} (h : W.ownsRow base T k v (l.length + 1) (l.flatMap en ++ en y)) : W.ownsRow base T k v (l ++ [y]).length ((l ++ [y]).flatMap en) := by
  rw [List.length_append, List.flatMap_append]
  simpa using h
/-- Behind an append to the jobs, and its store. -/
theorem DecAt.addJob (h : DecAt fx w0 eb pb b x r sv fv jv W) (hg : W.grownBy W' jv.ownBlock) {j : JoP} {v : Value} (ho : W'.ownsRow w0.heap.size 40 3 v (x.jobs.length + 1) (x.jobs.flatMap joE ++ joE j)) :
    DecAt fx w0 eb pb b { x with jobs := x.jobs ++ [j] } r sv fv v (W'.setCell ⟨eb, 9, none⟩ v) := by
  have n1 := own_neb h.own.jo h.ent (by decide)
  have n2 := own_neb h.own.jo h.ptr (by decide)
  have n3 := own_neb h.own.jo h.rd (by decide)
  have e1 := (hg.block _ (lt_of_cells h.ent) (fun e => n1 e.symm)).trans h.ent
  have e2 := (hg.block _ (lt_of_cells h.ptr) (fun e => n2 e.symm)).trans h.ptr
  have e3 := (hg.block _ (lt_of_cells h.rd) (fun e => n3 e.symm)).trans h.rd
  have d2 := block_ne e2 e1 (by decide)
  have d3 := block_ne e3 e1 (by decide)
  have hrc := own_grown h.own.rc hg (own_apart h.own.rc h.own.jo (by decide))
  have hfa := own_grown h.own.fa hg (own_apart h.own.fa h.own.jo (by decide))
  exact ⟨(h.below.grown hg h.below.size (fun k e => (h.own.jo.lt k e).1)).setCell (p := ⟨eb, 9, none⟩) h.geE _, h.geE, h.geP, h.geB, set_entC e1, (Below.heap_setCell _ _ _ _ d2).trans e2, (Below.heap_setCell _ _ _ _ d3).trans e3,
    fun k v e => by
      have ek := (hg.block _ (lt_of_cells (h.fix k v e)) (fun e' => own_neb h.own.jo (h.fix k v e) (by decide) e'.symm)).trans (h.fix k v e)
      exact (Below.heap_setCell _ _ _ _ (block_ne ek e1 (by decide))).trans ek,
    ⟨own_set1 hrc e1 (by decide), own_set1 hfa e1 (by decide), own_set1 (own_app (en := joE) ho) e1 (by decide)⟩⟩
theorem DecAt.addFate (h : DecAt fx w0 eb pb b x r sv fv jv W) (hg : W.grownBy W' fv.ownBlock) {f : FaP} {v : Value} (ho : W'.ownsRow w0.heap.size 42 2 v (x.fates.length + 1) (x.fates.flatMap faE ++ faE f)) :
    DecAt fx w0 eb pb b { x with fates := x.fates ++ [f] } r sv v jv (W'.setCell ⟨eb, 8, none⟩ v) := by
  have n1 := own_neb h.own.fa h.ent (by decide)
  have n2 := own_neb h.own.fa h.ptr (by decide)
  have n3 := own_neb h.own.fa h.rd (by decide)
  have e1 := (hg.block _ (lt_of_cells h.ent) (fun e => n1 e.symm)).trans h.ent
  have e2 := (hg.block _ (lt_of_cells h.ptr) (fun e => n2 e.symm)).trans h.ptr
  have e3 := (hg.block _ (lt_of_cells h.rd) (fun e => n3 e.symm)).trans h.rd
  have d2 := block_ne e2 e1 (by decide)
  have d3 := block_ne e3 e1 (by decide)
  have hrc := own_grown h.own.rc hg (own_apart h.own.rc h.own.fa (by decide))
  have hjo := own_grown h.own.jo hg (own_apart h.own.jo h.own.fa (by decide))
  exact ⟨(h.below.grown hg h.below.size (fun k e => (h.own.fa.lt k e).1)).setCell (p := ⟨eb, 8, none⟩) h.geE _, h.geE, h.geP, h.geB, set_entC e1, (Below.heap_setCell _ _ _ _ d2).trans e2, (Below.heap_setCell _ _ _ _ d3).trans e3,
    fun k v e => by
      have ek := (hg.block _ (lt_of_cells (h.fix k v e)) (fun e' => own_neb h.own.fa (h.fix k v e) (by decide) e'.symm)).trans (h.fix k v e)
      exact (Below.heap_setCell _ _ _ _ (block_ne ek e1 (by decide))).trans ek,
    ⟨own_set1 hrc e1 (by decide), own_set1 (own_app (en := faE) ho) e1 (by decide), own_set1 hjo e1 (by decide)⟩⟩
theorem DecAt.addRcpt (h : DecAt fx w0 eb pb b x r sv fv jv W) (hg : W.grownBy W' sv.ownBlock) {q : RcP} {v : Value} (ho : W'.ownsRow w0.heap.size 57 2 v (x.mail.rcpts.length + 1) (x.mail.rcpts.flatMap rcE ++ rcE q)) :
    DecAt fx w0 eb pb b { x with mail := { x.mail with rcpts := x.mail.rcpts ++ [q] } } r v fv jv (W'.setCell ⟨eb, 3, none⟩ v) := by
  have n1 := own_neb h.own.rc h.ent (by decide)
  have n2 := own_neb h.own.rc h.ptr (by decide)
  have n3 := own_neb h.own.rc h.rd (by decide)
  have e1 := (hg.block _ (lt_of_cells h.ent) (fun e => n1 e.symm)).trans h.ent
  have e2 := (hg.block _ (lt_of_cells h.ptr) (fun e => n2 e.symm)).trans h.ptr
  have e3 := (hg.block _ (lt_of_cells h.rd) (fun e => n3 e.symm)).trans h.rd
  have d2 := block_ne e2 e1 (by decide)
  have d3 := block_ne e3 e1 (by decide)
  have hfa := own_grown h.own.fa hg (own_apart h.own.fa h.own.rc (by decide))
  have hjo := own_grown h.own.jo hg (own_apart h.own.jo h.own.rc (by decide))
  exact ⟨(h.below.grown hg h.below.size (fun k e => (h.own.rc.lt k e).1)).setCell (p := ⟨eb, 3, none⟩) h.geE _, h.geE, h.geP, h.geB, set_entC e1, (Below.heap_setCell _ _ _ _ d2).trans e2, (Below.heap_setCell _ _ _ _ d3).trans e3,
    fun k v e => by
      have ek := (hg.block _ (lt_of_cells (h.fix k v e)) (fun e' => own_neb h.own.rc (h.fix k v e) (by decide) e'.symm)).trans (h.fix k v e)
      exact (Below.heap_setCell _ _ _ _ (block_ne ek e1 (by decide))).trans ek,
    ⟨own_set1 (own_app (en := rcE) ho) e1 (by decide), own_set1 hfa e1 (by decide), own_set1 hjo e1 (by decide)⟩⟩
end
end Go.Proofs.YtdlpdpelhkgnlaaGreatDoor
