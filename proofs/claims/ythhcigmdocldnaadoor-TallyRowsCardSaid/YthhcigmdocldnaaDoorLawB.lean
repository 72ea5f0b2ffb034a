/- The laws' own small functions: what they need of a world; awake. -/
import Derived.Test.YthhcigmdocldnaaDoorTallyL
import Derived.Test.YthhcigmdocldnaaDoorPlayB
namespace Go.Proofs.YthhcigmdocldnaaDoor
open Go Go.RowKit Go.Shelf Go.Sort

/-- A world behind w₀: all that was there stands; what the packages' variables hold is known. -/
structure Sess (w₀ w : World) : Prop where
  below : Below w₀.heap.size w₀ w
  glob0 : Glob w₀
  mayt0 : MayT w₀

theorem Sess.start {w : World} (hg : Glob w) (hm : MayT w) : Sess w w := ⟨Below.refl _ _, hg, hm⟩
theorem Sess.glob {w₀ w : World} (h : Sess w₀ w) : Glob w := h.glob0.below h.below (by obtain ⟨m, hm⟩ := h.glob0; exact cell_lt hm)
theorem Sess.mayt {w₀ w : World} (h : Sess w₀ w) : MayT w := h.mayt0.below h.below (cell_lt (h.mayt0 0 (by omega)))
theorem Sess.size {w₀ w : World} (h : Sess w₀ w) : w₀.heap.size ≤ w.heap.size := h.below.size
theorem Sess.to {w₀ w w' : World} (h : Sess w₀ w) (hb : Below w₀.heap.size w₀ w') : Sess w₀ w' := ⟨hb, h.glob0, h.mayt0⟩
theorem Below.less {w w' : World} {m n : Nat} (h : Below n w w') (hm : m ≤ n) : Below m w w' :=
  ⟨h.os, h.tape, h.output, h.size, fun k hk => h.block k (Nat.lt_of_lt_of_le hk hm)⟩
theorem Sess.next {w₀ w w' : World} (h : Sess w₀ w) (hb : Below w.heap.size w w') : Sess w₀ w' := h.to (h.below.trans (Below.less hb h.size))

/-- A tally, and what was counted. -/
structure Tal (w₀ w : World) (b bm : Nat) (names : Int) (l : Ent) (acc : List Res) : Prop where
  at_ : TallyAt w b bm names l
  inv : Inv names l acc
  ge : w₀.heap.size ≤ bm
  lt : bm < b
theorem Tal.blt {w₀ w : World} {b bm : Nat} {names : Int} {l : Ent} {acc : List Res} (h : Tal w₀ w b bm names l acc) : b < w.heap.size := h.at_.lt
theorem Tal.bmlt {w₀ w : World} {b bm : Nat} {names : Int} {l : Ent} {acc : List Res} (h : Tal w₀ w b bm names l acc) : bm < w.heap.size := h.at_.2.lt
theorem Tal.next {w₀ w w' : World} {b bm : Nat} {names : Int} {l : Ent} {acc : List Res} (h : Tal w₀ w b bm names l acc) (hb : Below w.heap.size w w') : Tal w₀ w' b bm names l acc :=
  ⟨h.at_.below hb h.blt h.bmlt, h.inv, h.ge, h.lt⟩
theorem Tal.kept {w₀ w w' : World} {b bm k : Nat} {names : Int} {l : Ent} {acc : List Res} (h : Tal w₀ w b bm names l acc) (hb : w.grownBy w' (some k)) (h1 : k ≠ b) (h2 : k ≠ bm) : Tal w₀ w' b bm names l acc :=
  ⟨⟨(hb.block b h.blt (fun e => h1 (Option.some.inj e).symm)).trans h.at_.1, h.at_.2.of_block (hb.block bm h.bmlt (fun e => h2 (Option.some.inj e).symm))⟩, h.inv, h.ge, h.lt⟩
theorem Tal.goodL {w₀ w : World} {b bm : Nat} {names : Int} {l : Ent} {acc : List Res} (h : Tal w₀ w b bm names l acc) (ha : acc.length ≤ 1000) : Good l ∧ l.length ≤ 1000000 :=
  ⟨h.inv.good (by omega), by have := h.inv.len; omega⟩
theorem Inv.step {names : Int} {l : Ent} {acc : List Res} (h : Inv names l acc) (r : Res) : Inv names (addS names l r.1.1 r.1.2 r.2) (accS names l acc r) := by
  unfold accS
  by_cases ha : addB names l r.1.1 r.1.2 r.2 = 0
  · rw [if_pos ha]; exact h.add ha
  · rw [if_neg ha]
    have : addS names l r.1.1 r.1.2 r.2 = l := by unfold addS; rw [if_neg ha]
    rw [this]; exact h
theorem accS_len (names : Int) (l : Ent) (acc : List Res) (r : Res) : (accS names l acc r).length ≤ acc.length + 1 := by
  unfold accS
  split <;> simp
theorem add_step {w₀ w : World} {b bm : Nat} {names : Int} {l : Ent} {acc : List Res} (hS : Sess w₀ w) (hT : Tal w₀ w b bm names l acc) (r : Res) (hs : r.1.1.length ≤ maxLen) (ht : r.1.2 < 256) (hw : r.2 < 256) (ha : acc.length ≤ 1000) :
    Calls Tryd.prog 14 #[.pointer (some ⟨b, 0, none⟩), .agg #[.string ⟨r.1.1.toArray⟩, .int .u8 (r.1.2 : Int), .int .u8 (r.2 : Int)]] w fun e w' =>
      e = .returned (.int .i64 (addB names l r.1.1 r.1.2 r.2)) ∧ Sess w₀ w' ∧ Tal w₀ w' b bm names (addS names l r.1.1 r.1.2 r.2) (accS names l acc r) ∧ w.grownBy w' (some bm) := by
  refine (add_any b bm names l r.1.1 r.1.2 r.2 w hT.at_ (by have := hT.lt; omega) (hT.goodL ha).1 (hT.goodL ha).2 hs hS.glob hS.mayt ht hw).mono ?_
  rintro e w' ⟨rfl, hg, hA⟩
  exact ⟨rfl, hS.to (hS.below.grown hg hS.size (fun k e => by cases e; exact hT.ge)), ⟨hA, hT.inv.step r, hT.ge, hT.lt⟩, hg⟩
theorem Tal.places {w₀ w : World} {b bm : Nat} {names : Int} {l : Ent} {acc : List Res} (h : Tal w₀ w b bm names l acc) {ps ps' : List (Bytes × Nat)} (h1 : Places l ps) (h2 : Places l ps') : rowsOf l ps = rowsOf l ps' := h.inv.rows h.inv (List.Perm.refl _) h1 h2
theorem rows_len {l : Ent} {ps : List (Bytes × Nat)} (h : Places l ps) : (rowsOf l ps).length = l.length := by
  have := h.perm.length_eq
  simp [rowsOf, this]
theorem rows_11 {names : Int} {l : Ent} {acc : List Res} (h : Inv names l acc) (ps : List (Bytes × Nat)) : ∀ x ∈ rowsOf l ps, x.2.length = 11 := by
  intro x hx
  obtain ⟨p, _, rfl⟩ := List.mem_map.1 hx
  show (cnt l p).length = 11
  rw [h.cnts]; simp

/-- The tally's rows, as told. -/
theorem rows_step {w₀ w : World} {b bm : Nat} {names : Int} {l : Ent} {acc : List Res} (hT : Tal w₀ w b bm names l acc) (ha : acc.length ≤ 1000) :
    Calls Tryd.prog 12 #[.pointer (some ⟨b, 0, none⟩)] w fun e w' => ∃ v ps, e = .returned v ∧ Places l ps ∧ RowsAt w' w.heap.size v (rowsOf l ps) ∧ Below w.heap.size w w' :=
  rows_any b bm names l w hT.at_ (hT.goodL ha).1 (hT.goodL ha).2
theorem all_step {w₀ w : World} {b bm : Nat} {names : Int} {l : Ent} {acc : List Res} (hT : Tal w₀ w b bm names l acc) (ha : acc.length ≤ 1000) :
    Calls Tryd.prog 18 #[.pointer (some ⟨b, 0, none⟩)] w fun e w' => e = .returned (.int .i64 (acc.length : Int)) ∧ Below w.heap.size w w' := by
  refine (all_any b bm names l w hT.at_ (hT.goodL ha).1 (hT.goodL ha).2 (fun ps hp => by rw [hT.inv.total hp]; omega)).mono ?_
  rintro e w' ⟨⟨ps, hp, rfl⟩, hb⟩
  exact ⟨by rw [hT.inv.total hp], hb⟩
/-- A new tally. -/
theorem new_step {w₀ w : World} (hS : Sess w₀ w) (n : Int) (h1 : 1 ≤ n) (h2 : n ≤ 8) :
    Calls Tryd.prog 11 #[.int .i64 n] w fun e w' => e = .returned (.tuple #[.pointer (some ⟨w.heap.size + 1, 0, none⟩), .int .i64 0]) ∧ Tal w₀ w' (w.heap.size + 1) w.heap.size n [] [] ∧ Below w.heap.size w w' := by
  refine (tallyNew_good n w h1 h2).mono ?_
  rintro e w' ⟨rfl, rfl⟩
  refine ⟨rfl, ⟨⟨?_, ?_⟩, Inv.nil (by omega), hS.size, by omega⟩, ((Below.refl _ w).alloc (Nat.le_refl _) _).alloc (by simp) _⟩
  · exact ha_eq (by simp)
  · refine mapAt_alloc ?_
    exact ⟨#[], 0, ha_eq rfl, EsR.nil⟩
end Go.Proofs.YthhcigmdocldnaaDoor
