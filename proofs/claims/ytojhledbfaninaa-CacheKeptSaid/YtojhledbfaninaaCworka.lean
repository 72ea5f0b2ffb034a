/- The law's some; sessions with two caches. -/
import Derived.Test.YtojhledbfaninaaCsame
namespace Go.Proofs.Ytojhledbfaninaa
open Go Go.RowKit Go.Shelf Go.Sort
attribute [local go_sem] bneI

/-- "*.b.example" -/
def starB : Bytes := [42, 46, 98, 46, 101, 120, 97, 109, 112, 108, 101]
theorem star_at (w : World) (O : Obj) : MxAt ((w.alloc O).alloc (.cells #[.string ⟨#[42, 46, 98, 46, 101, 120, 97, 109, 112, 108, 101]⟩] 9)) (fun k => w.heap.size ≤ k) (some ⟨w.heap.size + 1, 0, none⟩, 1, 1) [starB] := by
  refine ⟨rfl, fun e => (by cases e), fun a e => ?_⟩
  cases e
  refine ⟨fun _ => Nat.le_succ _, fun j u hj => ?_⟩
  exact cell_list (w := w.alloc O) (cs := [str starB]) (by simp) j (str u) (by
    match j, hj with
    | 0, hj => simp at hj; subst hj; rfl)
set_option maxRecDepth 100000 in
theorem some_any (m : Int) (age : Int) (w : World) :
    Calls Try.prog 10 #[.int .u8 m, .int .i64 age] w fun e w' => e = .returned (.agg #[.int .u8 m, .slice (some ⟨w.heap.size + 1, 0, none⟩) 1 1, .int .i64 age]) ∧ MxAt w' (fun k => w.heap.size ≤ k) (some ⟨w.heap.size + 1, 0, none⟩, 1, 1) [starB] ∧ Below w.heap.size w w' := by
  go_enter Try.func10, Try.ntmps10
  go_wp2
  refine bodyPost_ret (v := .agg #[.int .u8 m, .slice (some ⟨w.heap.size + 1, 0, none⟩) 1 1, .int .i64 age]) (by simp [results, Try.results10, go_sem]) rfl ⟨rfl, star_at w _, ((Below.refl _ w).alloc (Nat.le_refl _) _).alloc (by simp) _⟩

/-! ### Two caches -/
def Any (_ : Nat) : Prop := True
theorem anyB {B : Nat → Prop} (k : Nat) (_ : B k) : Any k := trivial
/-- Two caches of a session that began at w. -/
structure Two (w W : World) (most : Int) (b1 m1 b2 m2 : Nat) (L1 L2 : List PE) : Prop where
  below : Below w.heap.size w W
  c : CacheIs W Any b1 m1 most L1
  d : CacheIs W Any b2 m2 most L2
  ne : m1 ≠ m2
  g1 : w.heap.size ≤ m1
  g2 : w.heap.size ≤ m2
theorem Two.step {w W W' : World} {most : Int} {b1 m1 b2 m2 : Nat} {L1 L2 : List PE} (h : Two w W most b1 m1 b2 m2 L1 L2) (hb : Below W.heap.size W W') : Two w W' most b1 m1 b2 m2 L1 L2 :=
  ⟨h.below.trans (hb.mono h.below.size), h.c.below hb, h.d.below hb, h.ne, h.g1, h.g2⟩
theorem CacheIs.other {W W' : World} {B : Nat → Prop} {b bm bn : Nat} {most : Int} {L : List PE} {most2 : Int} {b2 : Nat} {B2 : Nat → Prop} {L2 : List PE} (h : CacheIs W B b bm most L) (h2 : CacheIs W B2 b2 bn most2 L2) (hg : W.grownBy W' (some bn)) (hne : bn ≠ bm) : CacheIs W' B b bm most L := by
  obtain ⟨l, hc, hE⟩ := h
  obtain ⟨l2, hc2, _⟩ := h2
  exact ⟨l, hc.grown hg (fun k e => by cases e; exact ⟨hne, hc2.isMap⟩), hE⟩
theorem Two.learn1 {w W W' : World} {most : Int} {b1 m1 b2 m2 : Nat} {L1 L2 : List PE} {x : PE} {e : Ending} (h : Two w W most b1 m1 b2 m2 L1 L2) (hl : LearnPost W Any b1 m1 most L1 x e W') : Two w W' most b1 m1 b2 m2 (learnS most L1 x) L2 :=
  ⟨h.below.grown hl.2.2 h.below.size (fun k e => by cases e; exact h.g1), hl.2.1.mono anyB, h.d.other h.c hl.2.2 h.ne, h.ne, h.g1, h.g2⟩
theorem Two.learn2 {w W W' : World} {most : Int} {b1 m1 b2 m2 : Nat} {L1 L2 : List PE} {x : PE} {e : Ending} (h : Two w W most b1 m1 b2 m2 L1 L2) (hl : LearnPost W Any b2 m2 most L2 x e W') : Two w W' most b1 m1 b2 m2 L1 (learnS most L2 x) :=
  ⟨h.below.grown hl.2.2 h.below.size (fun k e => by cases e; exact h.g2), h.c.other h.d hl.2.2 (Ne.symm h.ne), hl.2.1.mono anyB, h.ne, h.g1, h.g2⟩
theorem Glob.lt {w : World} (h : Glob w) : 0 < w.heap.size := by obtain ⟨m, hm⟩ := h; exact cell_lt hm
theorem Glob.keep {w W : World} (h : Glob w) (hb : Below w.heap.size w W) : Glob W := h.below hb h.lt

/-! ### The examples, reckoned -/
def exE (d : Bytes) (m : Nat) (unt : Int) : PE := ⟨d, [49], m, [starB], 10, unt⟩
theorem ex1 : learnB 1 [] (exE [97, 46, 98] 3 0) = 0 ∧ learnS 1 [] (exE [97, 46, 98] 3 0) = [exE [97, 46, 98] 3 10] := by decide
theorem ex2 : learnB 1 [] (exE [97, 46, 98] 2 0) = 0 ∧ learnS 1 [] (exE [97, 46, 98] 2 0) = [exE [97, 46, 98] 2 10] := by decide
theorem ex3 : ofE [97, 46, 98] 9 [exE [97, 46, 98] 3 10] = some (exE [97, 46, 98] 3 10) ∧ ofE [97, 46, 98] 10 [exE [97, 46, 98] 3 10] = none := by decide
theorem ex4 : learnB 1 [exE [97, 46, 98] 3 10] (exE [99, 46, 100] 3 9) = 41 ∧ learnS 1 [exE [97, 46, 98] 3 10] (exE [99, 46, 100] 3 9) = [exE [97, 46, 98] 3 10] := by decide
theorem ex5 : learnB 1 [exE [97, 46, 98] 2 10] (exE [99, 46, 100] 3 9) = 0 ∧ learnS 1 [exE [97, 46, 98] 2 10] (exE [99, 46, 100] 3 9) = [exE [99, 46, 100] 3 19] := by decide
theorem ex6 : learnB 1 [exE [97, 46, 98] 3 10] (exE [99, 46, 100] 3 10) = 0 ∧ learnS 1 [exE [97, 46, 98] 3 10] (exE [99, 46, 100] 3 10) = [exE [99, 46, 100] 3 20] := by decide
theorem ex7 : ofE [97, 46, 98] 0 [exE [99, 46, 100] 3 20] = none := by decide
end Go.Proofs.Ytojhledbfaninaa
