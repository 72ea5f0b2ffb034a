/- EntryGood: its code, in parts. -/
import Derived.Test.YtdlpdpelhkgnlaaGreatDoorEgdp
import Derived.Test.YtdlpdpelhkgnlaaGreatDoorEworks
import Derived.Test.YtdlpdpelhkgnlaaGreatDoorEmlw
import Derived.Deep.CutRange
namespace Go.Proofs.YtdlpdpelhkgnlaaGreatDoor
open Go Go.RowKit Go.Shelf Go.Sort

def cA : Code → Code
  | .seq a _ => a
  | .block _ a => a
  | .loop a => a
  | .cond _ a _ => a
  | c => c
def cB : Code → Code
  | .seq _ b => b
  | .cond _ _ b => b
  | c => c
def bodyOf (f : Func) : Code := match f.body with
  | some c => c
  | none => .skip
/-- A round of the law's loop; its three loops; the last part. -/
def codeR (f : Func) : Code := cA (cA (cB (cA (cA (cB (cA (cB (cB (cB (cB (cB (bodyOf f))))))))))))
def codeA (f : Func) : Code := cA (cB (cB (cB (codeR f))))
def codeC (f : Func) : Code := cA (cB (cB (cB (cB (cB (cB (cB (codeR f))))))))
def codeD (f : Func) : Code := cA (cB (cB (cB (cB (cB (cB (cB (cB (codeR f)))))))))
def codeE (f : Func) : Code := cB (cB (cB (cB (cB (cB (bodyOf f))))))
def codeF (f : Func) : Code := cA (cB (codeR f))
def codeG (f : Func) : Code := cA (cB (cB (cB (cB (cB (codeR f))))))
/-- Two boxes of entries. -/
structure TwoE (W : World) (x y : EntP) (bx by_ : Nat) (sv fv jv sv2 fv2 jv2 : Value) : Prop where
  bx : W.heap[bx]? = some (.cells (entC x sv fv jv).toArray 32 (0, 0))
  by_ : W.heap[by_]? = some (.cells (entC y sv2 fv2 jv2).toArray 32 (0, 0))
  x : EntAt W x sv fv jv
  y : EntAt W y sv2 fv2 jv2
/-- What was gathered. -/
structure Gath (w : World) (l fl : List FaP) (n k0 : Nat) (s12 fv : Value) (wr : World) : Prop where
  own : wr.ownsRow w.heap.size 42 2 fv fl.length (fl.flatMap faE)
  len : fl.length = n
  mem : ∀ f ∈ fl, f ∈ l
  below : Below w.heap.size w wr
  cnt : ∃ k : Nat, s12 = .int .i64 (k : Int) ∧ k ≤ k0 + n
theorem TwoE.keep {W W' : World} {x y : EntP} {bx by_ : Nat} {sv fv jv sv2 fv2 jv2 : Value} (h : TwoE W x y bx by_ sv fv jv sv2 fv2 jv2) (hb : Below W.heap.size W W') : TwoE W' x y bx by_ sv fv jv sv2 fv2 jv2 :=
  ⟨(hb.block _ (lt_of_cells h.bx)).trans h.bx, (hb.block _ (lt_of_cells h.by_)).trans h.by_, h.x.below hb, h.y.below hb⟩
def intE (v : Int) : List Value := [.int .i64 v]
theorem short_make {id at_ : Int} {m : MailP} (h : ShortM m) : ShortE (makeN id at_ m) := by
  refine ⟨h, ?_, ?_, fun f hf => ?_, fun f hf => ?_, fun j hj => ?_⟩
  · show (List.replicate m.rcpts.length _).length ≤ _
    rw [List.length_replicate]; exact h.rcpts
  · show ((domsM m.rcpts).map _).length ≤ _
    rw [List.length_map]
    have := domsM_len m.rcpts
    have := h.rcpts
    omega
  · have : f = (0, []) := List.eq_of_mem_replicate hf
    rw [this]; show 0 < 256; decide
  · have : f = (0, []) := List.eq_of_mem_replicate hf
    rw [this]; show 0 ≤ 1000000; decide
  · obtain ⟨d, hdm, rfl⟩ := List.mem_map.1 hj
    have := doms_short hdm
    show d.length ≤ 1000000
    omega
theorem idx_of (v : Int) {J : Nat} (h : 0 < J) (h4 : J ≤ 4) : ∃ k : Nat, k < J ∧ wrap64 ((IntKind.u64.wrap v).tmod (J : Int)) = (k : Int) := by
  rw [IntKind.wrap_u64]
  obtain ⟨n, hn⟩ : ∃ n : Nat, v % 18446744073709551616 = (n : Int) := ⟨(v % 18446744073709551616).toNat, by omega⟩
  rw [hn]
  have hlt : n % J < J := Nat.mod_lt _ h
  refine ⟨n % J, hlt, ?_⟩
  rw [show Int.tmod (n : Int) (J : Int) = ((n % J : Nat) : Int) from rfl]
  unfold wrap64
  omega
/-- An entry of fates alone. -/
def zeroL (l : List FaP) : EntP := ⟨0, 0, ⟨[], [], false, [], []⟩, false, l, []⟩
/-- The entry under way. -/
structure WayE (w : World) (x : EntP) (bx : Nat) (sv fv jv : Value) (wr : World) : Prop where
  below : Below w.heap.size w wr
  box : wr.heap[bx]? = some (.cells (entC x sv fv jv).toArray 32 (0, 0))
  at_ : EntAt wr x sv fv jv
  few : FewX x
  ge : w.heap.size ≤ bx
theorem WayE.keep {w wr W : World} {x : EntP} {bx : Nat} {sv fv jv : Value} (h : WayE w x bx sv fv jv wr) (hb : Below wr.heap.size wr W) : WayE w x bx sv fv jv W := ⟨h.below.trans (hb.mono h.below.size), (hb.block _ (lt_of_cells h.box)).trans h.box, h.at_.below hb, h.few, h.ge⟩
theorem zeroL_small {l : List FaP} (h : FatesS (zeroL l)) : l.length ≤ 1000000 ∧ ∀ g ∈ l, g.2.length ≤ 1000000 := by
  have h1 : l.length < 1800 := h.len
  have h2 : ∀ g ∈ l, g.2.length < 9000 := h.texts
  exact ⟨by omega, fun g hg => by have := h2 g hg; omega⟩
end Go.Proofs.YtdlpdpelhkgnlaaGreatDoor
