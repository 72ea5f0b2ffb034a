/- Plain laws on lists of bytes: the parts of a text between separators, labels, names. No program in sight. -/
import Derived.Lib.IndexMore
namespace Go.Proofs.YtdlpdpelhkgnlaaGreatDoor
open Go

abbrev Bytes := List UInt8
def parts (b : UInt8) : Bytes → List Bytes
  | [] => [[]]
  | c :: r => if c = b then [] :: parts b r else match parts b r with
    | p :: ps => (c :: p) :: ps
    | [] => [[c]]
theorem parts_ne (b : UInt8) (l : Bytes) : parts b l ≠ [] := by
  cases l with
  | nil => simp [parts]
  | cons c r =>
    unfold parts
    split
    · simp
    · split <;> simp
theorem cut_cons_eq (b : UInt8) (r : Bytes) : Lib.cut (b :: r) [b] = ([], r, true) := by
  have : Lib.index (b :: r) [b] = 0 := by simp [Lib.index, List.isPrefixOf]
  simp [Lib.cut, this]
theorem cut_cons_ne (b c : UInt8) (r : Bytes) (h : c ≠ b) : Lib.cut (c :: r) [b] = ((c :: (Lib.cut r [b]).1), (Lib.cut r [b]).2.1, (Lib.cut r [b]).2.2) := by
  have hi : Lib.index (c :: r) [b] = if Lib.index r [b] == -1 then -1 else Lib.index r [b] + 1 := by
    have h' : ¬ b = c := fun e => h e.symm
    simp [Lib.index, List.isPrefixOf, h']
  have hge := Lib.index_ge r [b]
  by_cases hn : Lib.index r [b] = -1
  · simp [Lib.cut, hi, hn]
  · have h0 : 0 ≤ Lib.index r [b] := by omega
    have e1 : Lib.index (c :: r) [b] = Lib.index r [b] + 1 := by rw [hi]; simp [hn]
    have e2 : (Lib.index r [b] + 1).toNat = (Lib.index r [b]).toNat + 1 := by omega
    have h1 : 0 ≤ Lib.index r [b] + 1 := by omega
    simp [Lib.cut, e1, h0, h1, e2]
theorem parts_cut (b : UInt8) (l : Bytes) :
    (Lib.cut l [b]).2.2 = true ∧ parts b l = (Lib.cut l [b]).1 :: parts b (Lib.cut l [b]).2.1 ∧ (Lib.cut l [b]).2.1.length < l.length ∨
    (Lib.cut l [b]).2.2 = false ∧ parts b l = [l] ∧ (Lib.cut l [b]).1 = l := by
  induction l with
  | nil => right; simp [Lib.cut, Lib.index, parts]
  | cons c r ih =>
    by_cases h : c = b
    · subst h
      left
      rw [cut_cons_eq]
      simp [parts]
    · rw [cut_cons_ne b c r h]
      rcases ih with ⟨h1, h2, h3⟩ | ⟨h1, h2, h3⟩
      · left
        refine ⟨h1, ?_, ?_⟩
        · simp only [parts, if_neg h, h2]
        · simp only [List.length_cons]; omega
      · right
        refine ⟨h1, ?_, ?_⟩
        · simp only [parts, if_neg h, h2]
        · simp [h3]
theorem parts_le (b : UInt8) (l : Bytes) : ∀ p ∈ parts b l, p.length ≤ l.length := by
  induction l with
  | nil => simp [parts]
  | cons c r ih =>
    intro p hp
    unfold parts at hp
    split at hp
    · simp only [List.mem_cons] at hp
      rcases hp with rfl | hp
      · simp
      · have := ih p hp; simp; omega
    · split at hp
      · rename_i q qs hq
        simp only [List.mem_cons] at hp
        rcases hp with rfl | hp
        · have := ih q (by rw [hq]; simp); simp; omega
        · have := ih p (by rw [hq]; simp [hp]); simp; omega
      · simp at hp; subst hp; simp
theorem parts_len (b : UInt8) (l : Bytes) : (parts b l).length ≤ l.length + 1 := by
  induction l with
  | nil => simp [parts]
  | cons c r ih =>
    unfold parts
    split
    · simp; omega
    · split
      · rename_i q qs hq; rw [hq] at ih; simp at ih ⊢; omega
      · simp

def isDig (b : UInt8) : Bool := 48 ≤ b.toNat && b.toNat ≤ 57
def isLow (b : UInt8) : Bool := 97 ≤ b.toNat && b.toNat ≤ 122
def okCh (b : UInt8) : Bool := isDig b || isLow b || b.toNat == 45
def digB (l : Bytes) : Bool := l.all isDig
def chB (l : Bytes) : Bool := l.all okCh
def labB (l : Bytes) : Bool := decide (1 ≤ l.length) && decide (l.length ≤ 63) && !(l.head?.any fun b => b.toNat == 45) && !(l.getLast?.any fun b => b.toNat == 45) && chB l
/-- A name: what the document's P3.1 says. -/
def mayB (l : Bytes) : Bool := decide (l.length ≤ 253) && (parts 46 l).all labB && !((parts 46 l).getLast?.any digB)

theorem snoc_all (f : UInt8 → Bool) (l : Bytes) (k : Nat) (h : k < l.length) : (l.take (k + 1)).all f = ((l.take k).all f && f l[k]) := by
  rw [List.take_succ_eq_append_getElem h, List.all_append]; simp
end Go.Proofs.YtdlpdpelhkgnlaaGreatDoor
