/- Parts of the proof, joined: Plain, Cmp, App, Seq, NameA, NameB. -/
import Derived.Lib.IndexMore
import Derived.Lib.Bytealg
import Derived.Lib.SlicesCompact
import Derived.Sort.Statements
import Derived.Shelf.SlSortCmp.Insertion
import Derived.Deep.AppendLies
import Derived.Below
import Derived.Deep.RegionHeld3
import Derived.RangeFuncNested
import Derived.RangeFuncBound
import Derived.RangeFuncCalls
import Derived.RangeFuncLeaves
import Derived.WalkKit
import Derived.Test.YtlpngibdplnieaaGreatDoorProg
import Derived.LoopTactic
import Derived.Outline
import Derived.Lib.Hide
import Derived.BigQuiet
import Derived.Deep.QuietTactic
import Derived.WalkLawsBesides
import Derived.WalkSpells
import Derived.ScopeJumps
import Derived.Shelf.Abstract
import Derived.Shelf.RegionOpen
import Derived.OwnWalkIn
import Derived.TacticsInMore
import Derived.LoopNIn
import Derived.LoopIn
import Derived.Test.YtlpngibdplnieaaGreatDoorShelf
/- Plain laws on lists of bytes: the parts of a text between separators, labels, names. No program in sight. -/
namespace Go.Proofs.YtlpngibdplnieaaGreatDoor
open Go

abbrev Bytes := List UInt8
def parts (b : UInt8) : Bytes → List Bytes
  | [] => [[]]
  | c :: r => if c = b then [] :: parts b r else match parts b r with
    | p :: ps => (c :: p) :: ps
    | [] => [[c]]
theorem parts_ne (b : UInt8) (l : Bytes) : parts b l ≠ [] := by
  cases l with
  | nil => simp [parts]
  | cons c r =>
    unfold parts
    split
    · simp
    · split <;> simp
theorem cut_cons_eq (b : UInt8) (r : Bytes) : Lib.cut (b :: r) [b] = ([], r, true) := by
  have : Lib.index (b :: r) [b] = 0 := by simp [Lib.index, List.isPrefixOf]
  simp [Lib.cut, this]
theorem cut_cons_ne (b c : UInt8) (r : Bytes) (h : c ≠ b) : Lib.cut (c :: r) [b] = ((c :: (Lib.cut r [b]).1), (Lib.cut r [b]).2.1, (Lib.cut r [b]).2.2) := by
  have hi : Lib.index (c :: r) [b] = if Lib.index r [b] == -1 then -1 else Lib.index r [b] + 1 := by
    have h' : ¬ b = c := fun e => h e.symm
    simp [Lib.index, List.isPrefixOf, h']
  have hge := Lib.index_ge r [b]
  by_cases hn : Lib.index r [b] = -1
  · simp [Lib.cut, hi, hn]
  · have h0 : 0 ≤ Lib.index r [b] := by omega
    have e1 : Lib.index (c :: r) [b] = Lib.index r [b] + 1 := by rw [hi]; simp [hn]
    have e2 : (Lib.index r [b] + 1).toNat = (Lib.index r [b]).toNat + 1 := by omega
    have h1 : 0 ≤ Lib.index r [b] + 1 := by omega
    simp [Lib.cut, e1, h0, h1, e2]
theorem parts_cut (b : UInt8) (l : Bytes) :
    (Lib.cut l [b]).2.2 = true ∧ parts b l = (Lib.cut l [b]).1 :: parts b (Lib.cut l [b]).2.1 ∧ (Lib.cut l [b]).2.1.length < l.length ∨
    (Lib.cut l [b]).2.2 = false ∧ parts b l = [l] ∧ (Lib.cut l [b]).1 = l := by
  induction l with
  | nil => right; simp [Lib.cut, Lib.index, parts]
  | cons c r ih =>
    by_cases h : c = b
    · subst h
      left
      rw [cut_cons_eq]
      simp [parts]
    · rw [cut_cons_ne b c r h]
      rcases ih with ⟨h1, h2, h3⟩ | ⟨h1, h2, h3⟩
      · left
        refine ⟨h1, ?_, ?_⟩
        · simp only [parts, if_neg h, h2]
        · simp only [List.length_cons]; omega
      · right
        refine ⟨h1, ?_, ?_⟩
        · simp only [parts, if_neg h, h2]
        · simp [h3]
theorem parts_le (b : UInt8) (l : Bytes) : ∀ p ∈ parts b l, p.length ≤ l.length := by
  induction l with
  | nil => simp [parts]
  | cons c r ih =>
    intro p hp
    unfold parts at hp
    split at hp
    · simp only [List.mem_cons] at hp
      rcases hp with rfl | hp
      · simp
      · have := ih p hp; simp; omega
    · split at hp
      · rename_i q qs hq
        simp only [List.mem_cons] at hp
        rcases hp with rfl | hp
        · have := ih q (by rw [hq]; simp); simp; omega
        · have := ih p (by rw [hq]; simp [hp]); simp; omega
      · simp at hp; subst hp; simp
theorem parts_len (b : UInt8) (l : Bytes) : (parts b l).length ≤ l.length + 1 := by
  induction l with
  | nil => simp [parts]
  | cons c r ih =>
    unfold parts
    split
    · simp; omega
    · split
      · rename_i q qs hq; rw [hq] at ih; simp at ih ⊢; omega
      · simp

def isDig (b : UInt8) : Bool := 48 ≤ b.toNat && b.toNat ≤ 57
def isLow (b : UInt8) : Bool := 97 ≤ b.toNat && b.toNat ≤ 122
def okCh (b : UInt8) : Bool := isDig b || isLow b || b.toNat == 45
def digB (l : Bytes) : Bool := l.all isDig
def chB (l : Bytes) : Bool := l.all okCh
def labB (l : Bytes) : Bool := decide (1 ≤ l.length) && decide (l.length ≤ 63) && !(l.head?.any fun b => b.toNat == 45) && !(l.getLast?.any fun b => b.toNat == 45) && chB l
/-- A name: what the document's P3.1 says. -/
def mayB (l : Bytes) : Bool := decide (l.length ≤ 253) && (parts 46 l).all labB && !((parts 46 l).getLast?.any digB)

theorem snoc_all (f : UInt8 → Bool) (l : Bytes) (k : Nat) (h : k < l.length) : (l.take (k + 1)).all f = ((l.take k).all f && f l[k]) := by
  rw [List.take_succ_eq_append_getElem h, List.all_append]; simp
end Go.Proofs.YtlpngibdplnieaaGreatDoor

/- Plain laws on the order of texts, and of places; sorted lists without repetition. No program in sight. -/
namespace Go.Proofs.YtlpngibdplnieaaGreatDoor
open Go Go.Sort

def cmpB : Bytes → Bytes → Int := Lib.compareBytes
theorem cmpB_self (a : Bytes) : cmpB a a = 0 := by
  unfold cmpB
  induction a with
  | nil => rfl
  | cons x a ih => simp [Lib.compareBytes, ih]
theorem cmpB_eq : ∀ {a b : Bytes}, cmpB a b = 0 → a = b
  | [], [], _ => rfl
  | [], _ :: _, h => by simp [cmpB, Lib.compareBytes] at h
  | _ :: _, [], h => by simp [cmpB, Lib.compareBytes] at h
  | x :: a, y :: b, h => by
    unfold cmpB Lib.compareBytes at h
    split at h
    · cases h
    · split at h
      · cases h
      · rename_i h1 h2
        have e : x = y := UInt8.le_antisymm (UInt8.not_lt.1 h2) (UInt8.not_lt.1 h1)
        rw [e, cmpB_eq (a := a) (b := b) h]
theorem cmpB_swap : ∀ (a b : Bytes), cmpB b a = - cmpB a b
  | [], [] => rfl
  | [], _ :: _ => rfl
  | _ :: _, [] => rfl
  | x :: a, y :: b => by
    have ih := cmpB_swap a b
    unfold cmpB at ih ⊢
    unfold Lib.compareBytes
    by_cases h1 : x < y
    · have h2 : ¬ y < x := UInt8.not_lt.2 (UInt8.le_of_lt h1)
      simp [h1, h2]
    · by_cases h2 : y < x
      · simp [h1, h2]
      · simp [h1, h2, ih]
theorem cmpB_trans : ∀ {a b c : Bytes}, cmpB a b < 0 → cmpB b c < 0 → cmpB a c < 0
  | _, [], c, h1, h2 => by
    cases c with
    | nil => simp [cmpB, Lib.compareBytes] at h2
    | cons z c =>
      rename_i a
      cases a with
      | nil => simp [cmpB, Lib.compareBytes] at h1
      | cons x a => simp [cmpB, Lib.compareBytes] at h1
  | [], _ :: _, c, h1, h2 => by
    cases c with
    | nil => simp [cmpB, Lib.compareBytes] at h2
    | cons z c => simp [cmpB, Lib.compareBytes]
  | x :: a, y :: b, [], h1, h2 => by simp [cmpB, Lib.compareBytes] at h2
  | x :: a, y :: b, z :: c, h1, h2 => by
    have ih := @cmpB_trans a b c
    unfold cmpB at h1 h2 ih ⊢
    unfold Lib.compareBytes at h1 h2 ⊢
    by_cases hxy : x < y
    · by_cases hyz : y < z
      · have : x < z := UInt8.lt_trans hxy hyz
        simp [this]
      · by_cases hzy : z < y
        · simp [hyz, hzy] at h2
        · have e : y = z := UInt8.le_antisymm (UInt8.not_lt.1 hzy) (UInt8.not_lt.1 hyz)
          subst e; simp [hxy]
    · by_cases hyx : y < x
      · simp [hxy, hyx] at h1
      · have e : x = y := UInt8.le_antisymm (UInt8.not_lt.1 hyx) (UInt8.not_lt.1 hxy)
        subst e
        by_cases hyz : x < z
        · simp [hyz]
        · by_cases hzy : z < x
          · simp [hyz, hzy] at h2
          · simp [hyz, hzy] at h2 ⊢
            simp at h1
            exact ih h1 h2

/-- An order by a comparison: the laws that a sort asks, and that equals are one. -/
structure CmpOrd {α : Type} (cf : α → α → Int) : Prop where
  self : ∀ x, cf x x = 0
  eq : ∀ x y, cf x y = 0 → x = y
  swap : ∀ x y, cf y x = - cf x y
  trans : ∀ x y z, cf x y < 0 → cf y z < 0 → cf x z < 0
theorem CmpOrd.swo {α : Type} {cf : α → α → Int} (h : CmpOrd cf) : SWO (ltOf cf) where
  irrefl x := by simp [ltOf, h.self]
  trans x y z h1 h2 := by simp [ltOf] at *; exact h.trans x y z h1 h2
  ntrans x y z h1 h2 := by
    simp [ltOf] at *
    have a := h.swap x y
    have b := h.swap y z
    have c := h.swap x z
    by_cases e1 : cf x y = 0
    · rw [h.eq _ _ e1]; exact h2
    · by_cases e2 : cf y z = 0
      · rw [← h.eq _ _ e2]; exact h1
      · have := h.trans z y x (by omega) (by omega)
        omega
theorem CmpOrd.total {α : Type} {cf : α → α → Int} (h : CmpOrd cf) : ∀ x y, (ltOf cf) x y = false → (ltOf cf) y x = false → x = y := fun x y h1 h2 => by
  simp [ltOf] at h1 h2
  have := h.swap x y
  exact h.eq x y (by omega)
theorem ordB : CmpOrd cmpB := ⟨cmpB_self, fun _ _ => cmpB_eq, fun a b => cmpB_swap a b, fun _ _ _ => cmpB_trans⟩

/-- Strictly ascending. -/
def Asc {α : Type} (cf : α → α → Int) (l : List α) : Prop := l.Pairwise fun x y => cf x y < 0
theorem Asc.uniq {α : Type} {cf : α → α → Int} (h : CmpOrd cf) : ∀ {l m : List α}, Asc cf l → Asc cf m → (∀ x, x ∈ l ↔ x ∈ m) → l = m
  | [], [], _, _, _ => rfl
  | [], y :: m, _, _, hm => by have := (hm y).2 (by simp); cases this
  | x :: l, [], _, _, hm => by have := (hm x).1 (by simp); cases this
  | x :: l, y :: m, hl, hm, hs => by
    unfold Asc at hl hm
    rw [List.pairwise_cons] at hl hm
    have e : x = y := by
      rcases List.mem_cons.1 ((hs x).1 (by simp)) with e | hx
      · exact e
      · rcases List.mem_cons.1 ((hs y).2 (by simp)) with e | hy
        · exact e.symm
        · have := hl.1 y hy
          have := hm.1 x hx
          have := h.swap x y
          omega
    subst e
    have : l = m := Asc.uniq h hl.2 hm.2 fun z => by
      constructor
      · intro hz
        rcases List.mem_cons.1 ((hs z).1 (by simp [hz])) with e | hz'
        · subst e; have := hl.1 z hz; rw [h.self] at this; omega
        · exact hz'
      · intro hz
        rcases List.mem_cons.1 ((hs z).2 (by simp [hz])) with e | hz'
        · subst e; have := hm.1 z hz; rw [h.self] at this; omega
        · exact hz'
    rw [this]
theorem Asc.nodup {α : Type} {cf : α → α → Int} (h : CmpOrd cf) {l : List α} (hl : Asc cf l) : l.Nodup :=
  List.Pairwise.imp (fun {a b} hab e => by subst e; rw [h.self] at hab; omega) hl
/-- What a sort leaves of a list without repetition. -/
theorem asc_of_sorted {α : Type} [Inhabited α] {cf : α → α → Int} (h : CmpOrd cf) {d : Array α} (hn : d.toList.Nodup) (hs : SortedIn (ltOf cf) 0 d.size d) : Asc cf d.toList := by
  unfold Asc
  rw [List.pairwise_iff_getElem]
  intro i j hi hj hij
  simp at hi hj
  have := hs i j (Nat.zero_le _) hij hj
  rw [getElem!_pos _ i hi, getElem!_pos _ j hj] at this
  simp [ltOf] at this
  have hsw := h.swap d[i] d[j]
  have hne : cf d[i] d[j] ≠ 0 := fun e => by
    have e' := h.eq _ _ e
    have := (List.getElem_inj (h₀ := by simpa using hi) (h₁ := by simpa using hj) hn).1 (by simpa using e')
    omega
  simp
  omega
theorem compact_asc {α : Type} [Inhabited α] [DecidableEq α] {cf : α → α → Int} (h : CmpOrd cf) {d : Array α} (hs : SortedIn (ltOf cf) 0 d.size d) :
    Asc cf (Lib.compactUpTo d d.size) ∧ ∀ x, x ∈ Lib.compactUpTo d d.size ↔ x ∈ d.toList := by
  have key : ∀ m, m ≤ d.size → Asc cf (Lib.compactUpTo d m) ∧ (∀ x, x ∈ Lib.compactUpTo d m ↔ ∃ j, j < m ∧ d[j]! = x) := by
    intro m
    induction m with
    | zero => intro _; simp [Lib.compactUpTo, Asc]
    | succ m ih =>
      intro hm
      obtain ⟨i1, i2⟩ := ih (by omega)
      rw [Lib.compactUpTo_succ]
      by_cases hk : Lib.keeps d m = true
      · rw [if_pos hk]
        constructor
        · unfold Asc
          rw [List.pairwise_append]
          refine ⟨i1, by simp, ?_⟩
          intro x hx y hy
          simp at hy; subst hy
          obtain ⟨j, hj, rfl⟩ := (i2 x).1 hx
          have h1 := hs j m (Nat.zero_le _) hj (by omega)
          simp [ltOf] at h1
          have hsw := h.swap d[j]! d[m]!
          have hne : cf d[j]! d[m]! ≠ 0 := fun e => by
            have e' := h.eq _ _ e
            have hk' : m = 0 ∨ d[m]! ≠ d[m - 1]! := by simpa [Lib.keeps] using hk
            rcases hk' with h0 | h0
            · omega
            · apply h0
              by_cases hjm : j = m - 1
              · rw [← hjm, e']
              · have h2 := hs j (m - 1) (Nat.zero_le _) (by omega) (by omega)
                have h3 := hs (m - 1) m (Nat.zero_le _) (by omega) (by omega)
                rw [e'] at h2
                exact (h.total _ _ h3 h2)
          omega
        · intro x
          rw [List.mem_append, i2 x]
          constructor
          · rintro (⟨j, hj, e⟩ | hx)
            · exact ⟨j, by omega, e⟩
            · simp at hx; exact ⟨m, by omega, hx.symm⟩
          · rintro ⟨j, hj, e⟩
            by_cases hjm : j = m
            · right; subst hjm; simp [e]
            · left; exact ⟨j, by omega, e⟩
      · rw [if_neg hk, List.append_nil]
        refine ⟨i1, fun x => ?_⟩
        rw [i2 x]
        have hk' : ¬ (m = 0 ∨ d[m]! ≠ d[m - 1]!) := by simpa [Lib.keeps] using hk
        have h0 : m ≠ 0 := fun e => hk' (.inl e)
        have h1 : d[m]! = d[m - 1]! := by
          by_cases e : d[m]! = d[m - 1]!
          · exact e
          · exact absurd (.inr e) hk'
        constructor
        · rintro ⟨j, hj, e⟩; exact ⟨j, by omega, e⟩
        · rintro ⟨j, hj, e⟩
          by_cases hjm : j = m
          · subst hjm; exact ⟨j - 1, by omega, by rw [← h1, e]⟩
          · exact ⟨j, by omega, e⟩
  obtain ⟨k1, k2⟩ := key d.size (Nat.le_refl _)
  refine ⟨k1, fun x => (k2 x).trans ?_⟩
  constructor
  · rintro ⟨j, hj, rfl⟩
    rw [getElem!_pos _ j hj]; simp
  · intro hx
    obtain ⟨j, hj, e⟩ := List.getElem_of_mem hx
    simp at hj e
    exact ⟨j, hj, by rw [getElem!_pos _ j hj]; exact e⟩
end Go.Proofs.YtlpngibdplnieaaGreatDoor

/- append of whatever a slice holds, of nothing and of nil too, onto a row of the call's own. -/
namespace Go.Proofs.YtlpngibdplnieaaGreatDoor
open Go Go.RowKit Go.Shelf

/-- A slice that holds those cells, in a block below n₀; nil, if there are none. -/
def RowIn (w : World) (n₀ : Nat) (x : Value) (m : Nat) (news : List Value) : Prop :=
  (x = .slice none 0 0 ∧ m = 0 ∧ news = []) ∨ (∃ ad c, x = .slice (some ad) m c ∧ (news ≠ [] → ad.block < n₀) ∧ ∀ j u, news[j]? = some u → w.cell? (ad.add j) = some u)

theorem RowIn.below {w w' : World} {n₀ : Nat} {x : Value} {m : Nat} {news : List Value} (h : RowIn w n₀ x m news) (hb : Below n₀ w w') : RowIn w' n₀ x m news := by
  rcases h with h | ⟨ad, c, hx, hl, hc⟩
  · exact .inl h
  · exact .inr ⟨ad, c, hx, hl, fun j u hj => (hb.cell (p := ad.add j) (by unfold Addr.add; split <;> exact hl (fun e => by rw [e] at hj; cases hj))).trans (hc j u hj)⟩
theorem row_one {w : World} {b c : Nat} {x : Value} (h : w.cell? ⟨b, 0, none⟩ = some x) : RowIn w (b + 1) (.slice (some ⟨b, 0, none⟩) 1 c) 1 [x] :=
  .inr ⟨_, _, rfl, fun _ => Nat.lt_succ_self _, fun j u hj => by
    match j, hj with
    | 0, hj => simp at hj; subst hj; simp [Addr.add, h]⟩
theorem own_ge {w : World} {base : Nat} {e : TypeId} {size : Nat} {v : Value} {n : Nat} {xs : List Value} (h : w.ownsRow base e size v n xs) : ∀ k, v.ownBlock = some k → base ≤ k := by
  intro k hk
  rcases h.2 with ⟨rfl, _⟩ | ⟨g, cap, cur, rfl, hb, _⟩
  · cases hk
  · injection hk with hk
    rw [← hk]; exact hb
/-- A row of nothing, that was just made. -/
theorem own_empty {w : World} {base b : Nat} {e : TypeId} {size : Nat} (h : w.heap[b]? = some (.cells #[] e (0, 0))) (hb : base ≤ b) : w.ownsRow base e size (.slice (some ⟨b, 0, none⟩) 0 0) 0 [] :=
  ⟨by simp, .inr ⟨b, 0, #[], rfl, hb, h, Nat.le_refl _, by decide, by simp, by simp⟩⟩
theorem cell_new1 {w : World} {b : Nat} {x : Value} {t : TypeId} (hb : b = w.heap.size) : (w.alloc (.cells #[x] t)).cell? ⟨b, 0, none⟩ = some x := by
  subst hb
  simp
theorem cell_old1 {w : World} {b : Nat} {x : Value} {o : Obj} (h : w.cell? ⟨b, 0, none⟩ = some x) : (w.alloc o).cell? ⟨b, 0, none⟩ = some x :=
  (World.cell?_alloc_lt _ _ _ (World.block_lt_of_cell? w _ h)).trans h
theorem heap_new {w : World} {o : Obj} {k : Nat} (h : k = w.heap.size) : (w.alloc o).heap[k]? = some o := by
  show (w.heap.push o)[k]? = _
  rw [Array.getElem?_push, if_pos h]
theorem heap_old {w : World} {o : Obj} {k : Nat} (h : k ≠ w.heap.size) : (w.alloc o).heap[k]? = w.heap[k]? := by
  show (w.heap.push o)[k]? = _
  rw [Array.getElem?_push, if_neg h]
theorem addr0 (g j : Nat) : (⟨g, 0, none⟩ : Addr).add j = ⟨g, j, none⟩ := by unfold Addr.add; split <;> simp_all
theorem addrk (g k j : Nat) : (⟨g, k, none⟩ : Addr).add j = ⟨g, k + j, none⟩ := by unfold Addr.add; split <;> simp_all

theorem RowIn.mono {w : World} {n₀ n₁ : Nat} {x : Value} {m : Nat} {news : List Value} (h : RowIn w n₀ x m news) (hn : n₀ ≤ n₁) : RowIn w n₁ x m news := by
  rcases h with h | ⟨ad, c, hx, hl, hc⟩
  · exact .inl h
  · exact .inr ⟨ad, c, hx, fun h => Nat.lt_of_lt_of_le (hl h) hn, hc⟩
theorem own_rowIn {w : World} {base : Nat} {e : TypeId} {size : Nat} {v : Value} {n : Nat} {xs : List Value} (h : w.ownsRow base e size v n xs) : RowIn w w.heap.size v n xs := by
  have hl := h.1
  rcases h.2 with ⟨rfl, rfl⟩ | ⟨g, cap, cur, rfl, _, hg, _⟩
  · exact .inl ⟨rfl, rfl, List.eq_nil_of_length_eq_zero (by simpa using hl)⟩
  · exact .inr ⟨_, _, rfl, fun _ => (Array.getElem?_eq_some_iff.1 hg).1, h.cells (g := g) rfl⟩
theorem own_base {w : World} {base base' : Nat} {e : TypeId} {size : Nat} {v : Value} {n : Nat} {xs : List Value} (h : w.ownsRow base e size v n xs) (hb : base' ≤ base) : w.ownsRow base' e size v n xs := by
  refine ⟨h.1, ?_⟩
  rcases h.2 with h | ⟨g, cap, cur, e, hg, rest⟩
  · exact .inl h
  · exact .inr ⟨g, cap, cur, e, Nat.le_trans hb hg, rest⟩
theorem below_grow1 {n₀ : Nat} {a w w' : World} {row : Option Nat} (h : Below n₀ a w) (hg : w.grownBy w' row) (hr : ∀ k, row = some k → a.heap.size ≤ k) (hn : n₀ ≤ a.heap.size) : Below n₀ a w' :=
  h.grown hg (Nat.le_trans hn h.size) (fun k e => Nat.le_trans hn (hr k e))

theorem run_append_zero {P : Program} (w : World) (t ty e : TypeId) (i : TypeInfo) (ht : P.underlying t = some (.slice e)) (hi : P.info? e = some i) (p : Option Addr) (n c : Nat) (hn : n ≤ c) (q : Option Addr) (d : Nat) :
    (Builtin.append_ #[t, t] ty #[.slice p n c, .slice q 0 d]).run P w = .ok (.slice p n c) w := by
  cases p <;> cases q <;> simp [Builtin.append_, run_underlying ht, sizeOf, typeInfo, hi, Builtin.lenOf, Builtin.firstCells, loadCells, loadCellsFrom, storeCells, hn]

theorem run_append_any {P : Program} (w : World) (base : Nat) (t ty e : TypeId) (i : TypeInfo) (z : Value) (size bytes : Nat) (ht : P.underlying t = some (.slice e)) (hi : P.info? e = some i) (hz : i.zero = some z)
    (hsize : i.size = size) (hby : i.bytes = bytes) (hzs : z.cells.size = size) (hsz : 0 < size)
    (v : Value) (n : Nat) (xs : List Value) (hown : w.ownsRow base e size v n xs)
    (n₀ : Nat) (x : Value) (m : Nat) (news : List Value) (hx : RowIn w n₀ x m news) (hl : news.length = m * size) (h1 : ∀ u ∈ news, u.oneCell' = true)
    (h63 : n + m ≤ maxLen) (hbytes : (n + m) * bytes ≤ 140737488355328) (hbase : base ≤ w.heap.size) :
    ∃ v' w', (Builtin.append_ #[t, t] ty #[v, x]).run P w = .ok v' w' ∧ w'.ownsRow base e size v' (n + m) (xs ++ news) ∧ w.grownBy w' v.ownBlock ∧ (v'.ownBlock = v.ownBlock ∨ v'.ownBlock = some w.heap.size) := by
  rcases hx with ⟨rfl, rfl, rfl⟩ | ⟨ad, c, rfl, _, hnews⟩
  · have hsh : ∃ p c, v = .slice p n c ∧ n ≤ c := by
      rcases hown.2 with ⟨rfl, rfl⟩ | ⟨g, cap, cur, rfl, _, _, h, _⟩
      · exact ⟨none, 0, rfl, Nat.le_refl _⟩
      · exact ⟨_, _, rfl, h⟩
    obtain ⟨p, c, rfl, hc⟩ := hsh
    exact ⟨_, w, run_append_zero w t ty e i ht hi p n c hc none 0, by simpa using hown, ⟨rfl, rfl, rfl, Nat.le_refl _, fun _ _ _ => rfl⟩, .inl rfl⟩
  · obtain ⟨v', w', hr, h2, h3, _, h5⟩ := run_append_own_at (P := P) w base t ty e i z size bytes ht hi hz hsize hby hzs hsz v n xs hown ad m c news hl hnews h1 h63 hbytes hbase
    exact ⟨v', w', hr, h2, h3, h5⟩

theorem wp_append_any {P : Program} {w : World} {o : Oper} {a : Act} {K : Act → World → Prop} {Q : Exit → Act → World → Prop} (s x : Operand) (t : TypeId)
    (ho : o.op = .call { callee := .builtin .append, args := #[s, x], argTypes := #[t, t] })
    (base : Nat) (e : TypeId) (i : TypeInfo) (z : Value) (size bytes : Nat) (ht : P.underlying t = some (.slice e)) (hi : P.info? e = some i) (hz : i.zero = some z)
    (hsize : i.size = size) (hby : i.bytes = bytes) (hzs : z.cells.size = size) (hsz : 0 < size)
    (v : Value) (n : Nat) (xs : List Value) (hs : a.eval s = v) (hown : w.ownsRow base e size v n xs)
    (n₀ : Nat) (xv : Value) (m : Nat) (news : List Value) (hxv : a.eval x = xv) (hx : RowIn w n₀ xv m news) (hl : news.length = m * size) (h1 : ∀ u ∈ news, u.oneCell' = true)
    (h63 : n + m ≤ maxLen) (hbytes : (n + m) * bytes ≤ 140737488355328) (hbase : base ≤ w.heap.size)
    (h : ∀ v' w', w'.ownsRow base e size v' (n + m) (xs ++ news) → w.grownBy w' v.ownBlock → (∀ k, v.ownBlock = some k → base ≤ k) → (v'.ownBlock = v.ownBlock ∨ v'.ownBlock = some w.heap.size) → K (a.put o.dst v') w') : o.wp P a w K Q := by
  obtain ⟨v', w', hr, h2, h3, h5⟩ := run_append_any (P := P) w base t o.type e i z size bytes ht hi hz hsize hby hzs hsz v n xs hown n₀ xv m news hx hl h1 h63 hbytes hbase
  unfold Oper.wp execOp
  simp only [ho, resolve, invoke, builtin, Sem.run_bind, Sem.run_pure, Result.andThen_ok, List.map_toArray, List.map_cons, List.map_nil, hs, hxv, hr]
  exact h v' w' h2 h3 (own_ge hown) h5

theorem wpList_append_any {P : Program} {w : World} {ops : Array Oper} {rest : List Oper} {o : Oper} {a : Act} {Q : Exit → Act → World → Prop} (hgd : o.guard = none) (s x : Operand) (t : TypeId)
    (ho : o.op = .call { callee := .builtin .append, args := #[s, x], argTypes := #[t, t] })
    (base : Nat) (e : TypeId) (i : TypeInfo) (z : Value) (size bytes : Nat) (ht : P.underlying t = some (.slice e)) (hi : P.info? e = some i) (hz : i.zero = some z)
    (hsize : i.size = size) (hby : i.bytes = bytes) (hzs : z.cells.size = size) (hsz : 0 < size)
    (v : Value) (n : Nat) (xs : List Value) (hs : a.eval s = v) (hown : w.ownsRow base e size v n xs)
    (n₀ : Nat) (xv : Value) (m : Nat) (news : List Value) (hxv : a.eval x = xv) (hx : RowIn w n₀ xv m news) (hl : news.length = m * size) (h1 : ∀ u ∈ news, u.oneCell' = true)
    (h63 : n + m ≤ maxLen) (hbytes : (n + m) * bytes ≤ 140737488355328) (hbase : base ≤ w.heap.size)
    (h : ∀ v' w', w'.ownsRow base e size v' (n + m) (xs ++ news) → w.grownBy w' v.ownBlock → (∀ k, v.ownBlock = some k → base ≤ k) → (v'.ownBlock = v.ownBlock ∨ v'.ownBlock = some w.heap.size) → wpList P ops Q rest (a.put o.dst v') w') : wpList P ops Q (o :: rest) a w :=
  wpList_plain hgd fun _ hK => wp_append_any s x t ho base e i z size bytes ht hi hz hsize hby hzs hsz v n xs hs hown n₀ xv m news hxv hx hl h1 h63 hbytes hbase fun v' w' h2 h3 h4 h5 => hK _ _ (h v' w' h2 h3 h4 h5)

theorem step_append_any {P : Program} {w : World} {ops : Array Oper} {o : Oper} {a : Act} {K : Act → World → Prop} {Q : Exit → Act → World → Prop} {E : Prop} (hgd : o.guard = none) (s x : Operand) (t : TypeId)
    (ho : o.op = .call { callee := .builtin .append, args := #[s, x], argTypes := #[t, t] })
    (base : Nat) (e : TypeId) (i : TypeInfo) (z : Value) (size bytes : Nat) (ht : P.underlying t = some (.slice e)) (hi : P.info? e = some i) (hz : i.zero = some z)
    (hsize : i.size = size) (hby : i.bytes = bytes) (hzs : z.cells.size = size) (hsz : 0 < size)
    (v : Value) (n : Nat) (xs : List Value) (hs : a.eval s = v) (hown : w.ownsRow base e size v n xs)
    (n₀ : Nat) (xv : Value) (m : Nat) (news : List Value) (hxv : a.eval x = xv) (hx : RowIn w n₀ xv m news) (hl : news.length = m * size) (h1 : ∀ u ∈ news, u.oneCell' = true)
    (h63 : n + m ≤ maxLen) (hbytes : (n + m) * bytes ≤ 140737488355328) (hbase : base ≤ w.heap.size)
    (h : ∀ v' w', w'.ownsRow base e size v' (n + m) (xs ++ news) → w.grownBy w' v.ownBlock → (∀ k, v.ownBlock = some k → base ≤ k) → (v'.ownBlock = v.ownBlock ∨ v'.ownBlock = some w.heap.size) → K (a.put o.dst v') w') :
    if Region.wanted o (yielded ops a.tmps) = true then Oper.wp P o a w K Q else E := by
  have hw : Region.wanted o (yielded ops a.tmps) = true := by simp [Region.wanted, hgd]
  rw [if_pos hw]
  exact wp_append_any s x t ho base e i z size bytes ht hi hz hsize hby hzs hsz v n xs hs hown n₀ xv m news hxv hx hl h1 h63 hbytes hbase h

/-- An ascending list with one more in its place. -/
theorem asc_insert {α : Type} {cf : α → α → Int} (h : CmpOrd cf) {ds : List α} {d : α} {k : Nat} (hk : k ≤ ds.length) (ha : Asc cf ds) (hlt : ∀ j (hj : j < ds.length), j < k → cf ds[j] d < 0) (hge : ∀ hk : k < ds.length, ¬ cf ds[k] d < 0 ∧ ds[k] ≠ d) : Asc cf (ds.take k ++ [d] ++ ds.drop k) := by
  have hgt : ∀ x ∈ ds.drop k, cf d x < 0 := by
    intro x hx
    obtain ⟨j, hj, rfl⟩ := List.getElem_of_mem hx
    rw [List.length_drop] at hj
    have hk' : k < ds.length := by omega
    obtain ⟨h1, h2⟩ := hge hk'
    have h0 : cf d ds[k] < 0 := by
      have hs := h.swap ds[k] d
      have : cf ds[k] d ≠ 0 := fun e => h2 (h.eq _ _ e)
      omega
    rw [List.getElem_drop]
    by_cases hj0 : j = 0
    · subst hj0; exact h0
    · have := List.pairwise_iff_getElem.1 ha k (k + j) hk' (by omega) (by omega)
      exact h.trans _ _ _ h0 this
  have hbef : ∀ x ∈ ds.take k, cf x d < 0 := by
    intro x hx
    obtain ⟨j, hj, rfl⟩ := List.getElem_of_mem hx
    rw [List.length_take] at hj
    rw [List.getElem_take]
    exact hlt j (by omega) (by omega)
  unfold Asc at *
  rw [List.append_assoc, List.pairwise_append]
  refine ⟨ha.sublist (List.take_sublist _ _), ?_, ?_⟩
  · rw [List.singleton_append, List.pairwise_cons]
    exact ⟨hgt, ha.sublist (List.drop_sublist _ _)⟩
  · intro x hx y hy
    rw [List.singleton_append, List.mem_cons] at hy
    rcases hy with rfl | hy
    · exact hbef x hx
    · exact h.trans _ _ _ (hbef x hx) (hgt y hy)
theorem mem_insert {α : Type} {ds : List α} {d : α} (k : Nat) (x : α) : x ∈ ds.take k ++ [d] ++ ds.drop k ↔ x ∈ ds ∨ x = d := by
  have h : x ∈ ds ↔ x ∈ ds.take k ∨ x ∈ ds.drop k := by
    rw [← List.mem_append, List.take_append_drop]
  rw [h]
  simp only [List.mem_append, List.mem_singleton]
  constructor
  · rintro ((h | h) | h)
    · exact .inl (.inl h)
    · exact .inr h
    · exact .inl (.inr h)
  · rintro ((h | h) | h)
    · exact .inl (.inl h)
    · exact .inr h
    · exact .inl (.inr h)
end Go.Proofs.YtlpngibdplnieaaGreatDoor

/- A range over a function whose iterator writes its own captured variables between two rounds: the law of the walk for such a loop. -/
namespace Go.Proofs.YtlpngibdplnieaaGreatDoor
open Go Go.RowKit
variable {F : Fence} {n : Nat} {P : Program}

/-- J stands through the iterator's own steps: new blocks, draws, a turn of a walk's object laid from B on, a turn of one of its private blocks. -/
def AbidesP {β : Type} (B : Nat) (Pb : Nat → Prop) (J : β → World → Prop) : Prop :=
  ∀ s W W' row, J s W → W.grownBy W' row → (∀ r, row = some r → (B ≤ r ∧ ∃ o : Obj, W.heap[r]? = some o ∧ o.isWalk = true) ∨ Pb r) → J s W'
def OwnP {β : Type} (B : Nat) (Pb : Nat → Prop) (I : β → World → Prop) : Prop :=
  ∀ s W W' row, I s W → W.grownBy W' row → (∀ r, row = some r → (B ≤ r ∧ ∃ o : Obj, W.heap[r]? = some o ∧ o.isCells = false) ∨ Pb r) → I s W'
theorem OwnP.putObj {β : Type} {B : Nat} {Pb : Nat → Prop} {I : β → World → Prop} (h : OwnP B Pb I) {s : β} {W : World} {l : Nat} {o : Obj} (o' : Obj) (hs : I s W) (hB : B ≤ l) (hl : W.heap[l]? = some o) (ho : o.isCells = false) : I s (W.putObj l o') :=
  h s W _ (some l) hs (grownBy_putObj' W l o') (fun r e => by cases e; exact .inl ⟨hB, o, hl, ho⟩)
theorem OwnP.alloc {β : Type} {B : Nat} {Pb : Nat → Prop} {I : β → World → Prop} (h : OwnP B Pb I) {s : β} {W : World} (o : Obj) (hs : I s W) : I s (W.alloc o) :=
  h s W _ none hs (World.grownBy_alloc W o none) (fun r e => by cases e)
theorem OwnP.and {β : Type} {B : Nat} {Pb : Nat → Prop} {I I' : β → World → Prop} (h : OwnP B Pb I) (h' : OwnP B Pb I') : OwnP B Pb (fun s W => I s W ∧ I' s W) := fun s W W' row hs hg hr => ⟨h s W W' row hs.1 hg hr, h' s W W' row hs.2 hg hr⟩
theorem ownP_pure {β : Type} (B : Nat) (Pb : Nat → Prop) (p : β → Prop) : OwnP B Pb (fun s (_ : World) => p s) := fun _ _ _ _ hs _ _ => hs
theorem ownP_below {β : Type} {B n₀ : Nat} {Pb : Nat → Prop} {w₀ : World} (h0 : n₀ ≤ w₀.heap.size) (hB : n₀ ≤ B) (hP : ∀ r, Pb r → n₀ ≤ r) : OwnP B Pb (fun (_ : β) W => Below n₀ w₀ W) :=
  fun _ X Y row hs hg hr => hs.grown hg (Nat.le_trans h0 hs.size) (fun k e => by rcases hr k e with h | h; exact Nat.le_trans hB h.1; exact hP k h)
theorem ownP_box {β : Type} {B b : Nat} {Pb : Nat → Prop} {cs : β → Array Value} {t : TypeId} (hP : ¬ Pb b) : OwnP B Pb (fun s W => W.heap[b]? = some (.cells (cs s) t (0, 0))) :=
  fun s X Y row hs hg hr => (hg.block b (Array.getElem?_eq_some_iff.1 hs).1 (fun e => by
    rcases hr b e.symm with ⟨_, o, ho, hc⟩ | h
    · rw [show X.heap[b]? = _ from hs] at ho; cases ho; cases hc
    · exact hP h)).trans hs

def SeqStopsP {α : Type} (F : Fence) (n : Nat) (P : Program) (g : Nat) (lb : Array Value) (encs : α → Array Value) (Kp : World → World → Prop) (Pb : Nat → Prop) (S Sp : List α → Prop) (Y : List α → α → Prop) (w : World) : Prop :=
  ∀ (l : Nat) (J Jx : List α → World → Prop) (W : World), Below w.heap.size w W → AbidesP W.heap.size Pb J → AbidesP W.heap.size Pb Jx →
    (∀ pre x W1, J pre W1 → Y pre x → YieldAt F (n - 1) P l (encs x) W1 fun e W' =>
      (e = .returned (.bool true) ∧ J (pre ++ [x]) W' ∧ Kp W1 W') ∨ (e = .returned (.bool false) ∧ Jx (pre ++ [x]) W')) →
    J [] W →
    CallsIn F n P g (#[.func (.yield l) #[] #[]] ++ lb) W fun e W' => (∃ v, e = .returned v) ∧ ((∃ xs, S xs ∧ J xs W') ∨ (∃ pre, Sp pre ∧ Jx pre W'))

/-- What a round must keep for an iterator with private boxes. -/
def KeepsPriv (Pb : Nat → Prop) (W W' : World) : Prop := W.heap.size ≤ W'.heap.size ∧ ∀ r, Pb r → W'.heap[r]? = W.heap[r]?
theorem KeepsPriv.trans {Pb : Nat → Prop} {A B C : World} (h : KeepsPriv Pb A B) (k : KeepsPriv Pb B C) : KeepsPriv Pb A C := ⟨Nat.le_trans h.1 k.1, fun r hr => (k.2 r hr).trans (h.2 r hr)⟩
theorem KeepsPriv.refl (Pb : Nat → Prop) (W : World) : KeepsPriv Pb W W := ⟨Nat.le_refl _, fun _ _ => rfl⟩
theorem KeepsPriv.below {Pb : Nat → Prop} {n₀ : Nat} {W W' : World} (h : Below n₀ W W') (hP : ∀ r, Pb r → r < n₀) (hs : W.heap.size ≤ W'.heap.size) : KeepsPriv Pb W W' := ⟨hs, fun r hr => h.block r (hP r hr)⟩
theorem keepsPriv_b {Pb : Nat → Prop} {w : World} (hP : ∀ r, Pb r → r < w.heap.size) (W : World) (l : Nat) (o o' : Obj) (hl : w.heap.size ≤ l) (_ : W.heap[l]? = some o) (_ : o.isCells = false) (_ : o.isWalk = false) : KeepsPriv Pb W (W.putObj l o') :=
  ⟨by simp, fun r hr => World.putObj_heap_other (by have := hP r hr; omega)⟩

theorem wpIn_rangeFunc_P {α : Type} {g : Operand} {ps : Array Tmp} {assign body : Code} {Q : Exit → Act → World → Prop} {a : Act} {w : World}
    (hro : F.round = none) (h1 : 1 ≤ n) {gf : Nat} {lb : Array Value} (hg : a.eval g = .func (.func gf) #[] lb) (hFg : F.fn gf) (eg : ∀ args w, (callFunc gf args).run P w = .ok (.enter gf args) w)
    {encs : α → Array Value} {Kp : World → World → Prop} {Pb : Nat → Prop} {S Sp : List α → Prop} {Y : List α → α → Prop} {w0 : World} (hseq : SeqStopsP F (n - 1) P gf lb encs Kp Pb S Sp Y w0)
    (hKt : ∀ {A B C : World}, Kp A B → Kp B C → Kp A C) (hKb : ∀ (W : World) (l : Nat) (o o' : Obj), w.heap.size ≤ l → W.heap[l]? = some o → o.isCells = false → o.isWalk = false → Kp W (W.putObj l o')) (hb0 : Below w0.heap.size w0 w) (hps : ∀ x, (encs x).size = ps.size)
    (hPb : ∀ r, Pb r → r < w.heap.size)
    (I : List α → World → Prop) (Ix : Code → List α → World → Prop) (hI : OwnP w.heap.size Pb I) (hIx : ∀ c, OwnP w.heap.size Pb (Ix c)) (h0 : I [] w) (Ax : α → Act → World → Prop) (hAx : ∀ x a', OwnP w.heap.size Pb (fun (_ : Unit) W => Ax x a' W))
    (hassign : ∀ (l : Nat) (pre : List α) (x : α) (W : World) (K : Act → World → Prop), I pre W → (∀ a' W', KeepsFrom w.heap.size W W' → Kp W W' → I pre W' → Ax x a' W' → K a' W') →
      assign.wpIn (F.inRound l) (n - 1 - 1) P (Exit.then K (fun _ _ _ => False)) { tmps := (ps.zip (encs x)).foldl (fun t (p, v) => t.setIfInBounds p v) a.tmps, defers := [] } W)
    (hbody : ∀ (l : Nat) (pre : List α) (x : α) (a' : Act) (W : World), w.heap.size ≤ l → (∃ r, W.heap[l]? = some (.loop r)) → I pre W → Ax x a' W → Y pre x → body.wpIn (F.inRound l) (n - 1 - 1) P (ownPostG w.heap.size Kp I Ix (pre ++ [x]) W) a' W)
    (hdone : ∀ (D : Nat) (xs : List α) (W : World), w.heap.size ≤ D → S xs → I xs W → W.heap[D]? = some (.deferred (some [])) → Q .normal { a with defers := { target := .collected D, args := #[] } :: a.defers } W)
    (hstop : ∀ (D : Nat) (c : Code) (pre : List α) (W : World), w.heap.size ≤ D → Sp pre → Ix c pre W → W.heap[D]? = some (.deferred (some [])) → c.wpIn F n P Q { a with defers := { target := .collected D, args := #[] } :: a.defers } W) :
    (Code.rangeFunc g ps assign body).wpIn F n P Q a w := by
  refine wpIn_rangeFunc ?_
  intro fn hfn
  rw [hro]
  obtain ⟨rec, hrec⟩ : ∃ rec : LoopState → Option Code → Loop, rec = fun st pe => { state := st, pending := pe, fn, tmps := a.tmps, params := ps, assign, body, defers := w.heap.size } := ⟨_, rfl⟩
  obtain ⟨W1, hW1⟩ : ∃ W1, (w.alloc (.deferred (some []))).alloc (.loop (rec .ready none)) = W1 := ⟨_, rfl⟩
  have hL1 : W1.heap[w.heap.size + 1]? = some (.loop (rec .ready none)) := by
    rw [← hW1]; have := World.alloc_heap_new (w.alloc (.deferred (some []))) (.loop (rec .ready none)); rwa [World.size_alloc] at this
  have hK1 : W1.heap[w.heap.size]? = some (.deferred (some [])) := by
    rw [← hW1]; exact (Below.heap_alloc _ _ _ (by simp)).trans (World.alloc_heap_new w _)
  have hI1 : I [] W1 := by rw [← hW1]; exact hI.alloc _ (hI.alloc _ h0)
  have hb1 : Below w0.heap.size w0 W1 := by
    rw [← hW1]; exact hb0.trans ((((Below.refl _ w).alloc (Nat.le_refl _) _).alloc (by simp) _).mono hb0.size)
  have hkeep : ∀ {A B : World} {row : Option Nat} {k : Nat} {o : Obj}, A.grownBy B row → (∀ r, row = some r → (W1.heap.size ≤ r ∧ ∃ o : Obj, A.heap[r]? = some o ∧ o.isWalk = true) ∨ Pb r) → w.heap.size ≤ k → A.heap[k]? = some o → o.isWalk = false → B.heap[k]? = some o :=
    fun {A B row k o} hg' hr hk ho hw => (hg'.block k (Array.getElem?_eq_some_iff.1 ho).1 (fun e => by
      rcases hr k e.symm with ⟨_, o', ho', hw'⟩ | h
      · rw [ho] at ho'; cases ho'; rw [hw] at hw'; cases hw'
      · have := hPb k h; omega)).trans ho
  refine ⟨w.heap.size + 1, [{ target := .collected w.heap.size, args := #[] }], W1, { target := .fn (.func gf) lb, args := #[.func (.yield (w.heap.size + 1)) #[] #[]] }, W1, gf,
    #[.func (.yield (w.heap.size + 1)) #[] #[]] ++ lb, W1, ?_, ?_, ?_, ?_, fun _ => h1, ?_⟩
  · rw [← hW1, hrec]; exact run_enterLoop_outer _ _ _ _ _
  · simp only [resolve, hg]
    simp [go_sem]
  · intro f' hf'; simp [Target.leads] at hf'; subst hf'; exact hFg
  · simp [invoke, go_sem, eg]
  · have hnw : ∀ {A B : World} {row : Option Nat}, (∀ r, row = some r → (W1.heap.size ≤ r ∧ ∃ o : Obj, A.heap[r]? = some o ∧ o.isWalk = true) ∨ Pb r) → (∀ r, row = some r → (w.heap.size ≤ r ∧ ∃ o : Obj, A.heap[r]? = some o ∧ o.isCells = false) ∨ Pb r) :=
      fun hr r e => by
        rcases hr r e with ⟨hB, o, ho, hw⟩ | h
        · exact .inl ⟨by rw [← hW1] at hB; simp at hB; omega, o, ho, Obj.not_cells_of_walk hw⟩
        · exact .inr h
    refine (hseq (w.heap.size + 1)
      (fun pre W => I pre W ∧ W.heap[w.heap.size + 1]? = some (.loop (rec .ready none)) ∧ W.heap[w.heap.size]? = some (.deferred (some [])))
      (fun pre W => ∃ c, Ix c pre W ∧ W.heap[w.heap.size + 1]? = some (.loop (rec .done (some c))) ∧ W.heap[w.heap.size]? = some (.deferred (some [])))
      W1 hb1
      (fun s A B row hs hg' hr => ⟨hI s A B row hs.1 hg' (hnw (B := B) hr), hkeep hg' hr (by omega) hs.2.1 rfl, hkeep hg' hr (Nat.le_refl _) hs.2.2 rfl⟩)
      (fun s A B row hs hg' hr => by
        obtain ⟨c, hc, hl, hk⟩ := hs
        exact ⟨c, hIx c s A B row hc hg' (hnw (B := B) hr), hkeep hg' hr (by omega) hl rfl, hkeep hg' hr (Nat.le_refl _) hk rfl⟩)
      ?_ ⟨hI1, hL1, hK1⟩).mono ?_
    · rintro pre x W ⟨hi, hl, hk⟩ hlen
      have hlt : w.heap.size + 1 < W.heap.size := (Array.getElem?_eq_some_iff.1 hl).1
      have hy := run_yield (P := P) (args := encs x) hl (by rw [hrec]; exact hps x)
      rw [hrec] at hy
      refine ⟨fn, _, assign, body, hy, roundIn_of_wpIn hfn (hassign _ pre x W _ hi ?_)⟩
      clear hy
      intro a' Wa hkfa hkpa hia hax
      replace hl := hkfa.same _ _ (by omega) hl rfl
      replace hk := hkfa.same _ _ (Nat.le_refl _) hk rfl
      replace hlt : w.heap.size + 1 < Wa.heap.size := (Array.getElem?_eq_some_iff.1 hl).1
      replace hi := hia
      clear hia
      revert hkpa hkfa
      generalize W = Wb
      intro hkfa hkpa
      obtain ⟨W, rfl⟩ : ∃ W, W = Wa := ⟨_, rfl⟩
      refine ⟨_, run_beginRound hl (by rw [hrec]), ?_⟩
      have hl2 : (W.putObj (w.heap.size + 1) (.loop { rec .ready none with state := .busy })).heap[w.heap.size + 1]? = some (.loop { rec .ready none with state := .busy }) := World.putObj_heap_same hlt
      have hk2 : (W.putObj (w.heap.size + 1) (.loop { rec .ready none with state := .busy })).heap[w.heap.size]? = some (.deferred (some [])) := (World.putObj_heap_other (by omega)).trans hk
      have hw2 : Kp W (W.putObj (w.heap.size + 1) (.loop { rec .ready none with state := .busy })) := hKb _ _ _ _ (by omega) hl rfl rfl
      refine wpIn_mono (hbody _ pre x a' _ (by omega) ⟨_, hl2⟩ (hI.putObj _ hi (by omega) hl rfl) ((hAx x a').putObj (s := ()) _ hax (by omega) hl rfl) hlen) ?_
      have fin : ∀ (jump : Option Code) (W3 : World), KeepsFrom w.heap.size (W.putObj (w.heap.size + 1) (.loop { rec .ready none with state := .busy })) W3 →
          (Instr.endRound (w.heap.size + 1) jump).run P W3 = .ok (.bool jump.isNone) (W3.putObj (w.heap.size + 1) (.loop (rec (if jump.isNone then .ready else .done) jump))) ∧
          W3.heap[w.heap.size + 1]? = some (.loop { rec .ready none with state := .busy }) ∧
          (W3.putObj (w.heap.size + 1) (.loop (rec (if jump.isNone then .ready else .done) jump))).heap[w.heap.size + 1]? = some (.loop (rec (if jump.isNone then .ready else .done) jump)) ∧
          (W3.putObj (w.heap.size + 1) (.loop (rec (if jump.isNone then .ready else .done) jump))).heap[w.heap.size]? = some (.deferred (some [])) := fun jump W3 hk3 => by
        have hl3 := hk3.same _ _ (by omega) hl2 rfl
        have := run_endRound (P := P) jump hl3
        rw [hrec] at this ⊢
        exact ⟨this, by rw [hrec] at hl3; exact hl3, World.putObj_heap_same (Array.getElem?_eq_some_iff.1 hl3).1, (World.putObj_heap_other (by omega)).trans (hk3.same _ _ (Nat.le_refl _) hk2 rfl)⟩
      rintro e a3 W3 hp
      cases e with
      | normal =>
        obtain ⟨hk3, hkp3, hi3⟩ := hp
        obtain ⟨hr, hl3, hl4, hk4⟩ := fin none W3 hk3
        exact ⟨_, _, hr, .inl ⟨rfl, ⟨hI.putObj _ hi3 (by omega) hl3 rfl, hl4, hk4⟩, hKt hkpa (hKt (hKt hw2 hkp3) (hKb _ _ _ _ (by omega) hl3 rfl rfl))⟩⟩
      | ret =>
        obtain ⟨hk3, hi3⟩ := hp
        obtain ⟨hr, hl3, hl4, hk4⟩ := fin (some .ret) W3 hk3
        exact ⟨_, _, hr, .inr ⟨rfl, .ret, (hIx _).putObj _ hi3 (by omega) hl3 rfl, hl4, hk4⟩⟩
      | exit id =>
        obtain ⟨hk3, hi3⟩ := hp
        obtain ⟨hr, hl3, hl4, hk4⟩ := fin (some (.exit id)) W3 hk3
        exact ⟨_, _, hr, .inr ⟨rfl, .exit id, (hIx _).putObj _ hi3 (by omega) hl3 rfl, hl4, hk4⟩⟩
      | goto t =>
        obtain ⟨hk3, hi3⟩ := hp
        obtain ⟨hr, hl3, hl4, hk4⟩ := fin (some (.goto t)) W3 hk3
        exact ⟨_, _, hr, .inr ⟨rfl, .goto t, (hIx _).putObj _ hi3 (by omega) hl3 rfl, hl4, hk4⟩⟩
      | panic ch => exact hp.elim
      | outgrown => exact hp.elim
    · rintro e W2 ⟨⟨v, rfl⟩, (⟨xs, hS, hi, hl, hk⟩ | ⟨pre, hSp, c, hi, hl, hk⟩)⟩
      · exact ⟨none, _, by have := run_endLoop (P := P) hl (by rw [hrec]; simp); rw [hrec] at this; exact this, hdone _ xs _ (Nat.le_refl _) hS (hI.putObj _ hi (by omega) hl rfl) ((World.putObj_heap_other (by omega)).trans hk)⟩
      · exact ⟨some c, _, by have := run_endLoop (P := P) hl (by rw [hrec]; simp); rw [hrec] at this; exact this, hstop _ c pre _ (Nat.le_refl _) hSp ((hIx c).putObj _ hi (by omega) hl rfl) ((World.putObj_heap_other (by omega)).trans hk)⟩

/-- The same where the loop variables are not boxed: the activation behind the assignments is known ahead. -/
theorem wpIn_rangeFunc_Q {α : Type} {g : Operand} {ps : Array Tmp} {assign body : Code} {Q : Exit → Act → World → Prop} {a : Act} {w : World}
    (hro : F.round = none) (h1 : 1 ≤ n) {gf : Nat} {lb : Array Value} (hg : a.eval g = .func (.func gf) #[] lb) (hFg : F.fn gf) (eg : ∀ args w, (callFunc gf args).run P w = .ok (.enter gf args) w)
    {encs : α → Array Value} {Kb Pb : Nat → Prop} {S Sp : List α → Prop} {Y : List α → α → Prop} {w0 : World} (hseq : SeqStopsP F (n - 1) P gf lb encs (KeepsPriv Kb) Pb S Sp Y w0)
    (hb0 : Below w0.heap.size w0 w) (hps : ∀ x, (encs x).size = ps.size)
    (hKb : ∀ r, Kb r → r < w.heap.size) (hPb : ∀ r, Pb r → r < w.heap.size)
    (I : List α → World → Prop) (Ix : Code → List α → World → Prop) (hI : OwnP w.heap.size Pb I) (hIx : ∀ c, OwnP w.heap.size Pb (Ix c)) (h0 : I [] w) (a₁ : α → Act)
    (hassign : ∀ (l : Nat) (x : α) (W : World) (K : Act → World → Prop), K (a₁ x) W →
      assign.wpIn (F.inRound l) (n - 1 - 1) P (Exit.then K (fun _ _ _ => False)) { tmps := (ps.zip (encs x)).foldl (fun t (p, v) => t.setIfInBounds p v) a.tmps, defers := [] } W)
    (hbody : ∀ (l : Nat) (pre : List α) (x : α) (W : World), I pre W → Y pre x → body.wpIn (F.inRound l) (n - 1 - 1) P (ownPostG w.heap.size (KeepsPriv Kb) I Ix (pre ++ [x]) W) (a₁ x) W)
    (hdone : ∀ (D : Nat) (xs : List α) (W : World), w.heap.size ≤ D → S xs → I xs W → W.heap[D]? = some (.deferred (some [])) → Q .normal { a with defers := { target := .collected D, args := #[] } :: a.defers } W)
    (hstop : ∀ (D : Nat) (c : Code) (pre : List α) (W : World), w.heap.size ≤ D → Sp pre → Ix c pre W → W.heap[D]? = some (.deferred (some [])) → c.wpIn F n P Q { a with defers := { target := .collected D, args := #[] } :: a.defers } W) :
    (Code.rangeFunc g ps assign body).wpIn F n P Q a w :=
  wpIn_rangeFunc_P hro h1 hg hFg eg hseq (fun h k => h.trans k) (keepsPriv_b hKb) hb0 hps hPb I Ix hI hIx h0 (fun x a' _ => a' = a₁ x) (fun _ _ _ _ _ _ hs _ _ => hs)
    (fun l _ x W K hi hK => hassign l x W K (hK _ _ (KeepsFrom.refl _ _) (KeepsPriv.refl _ _) hi rfl)) (fun l pre x a' W _ _ hi e => by subst e; exact hbody l pre x W hi) hdone hstop
end Go.Proofs.YtlpngibdplnieaaGreatDoor

/- The contracts of package name: label, split and its iterator, May. -/
namespace Go.Proofs.YtlpngibdplnieaaGreatDoor
open Go Go.RowKit Go.Shelf
attribute [local go_sem] Oper.semAt_some

attribute [go_sem] Exit.jump
theorem bs_len (s : ByteArray) : s.data.toList.length = s.size := by simp
theorem bs_get (s : ByteArray) (k : Nat) (h : k < s.size) : s.data.toList[k]'(by simpa using h) = s[k] := rfl
theorem lab_no1 {s : ByteArray} (h : ¬ (1 ≤ s.size)) : labB s.data.toList = false := by simp [labB]; omega
theorem lab_no2 {s : ByteArray} (h : 63 < s.size) : labB s.data.toList = false := by simp [labB]; omega
theorem lab_no3 {s : ByteArray} (h : 0 < s.size) (e : (s[0].toNat : Int) = 45) : labB s.data.toList = false := by
  have : s.data.toList.head? = some s[0] := by rw [List.head?_eq_getElem?]; exact List.getElem?_eq_getElem (by simpa using h)
  have e' : s[0].toNat = 45 := by omega
  simp [labB, this, e']
theorem lab_no4 {s : ByteArray} (h : 0 < s.size) (e : (s[s.size - 1].toNat : Int) = 45) : labB s.data.toList = false := by
  have : s.data.toList.getLast? = some s[s.size - 1] := by rw [List.getLast?_eq_getElem?]; exact List.getElem?_eq_getElem (by simp; omega)
  have e' : s[s.size - 1].toNat = 45 := by omega
  simp [labB, this, e']
theorem lab_no5 {s : ByteArray} {k : Nat} (h : k < s.size) (e : okCh s[k] = false) : labB s.data.toList = false := by
  have : chB s.data.toList = false := by
    unfold chB; rw [List.all_eq_false]
    exact ⟨s[k], List.mem_of_getElem (h := by simpa using h) (bs_get s k h), by simp [e]⟩
  simp [labB, this]

theorem step_dig {s : ByteArray} {k : Nat} (h : k < s.size) (a : 48 ≤ (s[k].toNat : Int)) (b : (s[k].toNat : Int) ≤ 57) (hc : chB (s.data.toList.take k) = true) :
    digB (s.data.toList.take (k + 1)) = digB (s.data.toList.take k) ∧ chB (s.data.toList.take (k + 1)) = true := by
  have hk : k < s.data.toList.length := by simpa using h
  have hd : isDig s[k] = true := by simp [isDig]; omega
  constructor
  · unfold digB; rw [snoc_all _ _ _ hk, bs_get s k h, hd]; simp
  · unfold chB at *; rw [snoc_all _ _ _ hk, bs_get s k h, hc]; simp [okCh, hd]
theorem step_low {s : ByteArray} {k : Nat} (h : k < s.size) (a : 97 ≤ (s[k].toNat : Int)) (b : (s[k].toNat : Int) ≤ 122) (hc : chB (s.data.toList.take k) = true) :
    digB (s.data.toList.take (k + 1)) = false ∧ chB (s.data.toList.take (k + 1)) = true := by
  have hk : k < s.data.toList.length := by simpa using h
  have hd : isDig s[k] = false := by simp [isDig]; omega
  have hl : isLow s[k] = true := by simp [isLow]; omega
  constructor
  · unfold digB; rw [snoc_all _ _ _ hk, bs_get s k h, hd]; simp
  · unfold chB at *; rw [snoc_all _ _ _ hk, bs_get s k h, hc]; simp [okCh, hl]
theorem step_dash {s : ByteArray} {k : Nat} (h : k < s.size) (a : ((s[k].toNat : Int) == 45) = true) (hc : chB (s.data.toList.take k) = true) :
    digB (s.data.toList.take (k + 1)) = false ∧ chB (s.data.toList.take (k + 1)) = true := by
  have hk : k < s.data.toList.length := by simpa using h
  have e : s[k].toNat = 45 := by simp at a; omega
  have hd : isDig s[k] = false := by simp [isDig, e]
  constructor
  · unfold digB; rw [snoc_all _ _ _ hk, bs_get s k h, hd]; simp
  · unfold chB at *; rw [snoc_all _ _ _ hk, bs_get s k h, hc]; simp [okCh, e]
theorem beq_no {a b : Int} (h : (a == b) = false) : ¬ a = b := by simpa using h
theorem okCh_no {b : UInt8} (h1 : ¬ (48 ≤ (b.toNat : Int) ∧ (b.toNat : Int) ≤ 57)) (h2 : ¬ (97 ≤ (b.toNat : Int) ∧ (b.toNat : Int) ≤ 122)) (h3 : ¬ (b.toNat : Int) = 45) : okCh b = false := by
  have h3' : ¬ b.toNat = 45 := by omega
  simp [okCh, isDig, isLow, h3']; omega
theorem lab_yes {s : ByteArray} {k : Nat} (h1 : 1 ≤ s.size) (hk : k ≤ s.size) (h2 : s.size ≤ 63) (h : ¬ k < s.size) (hc : chB (s.data.toList.take k) = true)
    (hd : ¬ (s[0].toNat : Int) = 45) (he : ¬ (s[s.size - 1].toNat : Int) = 45) : labB s.data.toList = true ∧ digB (s.data.toList.take k) = digB s.data.toList := by
  have e : s.data.toList.take k = s.data.toList := List.take_of_length_le (by simp; omega)
  rw [e] at hc ⊢
  refine ⟨?_, rfl⟩
  have a : s.data.toList.head? = some s[0] := by rw [List.head?_eq_getElem?]; exact List.getElem?_eq_getElem (by simp; omega)
  have b : s.data.toList.getLast? = some s[s.size - 1] := by rw [List.getLast?_eq_getElem?]; exact List.getElem?_eq_getElem (by simp; omega)
  have d1 : ¬ s[0].toNat = 45 := by omega
  have d2 : ¬ s[s.size - 1].toNat = 45 := by omega
  simp [labB, hc, a, b, d1, d2]; omega
theorem lab_no4' {s : ByteArray} (h : 0 < s.size) (_ : 1 ≤ (s.size : Int)) (_ : (s.size : Int) ≤ 63) (_ : ¬ (s[0].toNat : Int) = 45)
    (e : (((s.size : Int) < 1 ∨ 63 < (s.size : Int)) ∨ ((s[0].toNat : Int) == 45) = true) ∨ ((s[s.size - 1].toNat : Int) == 45) = true) : labB s.data.toList = false := by
  refine lab_no4 h ?_
  simp only [beq_iff_eq] at e
  omega

set_option maxHeartbeats 800000 in
theorem label_any (s : ByteArray) (w : World) (hs : s.size ≤ maxLen) :
    Calls Tryz.prog 62 #[.string s] w fun e w' => e = .returned (.tuple #[.bool (labB s.data.toList), .bool (labB s.data.toList && digB s.data.toList)]) ∧ w = w' := by
  unfold maxLen at hs
  go_enter Tryz.func62, Tryz.ntmps62
  go_wp2
  refine wp_scope_jumps 0 (fun a w' => a.tmps.size = 53 ∧ a.defers = [] ∧ w = w' ∧ labB s.data.toList = false) (fun _ _ => 0) rfl ?_ ?_
  · go_wp2
    all_goals try (refine wp_goto ?_; refine ⟨rfl, by simp, rfl, rfl, ?_⟩; first | exact lab_no1 (by omega) | exact lab_no2 (by omega) | exact lab_no3 (by omega) (by assumption) | exact lab_no4' (by omega) (by omega) (by omega) (by assumption) (by assumption))
    have hd : ((1 ≤ (s.size : Int) ∧ (s.size : Int) ≤ 63) ∧ ((s[0].toNat : Int) == 45) = false) ∧ ((s[s.size - 1].toNat : Int) == 45) = false := by assumption
    have e1 : decide ((s.size : Int) < 1) = false := by simp; omega
    have e2 : decide (63 < (s.size : Int)) = false := by simp; omega
    simp only [e1, e2, hd.1.2, hd.2, Bool.or_false]
    have HD := Lib.hid hd
    clear hd e1 e2
    go_loop [3, 29] (fun d i => ∃ k : Nat, k ≤ s.size ∧ i = .int .i64 k ∧ d = .bool (digB (s.data.toList.take k)) ∧ chB (s.data.toList.take k) = true) (fun _ i => s.size - (intOf i).toNat)
    case atStart => exact ⟨0, Nat.zero_le _, rfl, rfl, rfl⟩
    case round =>
      obtain ⟨k, hk, rfl, rfl, hc⟩ := hrel
      have HC := Lib.hid hc
      clear hc
      go_wp2
      · go_round
        case rel => exact ⟨k + 1, by omega, by go_num, congrArg Value.bool (step_dig (by omega) (by omega) (by omega) HC.out).1.symm, (step_dig (by omega) (by omega) (by omega) HC.out).2⟩
        case measure => simp [intOf]; omega
      · go_round
        case rel => exact ⟨k + 1, by omega, by go_num, congrArg Value.bool (step_low (by omega) (by omega) (by omega) HC.out).1.symm, (step_low (by omega) (by omega) (by omega) HC.out).2⟩
        case measure => simp [intOf]; omega
      · refine wp_goto ?_; refine ⟨rfl, by simp, rfl, rfl, ?_⟩; exact lab_no5 (k := k) (by omega) (okCh_no (by omega) (by omega) (beq_no ‹_›))
      · refine wp_goto ?_; refine ⟨rfl, by simp, rfl, rfl, ?_⟩; exact lab_no5 (k := k) (by omega) (okCh_no (by omega) (by omega) (beq_no ‹_›))
      · go_round
        case rel => exact ⟨k + 1, by omega, by go_num, congrArg Value.bool (step_dash (by omega) ‹_› HC.out).1.symm, (step_dash (by omega) ‹_› HC.out).2⟩
        case measure => simp [intOf]; omega
      · refine wp_goto ?_; refine ⟨rfl, by simp, rfl, rfl, ?_⟩; exact lab_no5 (k := k) (by omega) (okCh_no (by omega) (by omega) (beq_no ‹_›))
      · obtain ⟨y1, y2⟩ := lab_yes (by omega) hk (by omega) (by omega) HC.out (beq_no HD.out.1.2) (beq_no HD.out.2)
        go_ret2
        exact ⟨by rw [y1, y2]; rfl, rfl⟩
  · rintro ⟨tmps, ds⟩ w' ⟨h1, _, rfl, hl⟩
    go_wp2
    refine bodyPost_ret (v := .tuple #[.bool false, .bool false]) ?_ rfl ⟨by rw [hl]; rfl, rfl⟩
    simp [results, Tryz.results62, go_sem, h1]

end Go.Proofs.YtlpngibdplnieaaGreatDoor

/- The contracts of package name: split and its iterator, May. -/
namespace Go.Proofs.YtlpngibdplnieaaGreatDoor
open Go Go.RowKit Go.Shelf
attribute [local go_sem] Oper.semAt_some

/-- What the library's Cut asks of the package variables. -/
def Glob (w : World) : Prop := ∃ m : Int, w.cell? ⟨1, 0, none⟩ = some (.int .i64 m)
def str (l : Bytes) : Value := .string ⟨l.toArray⟩
/-- Blocks below n₀, and the iterator's own box. -/
def KB (n₀ b : Nat) (r : Nat) : Prop := r < n₀ ∨ r = b
theorem box_cell {W : World} {b : Nat} {v : Value} {t : TypeId} (h : W.heap[b]? = some (.cells #[v] t (0, 0))) : W.cell? ⟨b, 0, none⟩ = some v ∧ W.frozen? ⟨b, 0, none⟩ = false := by
  constructor <;> simp [World.cell?, World.frozen?, h]
theorem box_set {W : World} {b : Nat} {v : Value} {t : TypeId} (v' : Value) (h : W.heap[b]? = some (.cells #[v] t (0, 0))) : (W.setCell ⟨b, 0, none⟩ v').heap[b]? = some (.cells #[v'] t (0, 0)) := by
  simp [World.setCell, Array.getElem?_modify, h]
theorem grown_drewN (W : World) (n : Nat) (row : Option Nat) : W.grownBy (W.drewN n) row := ⟨rfl, rfl, rfl, Nat.le_refl _, fun _ _ _ => rfl⟩
theorem grown_set (W : World) (b : Nat) (v : Value) : W.grownBy (W.setCell ⟨b, 0, none⟩ v) (some b) :=
  ⟨rfl, rfl, rfl, by simp [World.setCell], fun k _ hk => Below.heap_setCell _ _ _ k (fun e => hk (by rw [e]))⟩

theorem callW {n : Nat} {P : Program} {f : FuncId} {args : Array Value} {w : World} {R : Ending → World → Prop} (h : Calls P f args w R) :
    Fence.wide.fn f ∧ ((Fence.wide.depth.isSome = true → 1 ≤ n) ∧ CallsIn Fence.wide (n - 1) P f args w R) := ⟨trivial, (fun h => by cases h), callsIn_wide.2 h⟩
theorem box_other {W : World} {b b' : Nat} {cs : Array Value} {t : TypeId} (v : Value) (h : W.heap[b]? = some (.cells cs t (0, 0))) (hne : b ≠ b') : (W.setCell ⟨b', 0, none⟩ v).heap[b]? = some (.cells cs t (0, 0)) :=
  (Below.heap_setCell W ⟨b', 0, none⟩ v b hne).trans h
theorem keepsPriv_set {Kb : Nat → Prop} {W : World} {b : Nat} {v : Value} (h : ¬ Kb b) : KeepsPriv Kb W (W.setCell ⟨b, 0, none⟩ v) :=
  ⟨by simp [World.setCell], fun r hr => Below.heap_setCell W ⟨b, 0, none⟩ v r (fun e => h (by rw [← show r = b from e]; exact hr))⟩
def boxLen (W : World) (b : Nat) : Nat := match W.cell? ⟨b, 0, none⟩ with | some (.string s) => s.size | _ => 0
theorem boxLen_eq {W : World} {b : Nat} {l : Bytes} {t : TypeId} (h : W.heap[b]? = some (.cells #[str l] t (0, 0))) : boxLen W b = l.length := by
  unfold boxLen; rw [(box_cell h).1]; simp [str, ByteArray.size]

set_option maxRecDepth 100000 in
set_option maxHeartbeats 1000000 in
theorem split1_in (n l Bs n₀ : Nat) (s : Bytes) (hs : s.length ≤ 253) (hgl : 1 < n₀) (hBn : n₀ ≤ Bs) (J Jx : List Bytes → World → Prop)
    (W : World) (hJ : AbidesP W.heap.size (· = Bs) J)
    (hY : ∀ pre x W1, J pre W1 → pre ++ [x] <+: parts 46 s → YieldAt Fence.wide (n - 1) Tryz.prog l #[str x] W1 fun e W' =>
      (e = .returned (.bool true) ∧ J (pre ++ [x]) W' ∧ KeepsPriv (KB n₀ Bs) W1 W') ∨ (e = .returned (.bool false) ∧ Jx (pre ++ [x]) W'))
    (hB : W.heap[Bs]? = some (.cells #[str s] 9 (0, 0))) (hg : Glob W) (h0 : J [] W) :
    CallsIn Fence.wide n Tryz.prog 119 #[.func (.yield l) #[] #[], .pointer (some ⟨Bs, 0, none⟩)] W fun e W' => (∃ v, e = .returned v) ∧
      ((∃ xs, xs = parts 46 s ∧ J xs W') ∨ (∃ pre, pre <+: parts 46 s ∧ Jx pre W')) := by
  refine callsIn_of_wp Tryz.func119 rfl trivial ?_ rfl
  simp only [Tryz.ntmps119, List.size_toArray, List.length_cons, List.length_nil, Nat.reduceAdd, Nat.reduceSub, Array.replicate_succ, Array.replicate_zero, List.push_toArray, List.append_toArray, List.nil_append, List.cons_append]
  gi_wp2
  gi_loopw [3] (fun _ wr => ∃ (pre : List Bytes) (rest : Bytes), parts 46 s = pre ++ parts 46 rest ∧ rest.length ≤ s.length ∧ wr.heap[Bs]? = some (.cells #[str rest] 9 (0, 0)) ∧ Glob wr ∧ W.heap.size ≤ wr.heap.size ∧ J pre wr)
    (fun _ wr => boxLen wr Bs)
  case atStart =>
    exact ⟨[], s, rfl, Nat.le_refl _, hB, hg, Nat.le_refl _, h0⟩
  case round =>
    obtain ⟨pre, rest, hp, hlen, hb, ⟨m, hm⟩, hsz, hj⟩ := hrel
    have HP := Lib.hid hp
    clear hp
    have hbl := boxLen_eq hb
    obtain ⟨hc, hf⟩ := box_cell hb
    unfold str at hc
    have hBlt : Bs < wr.heap.size := (Array.getElem?_eq_some_iff.1 hb).1
    have HBL := Lib.hid hbl
    clear hbl
    gi_wp2_with fail
    refine callW ((Tryz.strings_Cut _ _ m wr (by simp [ByteArray.size]; omega) hm).mono ?_)
    rintro e w' ⟨rfl, q, rfl⟩
    have hcut := parts_cut 46 rest
    have e0 : (⟨List.toArray rest⟩ : ByteArray).data.toList = rest := rfl
    have e1 : (⟨#[46]⟩ : ByteArray).data.toList = [46] := rfl
    rw [e0, e1]
    clear e0 e1
    generalize Lib.cut rest [46] = c at hcut ⊢
    obtain ⟨x, y, f⟩ := c
    dsimp only at hcut ⊢
    have hj1 := hJ pre wr (wr.drewN q) none hj (grown_drewN _ _ _) (fun r e => by cases e)
    have hlt : pre ++ [x] <+: parts 46 s := by
      rw [HP.out]
      rcases hcut with ⟨_, h, _⟩ | ⟨_, h, e⟩
      · rw [h]; exact ⟨parts 46 y, by simp⟩
      · rw [h]; exact ⟨[], by simp [e]⟩
    have hb1 : (wr.drewN q).heap[Bs]? = some (.cells #[str rest] 9 (0, 0)) := hb
    have hsz1 : W.heap.size ≤ (wr.drewN q).heap.size := hsz
    have hgl1 : (wr.drewN q).heap[1]? = wr.heap[1]? := rfl
    have HJ1 := Lib.hid (And.intro hj1 (And.intro hb1 hsz1))
    clear hj1 hb1 hsz1
    obtain ⟨fn, tmps, assign, body, hy, hR⟩ := hY pre x (wr.drewN q) HJ1.out.1 hlt
    unfold str at hy
    rcases hcut with ⟨rfl, hp1, hp2⟩ | ⟨rfl, hp1, rfl⟩
    all_goals have HP1 := Lib.hid hp1; clear hp1
    · gi_wp2_with fail
      refine ⟨(fun h => by cases h), hR.mono ?_⟩
      rintro e W3 (⟨rfl, hJ3, hk3⟩ | ⟨rfl, hJx3⟩)
      · have hb3 : W3.heap[Bs]? = some (.cells #[str rest] 9 (0, 0)) := (hk3.2 Bs (.inr rfl)).trans HJ1.out.2.1
        obtain ⟨hc3, hf3⟩ := box_cell hb3
        unfold str at hc3
        have hsz3 : W.heap.size ≤ W3.heap.size := Nat.le_trans HJ1.out.2.2 hk3.1
        have hg3 : Glob (W3.setCell ⟨Bs, 0, none⟩ (.string ⟨y.toArray⟩)) :=
          ⟨m, (World.cell?_of_block ((Below.heap_setCell W3 ⟨Bs, 0, none⟩ _ _ (by show 1 ≠ Bs; omega)).trans ((hk3.2 _ (.inl hgl)).trans hgl1))).trans hm⟩
        have HB3 := Lib.hid (And.intro hb3 hg3)
        clear hb3 hg3 hgl1 hc hf hm
        gi_wp2
        go_roundw
        case rel => exact ⟨pre ++ [x], y, by simp [HP.out, HP1.out], by omega, box_set _ HB3.out.1, HB3.out.2, by simpa [World.setCell] using hsz3, hJ (pre ++ [x]) W3 _ (some Bs) hJ3 (grown_set _ _ _) (fun r e => by cases e; exact .inr rfl)⟩
        case measure =>
          have e := boxLen_eq (l := y) (box_set (str y) HB3.out.1)
          rw [HBL.out]
          show boxLen (W3.setCell ⟨Bs, 0, none⟩ (str y)) Bs < _
          rw [e]; exact hp2
      · gi_wp2
        refine bodyPost_ret (results_none rfl _ _ _) rfl ?_
        exact ⟨⟨_, rfl⟩, .inr ⟨pre ++ [x], ⟨parts 46 y, by simp [HP.out, HP1.out]⟩, hJx3⟩⟩
    · gi_wp2_with fail
      refine ⟨(fun h => by cases h), hR.mono ?_⟩
      rintro e W3 (⟨rfl, hJ3, hk3⟩ | ⟨rfl, hJx3⟩)
      · gi_wp2
        refine bodyPost_ret (results_none rfl _ _ _) rfl ?_
        exact ⟨⟨_, rfl⟩, .inl ⟨pre ++ [x], by simp [HP.out, HP1.out], hJ3⟩⟩
      · gi_wp2
        refine bodyPost_ret (results_none rfl _ _ _) rfl ?_
        exact ⟨⟨_, rfl⟩, .inr ⟨pre ++ [x], ⟨[], by simp [HP.out, HP1.out]⟩, hJx3⟩⟩

theorem Glob.below {w w' : World} {n₀ : Nat} (h : Glob w) (hb : Below n₀ w w') (hn : 1 < n₀) : Glob w' := by
  obtain ⟨m, hm⟩ := h
  exact ⟨m, (hb.cell (p := ⟨_, 0, none⟩) hn).trans hm⟩
theorem split_stops (n Bs n₀ : Nat) (s : Bytes) (hs : s.length ≤ 253) (hgl : 1 < n₀) (hBn : n₀ ≤ Bs) (w : World) (hB : w.heap[Bs]? = some (.cells #[str s] 9 (0, 0))) (hg : Glob w) :
    SeqStopsP Fence.wide n Tryz.prog 119 #[.pointer (some ⟨Bs, 0, none⟩)] (fun x : Bytes => #[str x]) (KeepsPriv (KB n₀ Bs)) (· = Bs) (fun xs => xs = parts 46 s) (fun pre => pre <+: parts 46 s) (fun pre x => pre ++ [x] <+: parts 46 s) w := fun l J Jx W hW hJ hJx hY h0 => by
  have hlt := (Array.getElem?_eq_some_iff.1 hB).1
  exact split1_in n l Bs n₀ s hs hgl hBn J Jx W hJ hY ((hW.block Bs hlt).trans hB) (hg.below hW (by omega)) h0

set_option maxHeartbeats 400000 in
theorem split_in (n : Nat) (s : ByteArray) (w : World) :
    CallsIn Fence.wide n Tryz.prog 61 #[.string s] w fun e w' => e = .returned (.func (.func 119) #[] #[.pointer (some ⟨w.heap.size, 0, none⟩)]) ∧ w.alloc (.cells #[.string s] 9) = w' := by
  refine callsIn_of_wp Tryz.func61 rfl trivial ?_ rfl
  simp only [Tryz.ntmps61, List.size_toArray, List.length_cons, List.length_nil, Nat.reduceAdd, Nat.reduceSub, Array.replicate_succ, Array.replicate_zero, List.push_toArray, List.append_toArray, List.nil_append, List.cons_append]
  gi_wp2
  go_ret
  exact ⟨rfl, rfl⟩

theorem cell_lt {w : World} {a : Addr} {v : Value} (h : w.cell? a = some v) : a.block < w.heap.size := by
  obtain ⟨o, ho, _⟩ := cells_of_cell h
  exact (Array.getElem?_eq_some_iff.1 ho).1
theorem ha_ne {w : World} {o : Obj} {k : Nat} (h : k ≠ w.heap.size) : (w.alloc o).heap[k]? = w.heap[k]? := by
  show (w.heap.push o)[k]? = _
  rw [Array.getElem?_push, if_neg h]
theorem ha_eq {w : World} {o : Obj} {k : Nat} (h : k = w.heap.size) : (w.alloc o).heap[k]? = some o := by
  show (w.heap.push o)[k]? = _
  rw [Array.getElem?_push, if_pos h]
theorem str_of (s : ByteArray) : str s.data.toList = .string s := rfl

set_option maxRecDepth 100000 in
set_option maxHeartbeats 2000000 in
theorem nameMay_any (s : ByteArray) (w : World) (hs : s.size ≤ maxLen) (hg : Glob w) :
    Calls Tryz.prog 24 #[.string s] w fun e w' => e = .returned (.bool (mayB s.data.toList)) ∧ Below w.heap.size w w' := by
  unfold maxLen at hs
  by_cases hlong : 253 < s.size
  · go_enter Tryz.func24, Tryz.ntmps24
    go_wp2
    refine bodyPost_ret (v := .bool false) (by simp [results, Tryz.results24, go_sem]) rfl ⟨?_, (Below.refl _ _).alloc (Nat.le_refl _) _⟩
    have : mayB s.data.toList = false := by simp [mayB]; omega
    rw [this]
  · refine (callsIn_wide (n := 8)).1 ?_
    refine callsIn_of_wp_marks Tryz.func24 rfl trivial ?_ rfl
    simp only [Tryz.ntmps24, List.size_toArray, List.length_cons, List.length_nil, Nat.reduceAdd, Nat.reduceSub, Array.replicate_succ, Array.replicate_zero, List.push_toArray, List.append_toArray, List.nil_append, List.cons_append]
    gi_wp2_with fail
    refine ⟨trivial, (split_in 7 s _).mono ?_⟩
    rintro e w' ⟨rfl, hw⟩
    have hs1 : w'.heap.size = w.heap.size + 3 := by rw [← hw]; simp
    have hb0 : w'.heap[w.heap.size]? = some (.cells #[.bool false] 4 (0, 0)) := by rw [← hw, ha_ne (by simp; omega), ha_ne (by simp), ha_eq rfl]
    have hb1 : w'.heap[w.heap.size + 1]? = some (.cells #[.bool false] 4 (0, 0)) := by rw [← hw, ha_ne (by simp), ha_eq (by simp)]
    have hb2 : w'.heap[w.heap.size + 2]? = some (.cells #[str s.data.toList] 9 (0, 0)) := by rw [← hw, str_of, ha_eq (by simp)]
    have hbl : Below w.heap.size w w' := by rw [← hw]; exact (((Below.refl _ _).alloc (Nat.le_refl _) _).alloc (by simp) _).alloc (by simp; omega) _
    have hg' := hg.below hbl (by obtain ⟨m, hm⟩ := hg; have := cell_lt hm; exact this)
    simp only [World.size_alloc]
    clear hw
    gi_wp2_with fail
    have HD := Lib.hid (And.intro hb0 (And.intro hb1 (And.intro hb2 hg')))
    clear hb0 hb1 hb2 hg'
    refine wpIn_rangeFunc_Q (w0 := w') (Kb := KB w.heap.size (w.heap.size + 2)) (Pb := (· = w.heap.size + 2)) rfl (by decide) (gf := 119) (lb := #[.pointer (some ⟨w.heap.size + 2, 0, none⟩)]) rfl trivial (enters_of Tryz.func119 (by kernel_rfl) rfl)
      (split_stops 7 (w.heap.size + 2) w.heap.size s.data.toList (by simp; omega) (by obtain ⟨m, hm⟩ := hg; exact cell_lt hm) (by omega) w' HD.out.2.2.1 HD.out.2.2.2)
      (Below.refl _ _) (fun _ => rfl) (fun r hr => by rcases hr with h | h <;> omega) (fun r hr => by omega)
      (fun pre W => W.heap[w.heap.size]? = some (.cells #[.bool false] 4 (0, 0)) ∧ (W.heap[w.heap.size + 1]? = some (.cells #[.bool (pre.getLast?.any digB)] 4 (0, 0)) ∧ (Below w.heap.size w W ∧ pre.all labB = true)))
      (fun c pre W => W.heap[w.heap.size]? = some (.cells #[.bool false] 4 (0, 0)) ∧ (Below w.heap.size w W ∧ (c = .ret ∧ pre.all labB = false)))
      ((ownP_box (cs := fun _ => _) (by omega)).and ((ownP_box (cs := fun pre : List Bytes => _) (by omega)).and ((ownP_below (Nat.le_refl _) (by omega) (fun r h => by omega)).and (ownP_pure _ _ _))))
      (fun c => (ownP_box (cs := fun _ => _) (by omega)).and ((ownP_below (Nat.le_refl _) (by omega) (fun r h => by omega)).and (ownP_pure _ _ _)))
      ⟨HD.out.1, HD.out.2.1, hbl, rfl⟩ ?a1 ?assign ?body ?done ?stop
    case assign =>
      intro l x W K hK
      gi_wp2
      exact hK
    case body =>
      rintro l pre x W ⟨h1, h2, h3, h4⟩ hlen
      have hxl : x.length ≤ s.size := by
        have := parts_le 46 s.data.toList x (hlen.subset (by simp))
        simpa using this
      have HI := Lib.hid (And.intro h1 h2)
      obtain ⟨c1, f1⟩ := box_cell h1
      obtain ⟨c2, f2⟩ := box_cell h2
      have H4 := Lib.hid h4
      clear h1 h2 h4
      gi_wp2_with fail
      refine ⟨trivial, CallsIn.inRound l (callsIn_wide.2 ((label_any ⟨x.toArray⟩ W (by unfold maxLen; simp [ByteArray.size]; omega)).mono ?_))⟩
      rintro e w2 ⟨rfl, rfl⟩
      have e0 : (⟨List.toArray x⟩ : ByteArray).data.toList = x := rfl
      rw [e0]
      clear e0
      cases hlab : labB x
      · have HL := Lib.hid hlab
        clear hlab
        gi_wp2
        exact ⟨(KeepsOthers.setCell _ _ _).from _, box_set _ HI.out.1, h3.setCell (p := ⟨w.heap.size, 0, none⟩) (Nat.le_refl _) _, rfl, by rw [List.all_append, List.all_cons, HL.out]; simp⟩
      · have HL := Lib.hid hlab
        clear hlab
        gi_wp2
        exact ⟨(KeepsOthers.setCell _ _ _).from _, keepsPriv_set (fun h => by rcases h with h | h <;> omega), box_other _ HI.out.1 (by omega), by rw [List.getLast?_concat]; exact box_set _ HI.out.2, h3.setCell (p := ⟨w.heap.size + 1, 0, none⟩) (by simp) _, by rw [List.all_append, List.all_cons, HL.out, H4.out]; rfl⟩
    case done =>
      rintro D xs W hD rfl ⟨h1, h2, h3, h4⟩ hK
      have HI := Lib.hid h1
      obtain ⟨c1, f1⟩ := box_cell h1
      obtain ⟨c2, f2⟩ := box_cell h2
      have H4 := Lib.hid h4
      clear h1 h2 h4
      gi_wp2
      have hb1 := box_set (.bool !((parts 46 s.data.toList).getLast?.any digB)) HI.out
      have hK1 : (W.setCell ⟨w.heap.size, 0, none⟩ (.bool !((parts 46 s.data.toList).getLast?.any digB))).heap[D]? = some (.deferred (some [])) := (Below.heap_setCell W _ _ D (by show D ≠ w.heap.size; omega)).trans hK
      have hB := (h3.setCell (p := ⟨w.heap.size, 0, none⟩) (Nat.le_refl _) (.bool !((parts 46 s.data.toList).getLast?.any digB)))
      refine ⟨by simp, .inl ⟨_, _, rfl, run_takeDeferred hK1, ?_⟩⟩
      refine ⟨.bool (mayB s.data.toList), ?_, rfl, hB.trans (belowK_b (w := w) (Nat.le_refl _) _ D _ _ (by omega) hK1 rfl rfl)⟩
      have hm : mayB s.data.toList = !((parts 46 s.data.toList).getLast?.any digB) := by
        unfold mayB; rw [H4.out]; simp; omega
      rw [hm]
      have hc := (box_cell ((World.putObj_heap_other (o := .deferred none) (w := W.setCell ⟨w.heap.size, 0, none⟩ (.bool !((parts 46 s.data.toList).getLast?.any digB))) (k := w.heap.size) (r := D) (by omega)).trans hb1)).1
      simp [results, Tryz.results24, go_sem, hc]
    case stop =>
      rintro D c pre W hD hp ⟨h1, h3, rfl, h4⟩ hK
      have HI := Lib.hid h1
      have H4 := Lib.hid h4
      clear h1 h4
      gi_wp2
      refine ⟨by simp, .inl ⟨_, _, rfl, run_takeDeferred hK, ?_⟩⟩
      refine ⟨.bool (mayB s.data.toList), ?_, rfl, h3.trans (belowK_b (w := w) (Nat.le_refl _) _ D _ _ (by omega) hK rfl rfl)⟩
      have hm : mayB s.data.toList = false := by
        have : (parts 46 s.data.toList).all labB = false := by
          obtain ⟨r, hr⟩ := hp
          rw [← hr, List.all_append, H4.out]; rfl
        unfold mayB; rw [this]; simp
      rw [hm]
      have hc := (box_cell ((World.putObj_heap_other (o := .deferred none) (w := W) (k := w.heap.size) (r := D) (by omega)).trans HI.out)).1
      simp [results, Tryz.results24, go_sem, hc]
end Go.Proofs.YtlpngibdplnieaaGreatDoor
