/- Plain laws on the order of texts, and of places; sorted lists without repetition. No program in sight. -/
import Derived.Lib.Bytealg
import Derived.Lib.SlicesCompact
import Derived.Sort.Statements
import Derived.Shelf.SlSortCmp.Insertion
import Derived.Test.YtojhledbfaninaaPlain
namespace Go.Proofs.Ytojhledbfaninaa
open Go Go.Sort

def cmpB : Bytes → Bytes → Int := Lib.compareBytes
theorem cmpB_self (a : Bytes) : cmpB a a = 0 := by
  unfold cmpB
  induction a with
  | nil => rfl
  | cons x a ih => simp [Lib.compareBytes, ih]
theorem cmpB_eq : ∀ {a b : Bytes}, cmpB a b = 0 → a = b
  | [], [], _ => rfl
  | [], _ :: _, h => by simp [cmpB, Lib.compareBytes] at h
  | _ :: _, [], h => by simp [cmpB, Lib.compareBytes] at h
  | x :: a, y :: b, h => by
    unfold cmpB Lib.compareBytes at h
    split at h
    · cases h
    · split at h
      · cases h
      · rename_i h1 h2
        have e : x = y := UInt8.le_antisymm (UInt8.not_lt.1 h2) (UInt8.not_lt.1 h1)
        rw [e, cmpB_eq (a := a) (b := b) h]
theorem cmpB_swap : ∀ (a b : Bytes), cmpB b a = - cmpB a b
  | [], [] => rfl
  | [], _ :: _ => rfl
  | _ :: _, [] => rfl
  | x :: a, y :: b => by
    have ih := cmpB_swap a b
    unfold cmpB at ih ⊢
    unfold Lib.compareBytes
    by_cases h1 : x < y
    · have h2 : ¬ y < x := UInt8.not_lt.2 (UInt8.le_of_lt h1)
      simp [h1, h2]
    · by_cases h2 : y < x
      · simp [h1, h2]
      · simp [h1, h2, ih]
theorem cmpB_trans : ∀ {a b c : Bytes}, cmpB a b < 0 → cmpB b c < 0 → cmpB a c < 0
  | _, [], c, h1, h2 => by
    cases c with
    | nil => simp [cmpB, Lib.compareBytes] at h2
    | cons z c =>
      rename_i a
      cases a with
      | nil => simp [cmpB, Lib.compareBytes] at h1
      | cons x a => simp [cmpB, Lib.compareBytes] at h1
  | [], _ :: _, c, h1, h2 => by
    cases c with
    | nil => simp [cmpB, Lib.compareBytes] at h2
    | cons z c => simp [cmpB, Lib.compareBytes]
  | x :: a, y :: b, [], h1, h2 => by simp [cmpB, Lib.compareBytes] at h2
  | x :: a, y :: b, z :: c, h1, h2 => by
    have ih := @cmpB_trans a b c
    unfold cmpB at h1 h2 ih ⊢
    unfold Lib.compareBytes at h1 h2 ⊢
    by_cases hxy : x < y
    · by_cases hyz : y < z
      · have : x < z := UInt8.lt_trans hxy hyz
        simp [this]
      · by_cases hzy : z < y
        · simp [hyz, hzy] at h2
        · have e : y = z := UInt8.le_antisymm (UInt8.not_lt.1 hzy) (UInt8.not_lt.1 hyz)
          subst e; simp [hxy]
    · by_cases hyx : y < x
      · simp [hxy, hyx] at h1
      · have e : x = y := UInt8.le_antisymm (UInt8.not_lt.1 hyx) (UInt8.not_lt.1 hxy)
        subst e
        by_cases hyz : x < z
        · simp [hyz]
        · by_cases hzy : z < x
          · simp [hyz, hzy] at h2
          · simp [hyz, hzy] at h2 ⊢
            simp at h1
            exact ih h1 h2

/-- An order by a comparison: the laws that a sort asks, and that equals are one. -/
structure CmpOrd {α : Type} (cf : α → α → Int) : Prop where
  self : ∀ x, cf x x = 0
  eq : ∀ x y, cf x y = 0 → x = y
  swap : ∀ x y, cf y x = - cf x y
  trans : ∀ x y z, cf x y < 0 → cf y z < 0 → cf x z < 0
theorem CmpOrd.swo {α : Type} {cf : α → α → Int} (h : CmpOrd cf) : SWO (ltOf cf) where
  irrefl x := by simp [ltOf, h.self]
  trans x y z h1 h2 := by simp [ltOf] at *; exact h.trans x y z h1 h2
  ntrans x y z h1 h2 := by
    simp [ltOf] at *
    have a := h.swap x y
    have b := h.swap y z
    have c := h.swap x z
    by_cases e1 : cf x y = 0
    · rw [h.eq _ _ e1]; exact h2
    · by_cases e2 : cf y z = 0
      · rw [← h.eq _ _ e2]; exact h1
      · have := h.trans z y x (by omega) (by omega)
        omega
theorem CmpOrd.total {α : Type} {cf : α → α → Int} (h : CmpOrd cf) : ∀ x y, (ltOf cf) x y = false → (ltOf cf) y x = false → x = y := fun x y h1 h2 => by
  simp [ltOf] at h1 h2
  have := h.swap x y
  exact h.eq x y (by omega)
theorem ordB : CmpOrd cmpB := ⟨cmpB_self, fun _ _ => cmpB_eq, fun a b => cmpB_swap a b, fun _ _ _ => cmpB_trans⟩

/-- Strictly ascending. -/
def Asc {α : Type} (cf : α → α → Int) (l : List α) : Prop := l.Pairwise fun x y => cf x y < 0
theorem Asc.uniq {α : Type} {cf : α → α → Int} (h : CmpOrd cf) : ∀ {l m : List α}, Asc cf l → Asc cf m → (∀ x, x ∈ l ↔ x ∈ m) → l = m
  | [], [], _, _, _ => rfl
  | [], y :: m, _, _, hm => by have := (hm y).2 (by simp); cases this
  | x :: l, [], _, _, hm => by have := (hm x).1 (by simp); cases this
  | x :: l, y :: m, hl, hm, hs => by
    unfold Asc at hl hm
    rw [List.pairwise_cons] at hl hm
    have e : x = y := by
      rcases List.mem_cons.1 ((hs x).1 (by simp)) with e | hx
      · exact e
      · rcases List.mem_cons.1 ((hs y).2 (by simp)) with e | hy
        · exact e.symm
        · have := hl.1 y hy
          have := hm.1 x hx
          have := h.swap x y
          omega
    subst e
    have : l = m := Asc.uniq h hl.2 hm.2 fun z => by
      constructor
      · intro hz
        rcases List.mem_cons.1 ((hs z).1 (by simp [hz])) with e | hz'
        · subst e; have := hl.1 z hz; rw [h.self] at this; omega
        · exact hz'
      · intro hz
        rcases List.mem_cons.1 ((hs z).2 (by simp [hz])) with e | hz'
        · subst e; have := hm.1 z hz; rw [h.self] at this; omega
        · exact hz'
    rw [this]
theorem Asc.nodup {α : Type} {cf : α → α → Int} (h : CmpOrd cf) {l : List α} (hl : Asc cf l) : l.Nodup :=
  List.Pairwise.imp (fun {a b} hab e => by subst e; rw [h.self] at hab; omega) hl
/-- What a sort leaves of a list without repetition. -/
theorem asc_of_sorted {α : Type} [Inhabited α] {cf : α → α → Int} (h : CmpOrd cf) {d : Array α} (hn : d.toList.Nodup) (hs : SortedIn (ltOf cf) 0 d.size d) : Asc cf d.toList := by
  unfold Asc
  rw [List.pairwise_iff_getElem]
  intro i j hi hj hij
  simp at hi hj
  have := hs i j (Nat.zero_le _) hij hj
  rw [getElem!_pos _ i hi, getElem!_pos _ j hj] at this
  simp [ltOf] at this
  have hsw := h.swap d[i] d[j]
  have hne : cf d[i] d[j] ≠ 0 := fun e => by
    have e' := h.eq _ _ e
    have := (List.getElem_inj (h₀ := by simpa using hi) (h₁ := by simpa using hj) hn).1 (by simpa using e')
    omega
  simp
  omega
theorem compact_asc {α : Type} [Inhabited α] [DecidableEq α] {cf : α → α → Int} (h : CmpOrd cf) {d : Array α} (hs : SortedIn (ltOf cf) 0 d.size d) :
    Asc cf (Lib.compactUpTo d d.size) ∧ ∀ x, x ∈ Lib.compactUpTo d d.size ↔ x ∈ d.toList := by
  have key : ∀ m, m ≤ d.size → Asc cf (Lib.compactUpTo d m) ∧ (∀ x, x ∈ Lib.compactUpTo d m ↔ ∃ j, j < m ∧ d[j]! = x) := by
    intro m
    induction m with
    | zero => intro _; simp [Lib.compactUpTo, Asc]
    | succ m ih =>
      intro hm
      obtain ⟨i1, i2⟩ := ih (by omega)
      rw [Lib.compactUpTo_succ]
      by_cases hk : Lib.keeps d m = true
      · rw [if_pos hk]
        constructor
        · unfold Asc
          rw [List.pairwise_append]
          refine ⟨i1, by simp, ?_⟩
          intro x hx y hy
          simp at hy; subst hy
          obtain ⟨j, hj, rfl⟩ := (i2 x).1 hx
          have h1 := hs j m (Nat.zero_le _) hj (by omega)
          simp [ltOf] at h1
          have hsw := h.swap d[j]! d[m]!
          have hne : cf d[j]! d[m]! ≠ 0 := fun e => by
            have e' := h.eq _ _ e
            have hk' : m = 0 ∨ d[m]! ≠ d[m - 1]! := by simpa [Lib.keeps] using hk
            rcases hk' with h0 | h0
            · omega
            · apply h0
              by_cases hjm : j = m - 1
              · rw [← hjm, e']
              · have h2 := hs j (m - 1) (Nat.zero_le _) (by omega) (by omega)
                have h3 := hs (m - 1) m (Nat.zero_le _) (by omega) (by omega)
                rw [e'] at h2
                exact (h.total _ _ h3 h2)
          omega
        · intro x
          rw [List.mem_append, i2 x]
          constructor
          · rintro (⟨j, hj, e⟩ | hx)
            · exact ⟨j, by omega, e⟩
            · simp at hx; exact ⟨m, by omega, hx.symm⟩
          · rintro ⟨j, hj, e⟩
            by_cases hjm : j = m
            · right; subst hjm; simp [e]
            · left; exact ⟨j, by omega, e⟩
      · rw [if_neg hk, List.append_nil]
        refine ⟨i1, fun x => ?_⟩
        rw [i2 x]
        have hk' : ¬ (m = 0 ∨ d[m]! ≠ d[m - 1]!) := by simpa [Lib.keeps] using hk
        have h0 : m ≠ 0 := fun e => hk' (.inl e)
        have h1 : d[m]! = d[m - 1]! := by
          by_cases e : d[m]! = d[m - 1]!
          · exact e
          · exact absurd (.inr e) hk'
        constructor
        · rintro ⟨j, hj, e⟩; exact ⟨j, by omega, e⟩
        · rintro ⟨j, hj, e⟩
          by_cases hjm : j = m
          · subst hjm; exact ⟨j - 1, by omega, by rw [← h1, e]⟩
          · exact ⟨j, by omega, e⟩
  obtain ⟨k1, k2⟩ := key d.size (Nat.le_refl _)
  refine ⟨k1, fun x => (k2 x).trans ?_⟩
  constructor
  · rintro ⟨j, hj, rfl⟩
    rw [getElem!_pos _ j hj]; simp
  · intro hx
    obtain ⟨j, hj, e⟩ := List.getElem_of_mem hx
    simp at hj e
    exact ⟨j, hj, by rw [getElem!_pos _ j hj]; exact e⟩
end Go.Proofs.Ytojhledbfaninaa
