/- CachePlays, walked. -/
import Derived.Test.YtojhledbfaninaaGreatZlike
import Derived.Test.YtojhledbfaninaaGreatCnil
namespace Go.Proofs.YtojhledbfaninaaGreat
open Go Go.RowKit Go.Shelf Go.Sort
attribute [local go_sem] bneI

/-! ### What other writes leave -/
theorem DocIs.mapw {w w' : World} {B : Nat → Prop} {bd : Nat} {most : Int} {zs : List EM} (h : DocIs w B bd most zs) {row : Option Nat} (hg : w.grownBy w' row) (hr : ∀ k, row = some k → ∃ o, w.heap[k]? = some o ∧ o.isCells = false) : DocIs w' B bd most zs := by
  have hl := h.lt
  obtain ⟨v, h1, h2, h3, h4, h5⟩ := h
  have hk : ∀ a u, w.cell? a = some u → w'.cell? a = some u := fun a u hu => cell_grown hg hu (fun e => by
    obtain ⟨o, ho, hc⟩ := hr _ e
    exact map_ne ho hc hu rfl)
  refine ⟨v, (hg.block bd hl (fun e => ?_)).trans h1, ?_, fun x hx => (h3 x hx).keep fun a u hu _ => hk a u hu, h4, h5⟩
  · obtain ⟨o, ho, hc⟩ := hr bd e.symm
    rw [h1] at ho; cases ho; cases hc
  · rcases h2 with h2 | ⟨hz, b, o, c, rfl, hc⟩
    · exact .inl h2
    · exact .inr ⟨hz, b, o, c, rfl, fun i hi j u hu => hk _ _ (hc i hi j u hu)⟩
theorem CacheIs.cellw {W W' : World} {B : Nat → Prop} {b bm k : Nat} {most : Int} {L : List PE} (h : CacheIs W B b bm most L) (hg : W.grownBy W' (some k)) (hk : k ≠ b) (hB : ¬ B k) (hc : ∃ o, W.heap[k]? = some o ∧ o.isCells = true) : CacheIs W' B b bm most L := by
  obtain ⟨l, h, hE⟩ := h
  obtain ⟨o, ho, hoc⟩ := hc
  obtain ⟨o', ho', hoc'⟩ := h.isMap
  refine ⟨l, ⟨(hg.block b h.lt (fun e => hk (Option.some.inj e).symm)).trans h.obj, h.map.of_block (hg.block bm h.map.lt (fun e => ?_)), h.key, fun q hq => (h.mxs q hq).keep fun a v hv hBa => cell_grown hg hv (fun e => hB (by rw [Option.some.inj e]; exact hBa))⟩, hE⟩
  have e' : bm = k := Option.some.inj e
  subst e'
  rw [ho] at ho'; cases ho'
  rw [hoc] at hoc'; cases hoc'
/-- Two caches and two of the document. -/
structure Duo (W w : World) (B : Nat → Prop) (most : Int) (bd b bm : Nat) (L1 : List PE) (z1 : List EM) (b2 bm2 d2 : Nat) (L0 : List PE) (z0 : List EM) : Prop where
  wb : Below W.heap.size W w
  c1 : CacheIs w B b bm most L1
  d1 : DocIs w B bd most z1
  c2 : CacheIs w B b2 bm2 most L0
  dd : DocIs w B d2 most z0
  nb : b ≠ bd
  nb2 : b2 ≠ bd
  nd : d2 ≠ bd
  nm : bm2 ≠ bm
  hB : ∀ k, B k → k ≠ bd
  ge : W.heap.size ≤ bd ∧ W.heap.size ≤ bm
section
variable {W w w' : World} {B : Nat → Prop} {most : Int} {bd b bm : Nat} {L1 : List PE} {z1 : List EM} {b2 bm2 d2 : Nat} {L0 : List PE} {z0 : List EM}
theorem Duo.below (h : Duo W w B most bd b bm L1 z1 b2 bm2 d2 L0 z0) (hb : Below w.heap.size w w') : Duo W w' B most bd b bm L1 z1 b2 bm2 d2 L0 z0 :=
  ⟨h.wb.trans (hb.mono h.wb.size), h.c1.below hb, h.d1.below hb, h.c2.below hb, h.dd.below hb, h.nb, h.nb2, h.nd, h.nm, h.hB, h.ge⟩
theorem Duo.mono {B' : Nat → Prop} (h : Duo W w B most bd b bm L1 z1 b2 bm2 d2 L0 z0) (hb : ∀ k, B k → B' k) (hn : ∀ k, B' k → k ≠ bd) : Duo W w B' most bd b bm L1 z1 b2 bm2 d2 L0 z0 :=
  ⟨h.wb, h.c1.mono hb, h.d1.mono hb, h.c2.mono hb, h.dd.mono hb, h.nb, h.nb2, h.nd, h.nm, hn, h.ge⟩
theorem Duo.learnC {x : PE} {e : Ending} (h : Duo W w B most bd b bm L1 z1 b2 bm2 d2 L0 z0) (hP : LearnPost w B b bm most L1 x e w') : Duo W w' (fun k => B k ∨ w.heap.size ≤ k) most bd b bm (learnS most L1 x) z1 b2 bm2 d2 L0 z0 := by
  have hm : ∀ k, (some bm : Option Nat) = some k → ∃ o, w.heap[k]? = some o ∧ o.isCells = false := fun k e => by
    obtain ⟨l, hc, _⟩ := h.c1
    cases e
    exact hc.isMap
  have hl := h.d1.lt
  refine ⟨h.wb.grown hP.2.2 h.wb.size (fun k e => by cases e; exact h.ge.2), hP.2.1, (h.d1.mapw hP.2.2 hm).mono fun k hk => .inl hk, ?_, (h.dd.mapw hP.2.2 hm).mono fun k hk => .inl hk, h.nb, h.nb2, h.nd, h.nm, fun k hk => hk.elim (h.hB k) (fun h2 => by omega), h.ge⟩
  obtain ⟨l, hc, hE⟩ := h.c2
  exact CacheIs.mono ⟨l, hc.grown hP.2.2 (fun k e => ⟨by cases e; exact h.nm.symm, hm k e⟩), hE⟩ fun k hk => .inl hk
theorem Duo.learnD {x : PE} {e : Ending} (h : Duo W w B most bd b bm L1 z1 b2 bm2 d2 L0 z0) (hP : RLearnPost w B bd most z1 x e w') : ∃ z1' : List EM, z1'.map (fun e : EM => e.1) = learnS most (z1.map (fun e : EM => e.1)) x ∧ Duo W w' (fun k => B k ∨ w.heap.size ≤ k) most bd b bm L1 z1' b2 bm2 d2 L0 z0 := by
  obtain ⟨_, ⟨z1', hz, hd⟩, hg⟩ := hP
  have hl := h.d1.lt
  have hc : ∃ o, w.heap[bd]? = some o ∧ o.isCells = true := by
    obtain ⟨v, h1, _⟩ := h.d1
    exact ⟨_, h1, rfl⟩
  have hn : ¬ B bd := fun hb => h.hB _ hb rfl
  exact ⟨z1', hz, ⟨h.wb.grown hg h.wb.size (fun k e => by cases e; exact h.ge.1), (h.c1.cellw hg (Ne.symm h.nb) hn hc).mono fun k hk => .inl hk, hd, (h.c2.cellw hg (Ne.symm h.nb2) hn hc).mono fun k hk => .inl hk, (h.dd.grown hg (Ne.symm h.nd) hn).mono fun k hk => .inl hk, h.nb, h.nb2, h.nd, h.nm, fun k hk => hk.elim (h.hB k) (fun h2 => by omega), h.ge⟩⟩
theorem Duo.put {p o : Nat} (u : Value) (h : Duo W w B most bd b bm L1 z1 b2 bm2 d2 L0 z0) (hp : NF w p) (h0 : W.heap.size ≤ p) (hB : ¬ B p) (h1 : p ≠ bd) (h2 : p ≠ b) (h3 : p ≠ b2) (h4 : p ≠ d2) : Duo W (w.setCell ⟨p, o, none⟩ u) B most bd b bm L1 z1 b2 bm2 d2 L0 z0 := by
  have hg := grownBy_setCell w ⟨p, o, none⟩ u
  dsimp only at hg
  have hc : ∃ o, w.heap[p]? = some o ∧ o.isCells = true := by
    obtain ⟨cs, t, h⟩ := hp
    exact ⟨_, h, rfl⟩
  exact ⟨h.wb.setCell (p := ⟨p, o, none⟩) h0 u, h.c1.cellw hg h2 hB hc, h.d1.grown hg h1 hB, h.c2.cellw hg h3 hB hc, h.dd.grown hg h4 hB, h.nb, h.nb2, h.nd, h.nm, h.hB, h.ge⟩
end
theorem CacheIs.blt {W : World} {B : Nat → Prop} {b bm : Nat} {most : Int} {L : List PE} (h : CacheIs W B b bm most L) : b < W.heap.size ∧ bm < W.heap.size := by
  obtain ⟨l, hc, _⟩ := h
  exact ⟨hc.lt, hc.map.lt⟩
theorem CacheIs.ltsB {W : World} {B : Nat → Prop} {b bm : Nat} {most : Int} {L : List PE} (h : CacheIs W B b bm most L) : CacheIs W (fun k => B k ∧ k < W.heap.size) b bm most L := by
  obtain ⟨l, hc, hE⟩ := h
  exact ⟨l, hc.lts, hE⟩
theorem short_fitR {x : PE} (h : ShortE x) : FitR x := by
  obtain ⟨h1, h2, h3, h4⟩ := h
  refine ⟨by omega, by unfold maxLen; omega, fun u hu => ?_⟩
  have := h4 u hu
  omega
/-- The copy of a policy, that may be written over. -/
def PAt (w : World) (lo hi : Nat) (s : SH) : Prop := ∀ k, k < s.2.1 → ∃ p o, s.1 = some ⟨p, o, none⟩ ∧ lo ≤ p ∧ p < hi ∧ NF w p ∧ ∃ v, w.cell? ⟨p, o + k, none⟩ = some v
theorem PAt.of {w : World} {lo hi : Nat} {s : SH} {mx : List Bytes} (h1 : MxAt w (fun k => lo ≤ k ∧ NF w k) s mx) (h2 : w.heap.size ≤ hi) : PAt w lo hi s := fun k hk => by
  have hf := (h1.lts).1
  have hk' : k < mx.length := by rw [← hf]; exact hk
  have hne : mx ≠ [] := fun e => by rw [e] at hk'; simp at hk'
  cases hs : s.1 with
  | none =>
    have := h1.2.1 hs
    rw [this] at hk
    simp at hk
  | some a =>
    obtain ⟨hb, hc⟩ := h1.2.2 a hs
    have hc0 := hc 0 _ (List.getElem?_eq_getElem (List.length_pos_iff.2 hne))
    have hck := hc k _ (List.getElem?_eq_getElem hk')
    obtain ⟨p, o, sp⟩ := a
    have hsp : sp = none := by
      have := World.cell?_spot hc0
      simpa [Addr.add] using this
    subst hsp
    rw [addr_add] at hck
    exact ⟨p, o, rfl, (hb hne).1, Nat.lt_of_lt_of_le (cell_lt hck) h2, (hb hne).2, _, hck⟩
theorem PAt.keep {w w' : World} {lo hi : Nat} {s : SH} (h : PAt w lo hi s) (hc : ∀ a v, w.cell? a = some v → w'.cell? a = some v) (hn : ∀ k, lo ≤ k → k < hi → NF w k → NF w' k) : PAt w' lo hi s := fun k hk => by
  obtain ⟨p, o, h1, h2, h3, h4, v, h5⟩ := h k hk
  exact ⟨p, o, h1, h2, h3, hn p h2 h3 h4, v, hc _ _ h5⟩
theorem PAt.put {w : World} {lo hi p o : Nat} {s : SH} (h : PAt w lo hi s) (u : Value) : PAt (w.setCell ⟨p, o, none⟩ u) lo hi s := fun k hk => by
  obtain ⟨p', o', h1, h2, h3, h4, v, h5⟩ := h k hk
  refine ⟨p', o', h1, h2, h3, h4.setCell p o u, ?_⟩
  by_cases e : p' = p
  · subst e; exact cell_setCell_ex h5
  · exact ⟨v, cell_setCell_ne h5 e⟩
end Go.Proofs.YtojhledbfaninaaGreat
