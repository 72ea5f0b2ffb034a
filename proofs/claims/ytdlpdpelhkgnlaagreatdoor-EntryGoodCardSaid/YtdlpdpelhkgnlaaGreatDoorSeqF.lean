/- A range over a function whose iterator makes boxes of its own on its way: the law of the walk for such a loop. What the loop has for its own is the box of what it gathers, and that row. -/
import Derived.Test.YtdlpdpelhkgnlaaGreatDoorMa
namespace Go.Proofs.YtdlpdpelhkgnlaaGreatDoor
open Go Go.RowKit
variable {F : Fence} {n : Nat} {P : Program}

/-- The loop's own blocks: the box, and the row that lies in it. -/
def OwnB (bo : Nat) (W : World) (r : Nat) : Prop := r = bo ∨ ∃ p n c, W.cell? ⟨bo, 0, none⟩ = some (.slice (some p) n c) ∧ p.block = r
/-- J stands through the iterator's own steps: new blocks, and what it does to blocks from B on that are not the loop's. -/
def AbidesF {β : Type} (B bo : Nat) (J : β → World → Prop) : Prop :=
  ∀ s W W' row, J s W → W.grownBy W' row → (∀ r, row = some r → B ≤ r ∧ ¬ OwnB bo W r) → J s W'
def OwnF {β : Type} (B bo : Nat) (I : β → World → Prop) : Prop :=
  ∀ s W W' row, I s W → W.grownBy W' row → (∀ r, row = some r → B ≤ r ∧ (¬ OwnB bo W r ∨ ∃ o : Obj, W.heap[r]? = some o ∧ o.isCells = false)) → I s W'
/-- What a round keeps: each block of cells that is not the loop's. -/
def KeepsF (bo : Nat) (W W' : World) : Prop := W.heap.size ≤ W'.heap.size ∧ ∀ r o, W.heap[r]? = some o → o.isCells = true → ¬ OwnB bo W r → W'.heap[r]? = some o ∧ ¬ OwnB bo W' r
theorem KeepsF.trans {bo : Nat} {A B C : World} (h : KeepsF bo A B) (k : KeepsF bo B C) : KeepsF bo A C :=
  ⟨Nat.le_trans h.1 k.1, fun r o hr ho hn => k.2 r o (h.2 r o hr ho hn).1 ho (h.2 r o hr ho hn).2⟩
theorem KeepsF.refl (bo : Nat) (W : World) : KeepsF bo W W := ⟨Nat.le_refl _, fun _ _ hr _ hn => ⟨hr, hn⟩⟩
theorem ownB_of_cell {bo : Nat} {W W' : World} (h : W'.cell? ⟨bo, 0, none⟩ = W.cell? ⟨bo, 0, none⟩) {r : Nat} : OwnB bo W' r ↔ OwnB bo W r := by unfold OwnB; rw [h]
theorem ownB_block {bo : Nat} {W W' : World} (h : W'.heap[bo]? = W.heap[bo]?) {r : Nat} : OwnB bo W' r ↔ OwnB bo W r :=
  ownB_of_cell (by unfold World.cell?; rw [h])
theorem OwnF.putObj {β : Type} {B bo : Nat} {I : β → World → Prop} (h : OwnF B bo I) {s : β} {W : World} {l : Nat} {o : Obj} (o' : Obj) (hs : I s W) (hB : B ≤ l) (hl : W.heap[l]? = some o) (ho : o.isCells = false) : I s (W.putObj l o') :=
  h s W _ (some l) hs (grownBy_putObj' W l o') (fun r e => by cases e; exact ⟨hB, .inr ⟨o, hl, ho⟩⟩)
theorem OwnF.alloc {β : Type} {B bo : Nat} {I : β → World → Prop} (h : OwnF B bo I) {s : β} {W : World} (o : Obj) (hs : I s W) : I s (W.alloc o) :=
  h s W _ none hs (World.grownBy_alloc W o none) (fun r e => by cases e)
theorem OwnF.and {β : Type} {B bo : Nat} {I I' : β → World → Prop} (h : OwnF B bo I) (h' : OwnF B bo I') : OwnF B bo (fun s W => I s W ∧ I' s W) := fun s W W' row hs hg hr => ⟨h s W W' row hs.1 hg hr, h' s W W' row hs.2 hg hr⟩
theorem ownF_pure {β : Type} (B bo : Nat) (p : β → Prop) : OwnF B bo (fun s (_ : World) => p s) := fun _ _ _ _ hs _ _ => hs
theorem ownF_below {β : Type} {B n₀ bo : Nat} {w₀ : World} (h0 : n₀ ≤ w₀.heap.size) (hB : n₀ ≤ B) : OwnF B bo (fun (_ : β) W => Below n₀ w₀ W) :=
  fun _ _ _ _ hs hg hr => hs.grown hg (Nat.le_trans h0 hs.size) (fun k e => Nat.le_trans hB (hr k e).1)
theorem ownF_size {β : Type} {B n₀ bo : Nat} : OwnF B bo (fun (_ : β) W => n₀ ≤ W.heap.size) :=
  fun _ _ _ _ hs hg _ => Nat.le_trans hs hg.size
/-- A block below B stands. -/
theorem ownF_low {β : Type} {B b bo : Nat} (hb : b < B) {cs : β → Array Value} {t : TypeId} : OwnF B bo (fun s W => W.heap[b]? = some (.cells (cs s) t (0, 0))) :=
  fun _ _ _ _ hs hg hr => (hg.block b (Array.getElem?_eq_some_iff.1 hs).1 (fun e => by have := (hr b e.symm).1; omega)).trans hs
theorem keepsF_b {bo B : Nat} (hbo : bo < B) (W : World) (l : Nat) (o o' : Obj) (hl : B ≤ l) (h : W.heap[l]? = some o) (hc : o.isCells = false) : KeepsF bo W (W.putObj l o') :=
  ⟨by simp, fun r c hr hcc hn => by
    have hne : r ≠ l := fun e => by
      subst e
      rw [h] at hr
      cases hr
      rw [hc] at hcc
      cases hcc
    exact ⟨(World.putObj_heap_other hne).trans hr, fun hk => hn ((ownB_block (World.putObj_heap_other (by omega))).1 hk)⟩⟩
/-- What belongs to whoever made the iterator: blocks that the loop must not have for its own. -/
def SeqFree {α : Type} (F : Fence) (n : Nat) (P : Program) (g : Nat) (lb : Array Value) (encs : α → Array Value) (bo : Nat) (Cap : Nat → Prop) (S : List α → Prop) (Y : List α → α → Prop) (w : World) : Prop :=
  ∀ (l : Nat) (J : List α → World → Prop) (W : World), Below w.heap.size w W → AbidesF W.heap.size bo J → (∀ pre W1, J pre W1 → (∃ o, W1.heap[bo]? = some o ∧ o.isCells = true) ∧ ∀ r, OwnB bo W1 r → r < W1.heap.size) →
    (∀ pre x W1, J pre W1 → Y pre x → YieldAt F (n - 1) P l (encs x) W1 fun e W' => e = .returned (.bool true) ∧ J (pre ++ [x]) W' ∧ KeepsF bo W1 W') →
    J [] W → (∀ r, Cap r → ¬ OwnB bo W r) →
    CallsIn F n P g (#[.func (.yield l) #[] #[]] ++ lb) W fun e W' => (∃ v, e = .returned v) ∧ ∃ xs, S xs ∧ J xs W'

theorem wpIn_rangeFunc_F {α : Type} {g : Operand} {ps : Array Tmp} {assign body : Code} {Q : Exit → Act → World → Prop} {a : Act} {w : World}
    (hro : F.round = none) (h1 : 1 ≤ n) {gf : Nat} {lb : Array Value} (hg : a.eval g = .func (.func gf) #[] lb) (hFg : F.fn gf) (eg : ∀ args w, (callFunc gf args).run P w = .ok (.enter gf args) w)
    {encs : α → Array Value} {bo : Nat} {Cap : Nat → Prop} {S : List α → Prop} {Y : List α → α → Prop} {w0 : World} (hseq : SeqFree F (n - 1) P gf lb encs bo Cap S Y w0)
    (hb0 : Below w0.heap.size w0 w) (hps : ∀ x, (encs x).size = ps.size) (hbo : bo < w.heap.size) (hno : ∀ r, Cap r → ¬ OwnB bo w r)
    (I : List α → World → Prop) (hI : OwnF w.heap.size bo I) (hIo : ∀ pre W, I pre W → (∃ o, W.heap[bo]? = some o ∧ o.isCells = true) ∧ ∀ r, OwnB bo W r → ∃ o, W.heap[r]? = some o ∧ o.isCells = true) (h0 : I [] w)
    (Ax : α → Act → World → Prop) (hAx : ∀ x a' (W : World) (l : Nat) (o o' : Obj), Ax x a' W → w.heap.size ≤ l → W.heap[l]? = some o → o.isCells = false → Ax x a' (W.putObj l o'))
    (hassign : ∀ (l : Nat) (pre : List α) (x : α) (W : World) (K : Act → World → Prop), I pre W → (∀ a' W', KeepsFrom w.heap.size W W' → KeepsF bo W W' → I pre W' → Ax x a' W' → K a' W') →
      assign.wpIn (F.inRound l) (n - 1 - 1) P (Exit.then K (fun _ _ _ => False)) { tmps := (ps.zip (encs x)).foldl (fun t (p, v) => t.setIfInBounds p v) a.tmps, defers := [] } W)
    (hbody : ∀ (l : Nat) (pre : List α) (x : α) (a' : Act) (W : World), w.heap.size ≤ l → (∃ r, W.heap[l]? = some (.loop r)) → I pre W → Ax x a' W → Y pre x → body.wpIn (F.inRound l) (n - 1 - 1) P (ownPostG w.heap.size (KeepsF bo) I (fun _ _ _ => False) (pre ++ [x]) W) a' W)
    (hdone : ∀ (D : Nat) (xs : List α) (W : World), w.heap.size ≤ D → S xs → I xs W → W.heap[D]? = some (.deferred (some [])) → Q .normal { a with defers := { target := .collected D, args := #[] } :: a.defers } W) :
    (Code.rangeFunc g ps assign body).wpIn F n P Q a w := by
  refine wpIn_rangeFunc ?_
  intro fn hfn
  rw [hro]
  obtain ⟨rec, hrec⟩ : ∃ rec : LoopState → Option Code → Loop, rec = fun st pe => { state := st, pending := pe, fn, tmps := a.tmps, params := ps, assign, body, defers := w.heap.size } := ⟨_, rfl⟩
  obtain ⟨W1, hW1⟩ : ∃ W1, (w.alloc (.deferred (some []))).alloc (.loop (rec .ready none)) = W1 := ⟨_, rfl⟩
  have hL1 : W1.heap[w.heap.size + 1]? = some (.loop (rec .ready none)) := by
    rw [← hW1]; have := World.alloc_heap_new (w.alloc (.deferred (some []))) (.loop (rec .ready none)); rwa [World.size_alloc] at this
  have hK1 : W1.heap[w.heap.size]? = some (.deferred (some [])) := by
    rw [← hW1]; exact (Below.heap_alloc _ _ _ (by simp)).trans (World.alloc_heap_new w _)
  have hI1 : I [] W1 := by rw [← hW1]; exact hI.alloc _ (hI.alloc _ h0)
  have hb1 : Below w0.heap.size w0 W1 := by
    rw [← hW1]; exact hb0.trans ((((Below.refl _ w).alloc (Nat.le_refl _) _).alloc (by simp) _).mono hb0.size)
  have hkeep : ∀ {A B : World} {row : Option Nat} {k : Nat} {o : Obj}, A.grownBy B row → (∀ r, row = some r → W1.heap.size ≤ r ∧ ¬ OwnB bo A r) → k < W1.heap.size → A.heap[k]? = some o → B.heap[k]? = some o :=
    fun {A B row k o} hg' hr hk ho => (hg'.block k (Array.getElem?_eq_some_iff.1 ho).1 (fun e => by have := (hr k e.symm).1; omega)).trans ho
  have hW1s : W1.heap.size = w.heap.size + 2 := by rw [← hW1]; simp
  have hown1 : ∀ r, Cap r → ¬ OwnB bo W1 r := fun r hr hk => hno r hr ((ownB_block (by rw [← hW1]; exact (Below.heap_alloc _ _ _ (by simp; omega)).trans (Below.heap_alloc _ _ _ (by omega)))).1 hk)
  refine ⟨w.heap.size + 1, [{ target := .collected w.heap.size, args := #[] }], W1, { target := .fn (.func gf) lb, args := #[.func (.yield (w.heap.size + 1)) #[] #[]] }, W1, gf,
    #[.func (.yield (w.heap.size + 1)) #[] #[]] ++ lb, W1, ?_, ?_, ?_, ?_, fun _ => h1, ?_⟩
  · rw [← hW1, hrec]; exact run_enterLoop_outer _ _ _ _ _
  · simp only [resolve, hg]
    simp [go_sem]
  · intro f' hf'; simp [Target.leads] at hf'; subst hf'; exact hFg
  · simp [invoke, go_sem, eg]
  · have hnw : ∀ {A : World} {row : Option Nat}, (∀ r, row = some r → W1.heap.size ≤ r ∧ ¬ OwnB bo A r) → (∀ r, row = some r → w.heap.size ≤ r ∧ (¬ OwnB bo A r ∨ ∃ o : Obj, A.heap[r]? = some o ∧ o.isCells = false)) :=
      fun hr r e => by
        have h := hr r e
        exact ⟨by omega, .inl h.2⟩
    refine (hseq (w.heap.size + 1)
      (fun pre W => I pre W ∧ W.heap[w.heap.size + 1]? = some (.loop (rec .ready none)) ∧ W.heap[w.heap.size]? = some (.deferred (some [])))
      W1 hb1
      (fun s A B row hs hg' hr => ⟨hI s A B row hs.1 hg' (hnw hr), hkeep hg' hr (by omega) hs.2.1, hkeep hg' hr (by omega) hs.2.2⟩)
      (fun pre W hs => ⟨(hIo pre W hs.1).1, fun r hr => by obtain ⟨o, ho, _⟩ := (hIo pre W hs.1).2 r hr; exact (Array.getElem?_eq_some_iff.1 ho).1⟩)
      ?_ ⟨hI1, hL1, hK1⟩ hown1).mono ?_
    · rintro pre x W ⟨hi, hl, hk⟩ hlen
      have hlt : w.heap.size + 1 < W.heap.size := (Array.getElem?_eq_some_iff.1 hl).1
      have hy := run_yield (P := P) (args := encs x) hl (by rw [hrec]; exact hps x)
      rw [hrec] at hy
      refine ⟨fn, _, assign, body, hy, roundIn_of_wpIn hfn (hassign _ pre x W _ hi ?_)⟩
      clear hy
      intro a' Wa hkfa hkpa hia hax
      replace hl := hkfa.same _ _ (by omega) hl rfl
      replace hk := hkfa.same _ _ (Nat.le_refl _) hk rfl
      replace hlt : w.heap.size + 1 < Wa.heap.size := (Array.getElem?_eq_some_iff.1 hl).1
      replace hi := hia
      clear hia
      revert hkpa hkfa
      generalize W = Wb
      intro hkfa hkpa
      obtain ⟨W, rfl⟩ : ∃ W, W = Wa := ⟨_, rfl⟩
      refine ⟨_, run_beginRound hl (by rw [hrec]), ?_⟩
      have hl2 : (W.putObj (w.heap.size + 1) (.loop { rec .ready none with state := .busy })).heap[w.heap.size + 1]? = some (.loop { rec .ready none with state := .busy }) := World.putObj_heap_same hlt
      have hk2 : (W.putObj (w.heap.size + 1) (.loop { rec .ready none with state := .busy })).heap[w.heap.size]? = some (.deferred (some [])) := (World.putObj_heap_other (by omega)).trans hk
      have hw2 : KeepsF bo W (W.putObj (w.heap.size + 1) (.loop { rec .ready none with state := .busy })) := keepsF_b hbo _ _ _ _ (by omega) hl rfl
      refine wpIn_mono (hbody _ pre x a' _ (by omega) ⟨_, hl2⟩ (hI.putObj _ hi (by omega) hl rfl) (hAx x a' _ _ _ _ hax (by omega) hl rfl) hlen) ?_
      have fin : ∀ (W3 : World), KeepsFrom w.heap.size (W.putObj (w.heap.size + 1) (.loop { rec .ready none with state := .busy })) W3 →
          (Instr.endRound (w.heap.size + 1) none).run P W3 = .ok (.bool true) (W3.putObj (w.heap.size + 1) (.loop (rec .ready none))) ∧
          W3.heap[w.heap.size + 1]? = some (.loop { rec .ready none with state := .busy }) ∧
          (W3.putObj (w.heap.size + 1) (.loop (rec .ready none))).heap[w.heap.size + 1]? = some (.loop (rec .ready none)) ∧
          (W3.putObj (w.heap.size + 1) (.loop (rec .ready none))).heap[w.heap.size]? = some (.deferred (some [])) := fun W3 hk3 => by
        have hl3 := hk3.same _ _ (by omega) hl2 rfl
        have := run_endRound (P := P) none hl3
        rw [hrec] at this ⊢
        exact ⟨this, by rw [hrec] at hl3; exact hl3, World.putObj_heap_same (Array.getElem?_eq_some_iff.1 hl3).1, (World.putObj_heap_other (by omega)).trans (hk3.same _ _ (Nat.le_refl _) hk2 rfl)⟩
      rintro e a3 W3 hp
      cases e with
      | normal =>
        obtain ⟨hk3, hkp3, hi3⟩ := hp
        obtain ⟨hr, hl3, hl4, hk4⟩ := fin W3 hk3
        exact ⟨_, _, hr, rfl, ⟨hI.putObj _ hi3 (by omega) hl3 rfl, hl4, hk4⟩, hkpa.trans ((hw2.trans hkp3).trans (keepsF_b hbo _ _ _ _ (by omega) hl3 rfl))⟩
      | ret => exact hp.2.elim
      | exit id => exact hp.2.elim
      | goto t => exact hp.2.elim
      | panic ch => exact hp.elim
      | outgrown => exact hp.elim
    · rintro e W2 ⟨⟨v, rfl⟩, xs, hS, hi, hl, hk⟩
      exact ⟨none, _, by have := run_endLoop (P := P) hl (by rw [hrec]; simp); rw [hrec] at this; exact this, hdone _ xs _ (Nat.le_refl _) hS (hI.putObj _ hi (by omega) hl rfl) ((World.putObj_heap_other (by omega)).trans hk)⟩
end Go.Proofs.YtdlpdpelhkgnlaaGreatDoor
