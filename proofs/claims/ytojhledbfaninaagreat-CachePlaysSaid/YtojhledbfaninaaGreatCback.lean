/- What a session keeps. -/
import Derived.Test.YtojhledbfaninaaGreatClong
import Derived.Deep.RegionHeld3
namespace Go.Proofs.YtojhledbfaninaaGreat
open Go Go.RowKit Go.Shelf Go.Sort
attribute [local go_sem] bneI

theorem may_dom {l : Bytes} (h : mayB l = true) : l.length ≤ 253 := by
  simp [mayB] at h
  exact h.1.1
theorem bare_ge (l : Bytes) : l.length ≤ (bareB l).length + 2 := by
  unfold bareB
  split
  · simp; omega
  · omega
theorem may_fit {x : PE} (h : mayE x = true) : FitE x := by
  simp only [mayE, Bool.and_eq_true] at h
  obtain ⟨⟨⟨⟨h1, h2⟩, h3⟩, _⟩, _⟩ := h
  have hd := may_dom h1
  have hi : x.id.length ≤ 32 := by simp [idB] at h2; exact h2.2
  refine ⟨by unfold maxLen; omega, by unfold maxLen; omega, fun u hu => ?_⟩
  have hp : patB u = true := by
    simp only [polB, Bool.and_eq_true, List.all_eq_true] at h3
    exact h3.2 u hu
  have := may_dom hp
  have := bare_ge u
  unfold maxLen; omega
theorem short_fit {x : PE} (h : ShortE x) : FitE x := by
  obtain ⟨h1, h2, h3, h4⟩ := h
  refine ⟨by unfold maxLen; omega, by unfold maxLen; omega, fun u hu => ?_⟩
  have := h4 u hu
  unfold maxLen; omega
/-- A Learn leaves each cell as it was. -/
theorem learn_keep {w w' : World} {b bm : Nat} {most : Int} {L : List PE} {x : PE} {e : Ending} (hc : CacheIs w Any b bm most L) (hl : LearnPost w Any b bm most L x e w') {a : Addr} {v : Value} (hv : w.cell? a = some v) : w'.cell? a = some v := by
  obtain ⟨l, hc, _⟩ := hc
  obtain ⟨o, ho, hoc⟩ := hc.isMap
  exact cell_grown hl.2.2 hv (fun e => by injection e with e; exact map_ne ho hoc hv e)
theorem RowS.keep {W W' : World} {v : Value} {zs : List SM} (h : RowS W v zs) (hk : ∀ a v, W.cell? a = some v → W'.cell? a = some v) : RowS W' v zs := by
  rcases h with h | ⟨h1, b, o, c, rfl, hc⟩
  · exact .inl h
  · exact .inr ⟨h1, b, o, c, rfl, fun i hi k u hu => hk _ _ (hc i hi k u hu)⟩
theorem TextsS.keep {W W' : World} {B : Nat → Prop} {zs : List SM} (h : TextsS W B zs) (hk : ∀ a v, W.cell? a = some v → W'.cell? a = some v) : TextsS W' B zs := fun s hs => (h s hs).keep fun a v hv _ => hk a v hv
theorem below_keep {W W' : World} (hb : Below W.heap.size W W') : ∀ a v, W.cell? a = some v → W'.cell? a = some v := fun a v h => (hb.cell (p := a) (cell_lt h)).trans h
theorem below_drew (w : World) : Below w.heap.size w w.drew := ⟨rfl, rfl, rfl, Nat.le_refl _, fun _ _ => rfl⟩
theorem load_yes {most : Int} {L : List PE} (h : GoodE most L) (h1 : 1 ≤ most) (h2 : most ≤ 8) : loadB most L = 0 :=
  loadB_good (by omega) (by have := h.len; omega) (goodB_iff.2 ⟨h.may, h.asc⟩)
theorem GoodE.small {most : Int} {L : List PE} (h : GoodE most L) (h2 : most ≤ 8) : L.length ≤ 1000 := by have := h.len; omega

theorem box7 {W : World} {b : Nat} {v0 v1 v2 v3 v4 v5 v6 : Value} {t : TypeId} (h : W.heap[b]? = some (.cells #[v0, v1, v2, v3, v4, v5, v6] t (0, 0))) :
    W.cell? ⟨b, 1, none⟩ = some v1 ∧ W.cell? ⟨b, 2, none⟩ = some v2 ∧ W.cell? ⟨b, 3, none⟩ = some v3 ∧ W.cell? ⟨b, 4, none⟩ = some v4 ∧ W.cell? ⟨b, 5, none⟩ = some v5 ∧ W.cell? ⟨b, 6, none⟩ = some v6 := by
  refine ⟨?_, ?_, ?_, ?_, ?_, ?_⟩ <;> simp [World.cell?, h]
end Go.Proofs.YtojhledbfaninaaGreat
