/- TallyRows: what its walk wants of rows. -/
import Derived.Test.YthhcigmdocldnaaDoorSpoilG
import Derived.Test.YthhcigmdocldnaaDoorFits
namespace Go.Proofs.YthhcigmdocldnaaDoor
open Go Go.RowKit Go.Shelf Go.Sort

theorem rowsC_len (xs : Ent) (vf : Nat → Value) (n : Nat) : (rowsC xs vf n).length = n * 4 := by
  induction n with
  | zero => rfl
  | succ n ih => rw [rowsC_succ, List.length_append, ih]; simp [rowCells]; omega
/-- The rows as one slice's elements. -/
theorem RowsG.rowIn {w : World} {v : Value} {xs : Ent} (h : RowsG w v xs) : ∃ vf : Nat → Value, (∀ i (hi : i < xs.length), RowIn w w.heap.size (vf i) (xs[i].2.length - 1) ((xs[i].2.drop 1).map (Value.int .i64)) ∧ xs[i].2 ≠ []) ∧ ∀ W, Below w.heap.size w W → ∃ n₀, RowIn W n₀ v xs.length (rowsC xs vf xs.length) := by
  obtain ⟨vf, hvf⟩ := h.vals
  refine ⟨vf, fun i hi => ?_, fun W hW => ?_⟩
  · obtain ⟨_, _, _, _, _, _, _, _, _, _, _, hF, hne⟩ := hvf i hi
    exact ⟨hF, hne⟩
  · rcases h.at_ with ⟨rfl, rfl⟩ | ⟨a, cap, rfl, _, hc⟩
    · exact ⟨0, .inl ⟨rfl, rfl, rfl⟩⟩
    · refine ⟨a.block + 1, .inr ⟨a, cap, rfl, fun _ => Nat.lt_succ_self _, fun q u hq => ?_⟩⟩
      have hq4 : q < xs.length * 4 := by
        have := (List.getElem?_eq_some_iff.1 hq).1
        rwa [rowsC_len] at this
      obtain ⟨i, k, hik, hk⟩ : ∃ i k, q = i * 4 + k ∧ k < 4 := ⟨q / 4, q % 4, by omega, by omega⟩
      subst hik
      have hi : i < xs.length := by omega
      rw [rowsC_at xs vf hi hk, rowN_eq hi] at hq
      obtain ⟨a', b, o, s, e1, ead, hbl, y0, y1, y2, y3, _, _⟩ := hvf i hi
      injection e1 with e1
      injection e1 with e1
      subst e1
      have hs : s = none := World.cell?_spot y0
      subst hs
      rw [← Deep.add_add, ead, addrk]
      have hz : ∀ j v, w.cell? ⟨b, o + j, none⟩ = some v → W.cell? ⟨b, o + j, none⟩ = some v := fun j v h => (hW.cell (p := ⟨b, o + j, none⟩) hbl).trans h
      match k, hk, hq with
      | 0, _, hq => simp [rowCells] at hq; subst hq; exact hz 0 _ y0
      | 1, _, hq => simp [rowCells] at hq; subst hq; exact hz 1 _ y1
      | 2, _, hq => simp [rowCells] at hq; subst hq; exact hz 2 _ (by simpa [List.getD_eq_getElem?_getD] using y2)
      | 3, _, hq => simp [rowCells] at hq; subst hq; exact hz 3 _ y3
/-- One row's failures, replaced. -/
def updV (vf : Nat → Value) (i : Nat) (u : Value) : Nat → Value := fun j => if j = i then u else vf j
theorem rowsC_set (xs : Ent) (vf : Nat → Value) {n i : Nat} (hi : i < n) (u : Value) : (rowsC xs vf n).set (i * 4 + 3) u = rowsC xs (updV vf i u) n := by
  apply List.ext_getElem?
  intro q
  rw [List.getElem?_set]
  by_cases hq : q < n * 4
  · obtain ⟨j, k, hjk, hk⟩ : ∃ j k, q = j * 4 + k ∧ k < 4 := ⟨q / 4, q % 4, by omega, by omega⟩
    subst hjk
    have hj : j < n := by omega
    rw [rowsC_at xs _ hj hk, rowsC_at xs _ hj hk]
    by_cases e : j = i
    · subst e
      by_cases e3 : k = 3
      · subst e3
        rw [if_pos rfl, if_pos (by rw [rowsC_len]; omega)]
        simp [rowCells, updV]
      · rw [if_neg (by omega)]
        have hk' : k = 0 ∨ k = 1 ∨ k = 2 := by omega
        rcases hk' with rfl | rfl | rfl <;> rfl
    · rw [if_neg (by omega)]
      unfold updV
      rw [if_neg e]
  · have h1 : (rowsC xs vf n)[q]? = none := List.getElem?_eq_none (by rw [rowsC_len]; omega)
    have h2 : (rowsC xs (updV vf i u) n)[q]? = none := List.getElem?_eq_none (by rw [rowsC_len]; omega)
    rw [if_neg (by omega), h1, h2]
theorem own_upd {W : World} {base n g cap : Nat} {T : TypeId} {xs : Ent} {vf : Nat → Value} (h : W.ownsRow base T 4 (.slice (some ⟨g, 0, none⟩) n cap) n (rowsC xs vf n)) {i : Nat} (hi : i < n) (u : Value) : (W.setCell ⟨g, i * 4 + 3, none⟩ u).ownsRow base T 4 (.slice (some ⟨g, 0, none⟩) n cap) n (rowsC xs (updV vf i u) n) := by
  refine ⟨by rw [rowsC_len], ?_⟩
  rcases h.2 with ⟨e, _⟩ | ⟨g', cap', cur, e, hb, hh, h1, h2, h3, h4⟩
  · cases e
  · injection e with e1 _ e3
    injection e1 with e1
    injection e1 with e1
    subst e1 e3
    refine .inr ⟨g, cap, _, rfl, hb, heap_setCell_g hh, h1, h2, by simpa using h3, ?_⟩
    rw [Array.toList_setIfInBounds, List.take_set, h4, rowsC_set xs vf hi u]
/-- The rows that Rows tells. -/
theorem rowsAt_G {W : World} {base : Nat} {v : Value} {xs : Ent} (h : RowsAt W base v xs) (h11 : ∀ x ∈ xs, x.2.length = 11) (hlim : ∀ x ∈ xs, x.1.1.length ≤ maxLen ∧ x.1.2 < 256) : RowsG W v xs := by
  obtain ⟨vs, hvl, hvf, ho⟩ := h
  have e : (xs.zip vs).flatMap rowCells = rowsC xs (fun i => vs.getD i (.slice none 0 0)) xs.length := by
    apply List.ext_getElem?
    intro q
    have hl1 : ((xs.zip vs).flatMap rowCells).length = xs.length * 4 := ho.1
    by_cases hq : q < xs.length * 4
    · obtain ⟨i, k, hik, hk⟩ : ∃ i k, q = i * 4 + k ∧ k < 4 := ⟨q / 4, q % 4, by omega, by omega⟩
      subst hik
      have hi : i < xs.length := by omega
      have hiv : i < vs.length := by omega
      rw [flat4 rowCells (fun _ => rfl) _ i k (by simp; omega) hk, rowsC_at xs _ hi hk, List.getElem_zip, rowN_eq hi]
      simp [List.getD_eq_getElem?_getD, hiv]
    · rw [List.getElem?_eq_none (by omega), List.getElem?_eq_none (by rw [rowsC_len]; omega)]
  rw [e] at ho
  refine rowsG_own ho rfl (fun i hi => ?_) hlim
  have hiv : i < vs.length := by omega
  have hx := h11 xs[i] (List.getElem_mem hi)
  obtain ⟨g, cap, cur, e1, _, hh, _, _, _, ht⟩ := hvf i hi hiv
  have e2 : vs.getD i (.slice none 0 0) = .slice (some ⟨g, 0, none⟩) 10 cap := by simp [List.getD_eq_getElem?_getD, hiv, e1]
  refine ⟨?_, fun h0 => by rw [h0] at hx; cases hx⟩
  rw [e2, hx]
  refine .inr ⟨_, _, rfl, fun _ => (Array.getElem?_eq_some_iff.1 hh).1, fun j u hj => World.news_of_block hh j u ?_⟩
  rw [← ht, List.getElem?_take] at hj
  split at hj
  · exact hj
  · cases hj
theorem rowsOf_self {xs : Ent} (ha : Asc cmpP (xs.map (·.1))) {ps : List (Bytes × Nat)} (hp : Places xs ps) : rowsOf xs ps = xs := by
  have e : ps = xs.map (·.1) := Asc.uniq ordP hp.asc ha fun p => hp.perm.mem_iff
  subst e
  unfold rowsOf
  rw [List.map_map]
  have hn := ha.nodup ordP
  have : ∀ x ∈ xs, ((fun p => (p, cnt xs p)) ∘ fun x => x.1) x = x := by
    intro x hx
    show (x.1, cnt xs x.1) = x
    have hl : look xs x.1 = some x.2 := by
      unfold look
      have hf : xs.find? (fun q => decide (q.1 = x.1)) = some x := by
        obtain ⟨i, hi, rfl⟩ := List.getElem_of_mem hx
        rw [List.find?_eq_some_iff_getElem]
        refine ⟨by simp, i, hi, rfl, fun j hj => ?_⟩
        have hne : xs[j].1 ≠ xs[i].1 := fun e2 => by
          have := nodup_inj hn (i := j) (j := i) (by simp; omega) (by simpa using hi) (by simpa using e2)
          omega
        simpa using hne
      rw [hf]; rfl
    unfold cnt
    rw [hl]
    rfl
  exact (List.map_congr_left (g := id) (fun x hx => this x hx)).trans (List.map_id xs)
/-- Of's answer and Fits' are one. -/
theorem of_fits {w w₁ : World} {names : Int} {xs : Ent} {e e₁ : Ending} {w' w₁' : World} (h : OfPost w names xs e w') (h₁ : FitsPost w₁ names xs e₁ w₁') : ∃ z p, e = .returned (.tuple #[.pointer p, .int .i64 z]) ∧ e₁ = .returned (.int .i64 z) ∧ ((z ≠ 0 ∧ p = none) ∨ (z = 0 ∧ p = some ⟨w.heap.size + 1, 0, none⟩ ∧ RowsOk xs ∧ TallyAt w' (w.heap.size + 1) w.heap.size names xs)) := by
  obtain ⟨_, z, rfl, h₁⟩ := h₁
  obtain ⟨_, h⟩ := h
  rcases h with ⟨rfl, hb⟩ | ⟨hn, h⟩
  · rcases h₁ with ⟨rfl, _⟩ | ⟨hn, _⟩
    · exact ⟨1, none, rfl, rfl, .inl ⟨by decide, rfl⟩⟩
    · omega
  · rcases h₁ with ⟨_, hb⟩ | ⟨_, h₁⟩
    · omega
    · rcases h with ⟨rfl, hno⟩ | ⟨hok, h⟩
      · rcases h₁ with ⟨rfl, _⟩ | ⟨hok, _⟩
        · exact ⟨4, none, rfl, rfl, .inl ⟨by decide, rfl⟩⟩
        · exact absurd hok hno
      · rcases h₁ with ⟨_, hno⟩ | ⟨_, h₁⟩
        · exact absurd hok hno
        · rcases h with ⟨rfl, hlt⟩ | ⟨rfl, hle, hT⟩
          · rcases h₁ with ⟨rfl, _⟩ | ⟨_, hle⟩
            · exact ⟨41, none, rfl, rfl, .inl ⟨by decide, rfl⟩⟩
            · omega
          · rcases h₁ with ⟨_, hlt⟩ | ⟨rfl, _⟩
            · omega
            · exact ⟨0, _, rfl, rfl, .inr ⟨rfl, rfl, hok, hT⟩⟩
end Go.Proofs.YthhcigmdocldnaaDoor
