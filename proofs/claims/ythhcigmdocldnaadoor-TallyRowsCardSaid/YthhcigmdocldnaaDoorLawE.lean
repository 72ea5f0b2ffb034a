/- TallySum: what was counted, in memory. -/
import Derived.Test.YthhcigmdocldnaaDoorLawD
namespace Go.Proofs.YthhcigmdocldnaaDoor
open Go Go.RowKit Go.Shelf Go.Sort

def resCells (r : Res) : List Value := [.string ⟨r.1.1.toArray⟩, .int .u8 (r.1.2 : Int), .int .u8 (r.2 : Int)]
/-- What was counted, as it lies in memory. -/
def CntAt (W : World) (base : Nat) (v : Value) (acc : List Res) : Prop := W.ownsRow base 34 3 v acc.length (acc.flatMap resCells)
theorem infoRes : (Tryd.prog.info? 34).map (fun i => (i.zero, i.size, i.bytes)) = some (some (.agg #[.string ⟨#[]⟩, .int .u8 0, .int .u8 0]), 3, 24) := by kernel_rfl
theorem flat3 {α : Type} (f : α → List Value) (hf : ∀ x, (f x).length = 3) : ∀ (l : List α) (i k : Nat) (hi : i < l.length), k < 3 → (l.flatMap f)[i * 3 + k]? = (f l[i])[k]?
  | x :: l, 0, k, _, hk => by
    rw [List.flatMap_cons, Nat.zero_mul, Nat.zero_add, List.getElem?_append_left (by rw [hf]; exact hk)]
    rfl
  | x :: l, i + 1, k, hi, hk => by
    rw [List.flatMap_cons, List.getElem?_append_right (by rw [hf]; omega), hf, show (i + 1) * 3 + k - 3 = i * 3 + k by omega, flat3 f hf l i k (by simpa using hi) hk]
    rfl
theorem cell_three {w : World} {x0 x1 x2 : Value} {t : TypeId} {k : Nat} (hk : k = w.heap.size) : ∀ j u, [x0, x1, x2][j]? = some u → (w.alloc (.cells #[x0, x1, x2] t)).cell? ((⟨k, 0, none⟩ : Addr).add j) = some u := by
  subst hk
  intro j u hj
  match j, hj with
  | 0, hj => simp at hj; subst hj; simp [Addr.add]
  | 1, hj => simp at hj; subst hj; simp [Addr.add]
  | 2, hj => simp at hj; subst hj; simp [Addr.add]
theorem CntAt.res {W : World} {base : Nat} {v : Value} {acc : List Res} (h : CntAt W base v acc) : ResAt W v acc ∧ ∀ a n c, v = .slice (some a) n c → a.block < W.heap.size := by
  rcases h.2 with ⟨rfl, h0⟩ | ⟨g, cap, cur, rfl, hb, hg, hc, hm, hs, ht⟩
  · exact ⟨.inl ⟨rfl, List.eq_nil_of_length_eq_zero h0⟩, fun a n c e => by injection e with e; cases e⟩
  · refine ⟨.inr ⟨⟨g, 0, none⟩, cap, rfl, hc, fun i hi => ?_⟩, fun a n c e => ?_⟩
    · have hk : ∀ k (hk : k < 3) (v : Value), (resCells acc[i])[k]? = some v → W.cell? ((⟨g, 0, none⟩ : Addr).add (i * 3 + k)) = some v := fun k hk v hv => by
        have := own_cell h (j := i * 3 + k) (v := v) (by omega) (by rw [flat3 resCells (fun _ => rfl) _ i k hi hk]; exact hv)
        unfold Addr.add
        split
        · rename_i e; rw [e] at this; exact this
        · simpa using this
      exact ⟨hk 0 (by omega) _ rfl, hk 1 (by omega) _ rfl, hk 2 (by omega) _ rfl⟩
    · injection e with e _ _
      injection e with e
      subst e
      exact (Array.getElem?_eq_some_iff.1 hg).1
theorem CntAt.kept {W W' : World} {base k : Nat} {v : Value} {acc : List Res} (h : CntAt W base v acc) (hg : W.grownBy W' (some k)) (hk : ∀ cur, W.heap[k]? ≠ some (.cells cur 34 (0, 0))) : CntAt W' base v acc := by
  refine ⟨h.1, ?_⟩
  rcases h.2 with h' | ⟨g, cap, cur, e, hb, hgg, rest⟩
  · exact .inl h'
  · refine .inr ⟨g, cap, cur, e, hb, (hg.block g (Array.getElem?_eq_some_iff.1 hgg).1 (fun e' => ?_)).trans hgg, rest⟩
    obtain rfl := Option.some.inj e'
    exact hk _ hgg
theorem CntAt.below {W W' : World} {base : Nat} {v : Value} {acc : List Res} (h : CntAt W base v acc) (hb : Below W.heap.size W W') : CntAt W' base v acc := own_below h hb
/-- A tally stays where what was counted grows. -/
theorem Tal.grow {w₀ w w' : World} {b bm : Nat} {names : Int} {l : Ent} {acc acc' : List Res} {base : Nat} {v : Value} (h : Tal w₀ w b bm names l acc) (hc : CntAt w base v acc') (hg : w.grownBy w' v.ownBlock) : Tal w₀ w' b bm names l acc := by
  rcases hc.2 with ⟨rfl, _⟩ | ⟨g, cap, cur, rfl, _, hgg, _⟩
  · exact ⟨⟨(hg.block b h.blt (fun e => by cases e)).trans h.at_.1, h.at_.2.of_block (hg.block bm h.bmlt (fun e => by cases e))⟩, h.inv, h.ge, h.lt⟩
  · refine h.kept (k := g) hg (fun e => ?_) (fun e => ?_)
    · subst e
      have := h.at_.1.symm.trans hgg
      simp at this
    · subst e
      obtain ⟨es, clock, hm, _⟩ := h.at_.2
      have := hm.symm.trans hgg
      simp at this
theorem Tal.notRes {w₀ w : World} {b bm : Nat} {names : Int} {l : Ent} {acc : List Res} (h : Tal w₀ w b bm names l acc) : ∀ cur t, w.heap[bm]? ≠ some (.cells cur t (0, 0)) := by
  obtain ⟨es, clock, hm, _⟩ := h.at_.2
  intro cur t e
  have := hm.symm.trans e
  simp at this
/-- Rows stay where a tally's map is written. -/
theorem RowsT.kept {T : TypeId} {W W' : World} {base k : Nat} {v : Value} {xs : Ent} (h : RowsT T W base v xs) (hg : W.grownBy W' (some k)) (hk : ∀ cur t, W.heap[k]? ≠ some (.cells cur t (0, 0))) (hkl : k < W.heap.size) : RowsT T W' base v xs := by
  obtain ⟨vs, hl, hf, ho, h'⟩ := h
  refine ⟨vs, hl, fun i h1 h2 => (hf i h1 h2).kept hg (fun r e => ?_), ho, ?_⟩
  · obtain rfl := Option.some.inj e
    refine ⟨W.heap[k], Array.getElem?_eq_getElem hkl, fun cur e2 => ?_⟩
    exact hk cur _ ((Array.getElem?_eq_getElem hkl).trans (congrArg some e2))
  · rcases h' with h' | ⟨g, cap, cur, e, hb, hgg, rest⟩
    · exact .inl h'
    · refine .inr ⟨g, cap, cur, e, hb, (hg.block g (Array.getElem?_eq_some_iff.1 hgg).1 (fun e' => ?_)).trans hgg, rest⟩
      obtain rfl := Option.some.inj e'
      exact hk _ _ hgg
end Go.Proofs.YthhcigmdocldnaaDoor
