/- The law's own function told: rows, turned into the document's. -/
import Derived.Test.YthhcigmdocldnaaDoorTallyJ
namespace Go.Proofs.YthhcigmdocldnaaDoor
open Go Go.RowKit Go.Shelf Go.Sort

/-- Rows in memory, of whichever of the two types. -/
def RowsT (T : TypeId) (W : World) (base : Nat) (v : Value) (xs : Ent) : Prop :=
  ∃ vs : List Value, vs.length = xs.length ∧ (∀ i (h1 : i < xs.length) (h2 : i < vs.length), FailsAt W base xs[i].2 vs[i]) ∧ W.ownsRow base T 4 v xs.length ((xs.zip vs).flatMap rowCells)
theorem infoR19 : (Tryd.prog.info? 71).map (fun i => (i.zero, i.size, i.bytes)) = some (some (.agg #[.string ⟨#[]⟩, .int .u8 0, .int .i64 0, .slice none 0 0]), 4, 56) := by kernel_rfl

set_option maxRecDepth 100000 in
set_option maxHeartbeats 1000000 in
theorem told_any (base : Nat) (v : Value) (xs : Ent) (w : World) (h : RowsAt w base v xs) (hxl : xs.length ≤ 1000000) (hb : base ≤ w.heap.size) :
    Calls Tryd.prog 16 #[v] w fun e w' => ∃ v', e = .returned v' ∧ RowsT 71 w' base v' xs ∧ Below w.heap.size w w' := by
  obtain ⟨vs, hvl, hvf, hvo⟩ := h
  have hsh : ∃ p c, v = .slice p xs.length c := by
    rcases hvo.2 with ⟨rfl, h0⟩ | ⟨g, cap, cur, rfl, _⟩
    · exact ⟨none, 0, by rw [h0]⟩
    · exact ⟨_, _, rfl⟩
  obtain ⟨p, c, rfl⟩ := hsh
  have HH := Lib.hid (And.intro hvl (And.intro hvf hvo))
  clear hvl hvf hvo
  obtain ⟨i1, hi1, hr0, hr1, hr2⟩ := info_parts infoR19
  go_enter Tryd.func16, Tryd.ntmps16
  go_wp2_with fail
  go_loopw [3, 4] (fun o iv wr => ∃ i : Nat, iv = .int .i64 (i : Int) ∧ i ≤ xs.length ∧ wr.ownsRow w.heap.size 71 4 o i (((xs.zip vs).take i).flatMap rowCells) ∧ Below w.heap.size w wr)
    (fun _ iv _ => xs.length - natOf iv)
  case atStart => exact ⟨0, rfl, Nat.zero_le _, ⟨rfl, .inl ⟨rfl, rfl⟩⟩, Below.refl _ _⟩
  case round =>
    obtain ⟨i, rfl, hi, ho, hB⟩ := hrel
    by_cases hlast : i < xs.length
    · have hli : (i : Int) < (xs.length : Int) := by omega
      obtain ⟨hvl, hvf, hvo⟩ := HH.out
      have hv : i < vs.length := by omega
      obtain ⟨g2, cap2, cur2, hu, _⟩ := hvf i hlast hv
      have hsl : ∃ g, p = some ⟨g, 0, none⟩ ∧ xs.length ≤ c := by
        rcases hvo.2 with ⟨h0, _⟩ | ⟨g, cap, cur, e, _, _, hcap, _⟩
        · injection h0 with _ h0; omega
        · injection e with e1 _ e3; subst e1; subst e3; exact ⟨g, rfl, hcap⟩
      obtain ⟨g, rfl, hxc⟩ := hsl
      have hgl : g < w.heap.size := (hvo.lt g rfl).2
      have hzi : i < (xs.zip vs).length := by simp; omega
      have hrc : ∀ k (hk : k < 4) (v : Value), (rowCells (xs[i], vs[i]))[k]? = some v → wr.cell? ⟨g, i * 4 + k, none⟩ = some v := fun k hk v hv' => (hB.cell (by exact hgl)).trans (own_cell hvo (by omega) (by
        rw [flat4 rowCells (fun _ => rfl) _ i k hzi hk, List.getElem_zip]; exact hv'))
      obtain ⟨q, hq⟩ : ∃ q, q = xs[i] := ⟨_, rfl⟩
      rw [← hq] at hrc
      obtain ⟨z, hz⟩ : ∃ z, z = q.2.getD 0 0 := ⟨_, rfl⟩
      have y0 := hrc 0 (by omega) (str q.1.1) rfl
      have y1 := hrc 1 (by omega) (.int .u8 (q.1.2 : Int)) rfl
      have y2 := hrc 2 (by omega) (.int .i64 z) (by rw [hz]; rfl)
      have y3 := hrc 3 (by omega) (.slice (some ⟨g2, 0, none⟩) 10 cap2) (by rw [← hu]; rfl)
      rw [Nat.add_zero] at y0
      unfold str at y0
      have hnx : ((xs.zip vs).take (i + 1)).flatMap rowCells = ((xs.zip vs).take i).flatMap rowCells ++ [.string ⟨q.1.1.toArray⟩, .int .u8 (q.1.2 : Int), .int .i64 z, .slice (some ⟨g2, 0, none⟩) 10 cap2] := by
        rw [List.take_succ_eq_append_getElem hzi, List.flatMap_append, List.getElem_zip, ← hq, ← hu, hz]
        simp [rowCells, str]
      have HF := Lib.hid (And.intro ho (And.intro hB hnx))
      clear ho hB hnx hrc hz hq hu hv hzi hvf hvo hvl
      go_wp2_with (at_builtin; refine Bx.h ?_)
      refine ⟨?_⟩
      refine wpList_append_own _ rfl _ _ 37 rfl w.heap.size 71 i1 (.agg #[.string ⟨#[]⟩, .int .u8 0, .int .i64 0, .slice none 0 0]) 4 56 Tryd.underlying37 hi1 hr0 hr1 hr2 rfl (by decide) _ _ _ rfl (HF.out.1.alloc _) ⟨wr.heap.size, 0, none⟩ 1 1 [.string ⟨q.1.1.toArray⟩, .int .u8 (q.1.2 : Int), .int .i64 z, .slice (some ⟨g2, 0, none⟩) 10 cap2] rfl rfl (cell_four rfl) (by simp [Value.oneCell']) (by unfold maxLen; omega) (by omega) (by have := HF.out.2.1.size; simp; omega) ?_
      intro v' w3 hown3 hgrow3 hnil3
      have hg : wr.grownBy w3 u3.ownBlock := World.grownBy.trans (World.grownBy_alloc _ _ _) hgrow3
      have hB3 := HF.out.2.1.grown hg HF.out.2.1.size (fun k e => (HF.out.1.lt k e).1)
      rw [← HF.out.2.2] at hown3
      have HZ := Lib.hid (And.intro hown3 hB3)
      clear hown3 hgrow3 hnil3 hg hB3
      go_wp2
      go_roundw
      case rel => exact ⟨i + 1, by simp, by omega, HZ.out.1, HZ.out.2⟩
      case measure => simp [natOf]; omega
    · have hli : ¬ (i : Int) < (xs.length : Int) := by omega
      obtain rfl : i = xs.length := by omega
      have HB := Lib.hid (And.intro ho hB)
      clear ho hB
      go_wp2
      refine bodyPost_ret (v := u3) (by simp [results, Tryd.results16, go_sem]) rfl ?_
      obtain ⟨hvl, hvf, hvo⟩ := HH.out
      refine ⟨u3, rfl, ⟨vs, hvl, fun j h1 h2 => (hvf j h1 h2).kept (grownBy_of_below HB.out.2 none) (fun r e => by cases e), ?_⟩, HB.out.2⟩
      have ho := HB.out.1
      rw [List.take_of_length_le (by simp; omega)] at ho
      refine ⟨ho.1, ?_⟩
      rcases ho.2 with h | ⟨g, cap, cur, e, hg, rest⟩
      · exact .inl h
      · exact .inr ⟨g, cap, cur, e, Nat.le_trans hb hg, rest⟩
end Go.Proofs.YthhcigmdocldnaaDoor
