/- The law's told at whatever rows, wherever they lie. -/
import Derived.Test.YthhcigmdocldnaaDoorOfE
import Derived.Test.YthhcigmdocldnaaDoorTallyK
namespace Go.Proofs.YthhcigmdocldnaaDoor
open Go Go.RowKit Go.Shelf Go.Sort

/-- The cells of the first m rows. -/
def rowsC (xs : Ent) (vf : Nat → Value) (m : Nat) : List Value := (List.range m).flatMap fun j => rowCells (rowN xs j, vf j)
theorem rowsC_succ (xs : Ent) (vf : Nat → Value) (m : Nat) : rowsC xs vf (m + 1) = rowsC xs vf m ++ rowCells (rowN xs m, vf m) := by
  unfold rowsC
  rw [List.range_succ, List.flatMap_append]
  simp
theorem rowsC_at (xs : Ent) (vf : Nat → Value) {m i k : Nat} (hi : i < m) (hk : k < 4) : (rowsC xs vf m)[i * 4 + k]? = (rowCells (rowN xs i, vf i))[k]? := by
  unfold rowsC
  rw [flat4 (fun j => rowCells (rowN xs j, vf j)) (fun _ => rfl) (List.range m) i k (by simpa using hi) hk, List.getElem_range]
/-- Rows that the call itself made. -/
theorem rowsG_own {W : World} {base n : Nat} {T : TypeId} {v : Value} {xs : Ent} {vf : Nat → Value} (ho : W.ownsRow base T 4 v n (rowsC xs vf n)) (hn : n = xs.length) (hf : ∀ i (hi : i < xs.length), RowIn W W.heap.size (vf i) (xs[i].2.length - 1) ((xs[i].2.drop 1).map (Value.int .i64)) ∧ xs[i].2 ≠ []) (hlim : ∀ x ∈ xs, x.1.1.length ≤ maxLen ∧ x.1.2 < 256) : RowsG W v xs := by
  subst hn
  refine ⟨?_, hlim⟩
  have ho' := ho
  rcases ho'.2 with ⟨rfl, h0⟩ | ⟨g, cap, cur, rfl, _, hg, hcap, _⟩
  · exact .inl ⟨rfl, List.eq_nil_of_length_eq_zero h0⟩
  · refine .inr ⟨⟨g, 0, none⟩, cap, rfl, hcap, fun i hi => ?_⟩
    have hk : ∀ k (hk : k < 4) (u : Value), (rowCells (rowN xs i, vf i))[k]? = some u → W.cell? ⟨g, i * 4 + k, none⟩ = some u := fun k hk u hu => own_cell ho (by omega) (by rw [rowsC_at xs vf hi hk]; exact hu)
    have hr : rowN xs i = xs[i] := rowN_eq hi
    rw [hr] at hk
    obtain ⟨h4, h5⟩ := hf i hi
    exact ⟨g, i * 4, none, vf i, addr0 g (i * 4), (Array.getElem?_eq_some_iff.1 hg).1, hk 0 (by omega) _ rfl, hk 1 (by omega) _ rfl, hk 2 (by omega) _ rfl, hk 3 (by omega) _ rfl, h4, h5⟩
/-- The rows' failures, as values. -/
theorem RowsG.vals {w : World} {v : Value} {xs : Ent} (h : RowsG w v xs) : ∃ vf : Nat → Value, ∀ i (hi : i < xs.length), ∃ a b o s, v = .slice (some a) xs.length (match v with | .slice _ _ c => c | _ => 0) ∧ a.add (i * 4) = ⟨b, o, s⟩ ∧ b < w.heap.size ∧ w.cell? ⟨b, o, s⟩ = some (.string ⟨xs[i].1.1.toArray⟩) ∧ w.cell? ⟨b, o + 1, none⟩ = some (.int .u8 (xs[i].1.2 : Int)) ∧ w.cell? ⟨b, o + 2, none⟩ = some (.int .i64 (xs[i].2.getD 0 0)) ∧ w.cell? ⟨b, o + 3, none⟩ = some (vf i) ∧ RowIn w w.heap.size (vf i) (xs[i].2.length - 1) ((xs[i].2.drop 1).map (Value.int .i64)) ∧ xs[i].2 ≠ [] := by
  rcases h.at_ with ⟨rfl, rfl⟩ | ⟨a, cap, rfl, _, hc⟩
  · exact ⟨fun _ => .slice none 0 0, fun i hi => by simp at hi⟩
  · have hex : ∀ i, ∃ fv, ∀ hi : i < xs.length, ∃ b o s, a.add (i * 4) = ⟨b, o, s⟩ ∧ b < w.heap.size ∧ w.cell? ⟨b, o, s⟩ = some (.string ⟨xs[i].1.1.toArray⟩) ∧ w.cell? ⟨b, o + 1, none⟩ = some (.int .u8 (xs[i].1.2 : Int)) ∧ w.cell? ⟨b, o + 2, none⟩ = some (.int .i64 (xs[i].2.getD 0 0)) ∧ w.cell? ⟨b, o + 3, none⟩ = some fv ∧ RowIn w w.heap.size fv (xs[i].2.length - 1) ((xs[i].2.drop 1).map (Value.int .i64)) ∧ xs[i].2 ≠ [] := by
      intro i
      by_cases hi : i < xs.length
      · obtain ⟨b, o, s, fv, rest⟩ := hc i hi
        exact ⟨fv, fun _ => ⟨b, o, s, rest⟩⟩
      · exact ⟨.slice none 0 0, fun h => absurd h hi⟩
    obtain ⟨vf, hvf⟩ := Classical.axiomOfChoice hex
    exact ⟨vf, fun i hi => by obtain ⟨b, o, s, rest⟩ := hvf i hi; exact ⟨a, b, o, s, rfl, rest⟩⟩

set_option maxRecDepth 100000 in
set_option maxHeartbeats 1000000 in
theorem toldG_any (w : World) (v : Value) (xs : Ent) (h : RowsG w v xs) (hxl : xs.length ≤ 1000) :
    Calls Tryd.prog 16 #[v] w fun e w' => ∃ v', e = .returned v' ∧ RowsG w' v' xs ∧ Below w.heap.size w w' := by
  obtain ⟨vf, hvf⟩ := h.vals
  obtain ⟨p, c, rfl, hel⟩ := h.shape
  have HH := Lib.hid (And.intro hvf (And.intro h.lim hel))
  clear hvf h hel
  obtain ⟨i1, hi1, hr0, hr1, hr2⟩ := info_parts infoR19
  go_enter Tryd.func16, Tryd.ntmps16
  go_wp2_with fail
  go_loopw [3, 4] (fun o iv wr => ∃ i : Nat, iv = .int .i64 (i : Int) ∧ i ≤ xs.length ∧ wr.ownsRow w.heap.size 71 4 o i (rowsC xs vf i) ∧ Below w.heap.size w wr)
    (fun _ iv _ => xs.length - natOf iv)
  case atStart => exact ⟨0, rfl, Nat.zero_le _, ⟨rfl, .inl ⟨rfl, rfl⟩⟩, Below.refl _ _⟩
  case round =>
    obtain ⟨i, rfl, hi, ho, hB⟩ := hrel
    by_cases hlast : i < xs.length
    · have hli : (i : Int) < (xs.length : Int) := by omega
      obtain ⟨a, rfl, hca, _⟩ := HH.out.2.2 i hlast
      obtain ⟨a', b, off, s, e1, ead, hbl, y0, y1, y2, y3, hF, _⟩ := HH.out.1 i hlast
      injection e1 with e1
      injection e1 with e1
      subst e1
      have z0 := (hB.cell (p := ⟨b, off, s⟩) hbl).trans y0
      have z1 := (hB.cell (p := ⟨b, off + 1, none⟩) hbl).trans y1
      have z2 := (hB.cell (p := ⟨b, off + 2, none⟩) hbl).trans y2
      have z3 := (hB.cell (p := ⟨b, off + 3, none⟩) hbl).trans y3
      have hnx := rowsC_succ xs vf i
      rw [rowN_eq hlast] at hnx
      obtain ⟨fp, fn, fc, hfv⟩ : ∃ fp fn fc, vf i = .slice fp fn fc := by
        rcases hF with ⟨e, _⟩ | ⟨ad, c, e, _⟩
        · exact ⟨none, 0, 0, e⟩
        · exact ⟨some ad, _, c, e⟩
      unfold rowCells str at hnx
      dsimp only at hnx
      rw [hfv] at hnx z3
      generalize xs[i].1.1 = qd at z0 hnx
      generalize xs[i].1.2 = qt at z1 hnx
      generalize xs[i].2.getD 0 0 = qg at z2 hnx
      have HF := Lib.hid (And.intro ho (And.intro hB hnx))
      clear ho hB hnx hF hfv y0 y1 y2 y3
      go_wp2_with (at_builtin; refine Bx.h ?_)
      refine ⟨?_⟩
      refine wpList_append_own _ rfl _ _ 37 rfl w.heap.size 71 i1 (.agg #[.string ⟨#[]⟩, .int .u8 0, .int .i64 0, .slice none 0 0]) 4 56 Tryd.underlying37 hi1 hr0 hr1 hr2 rfl (by decide) _ _ _ rfl (HF.out.1.alloc _) ⟨wr.heap.size, 0, none⟩ 1 1 [.string ⟨qd.toArray⟩, .int .u8 (qt : Int), .int .i64 qg, .slice fp fn fc] rfl rfl (cell_four rfl) (by simp [Value.oneCell']) (by unfold maxLen; omega) (by omega) (by have := HF.out.2.1.size; simp; omega) ?_
      intro v' w3 hown3 hgrow3 hnil3
      have hg : wr.grownBy w3 u3.ownBlock := World.grownBy.trans (World.grownBy_alloc _ _ _) hgrow3
      have hB3 := HF.out.2.1.grown hg HF.out.2.1.size (fun k e => (HF.out.1.lt k e).1)
      rw [← HF.out.2.2] at hown3
      have HZ := Lib.hid (And.intro hown3 hB3)
      clear hown3 hgrow3 hnil3 hg hB3
      go_wp2
      go_roundw
      case rel => exact ⟨i + 1, by simp, by omega, HZ.out.1, HZ.out.2⟩
      case measure => simp [natOf]; omega
    · have hli : ¬ (i : Int) < (xs.length : Int) := by omega
      obtain rfl : i = xs.length := by omega
      have HB := Lib.hid (And.intro ho hB)
      clear ho hB
      go_wp2
      refine bodyPost_ret (v := u3) (by simp [results, Tryd.results16, go_sem]) rfl ?_
      refine ⟨u3, rfl, rowsG_own HB.out.1 rfl (fun i hi => ?_) HH.out.2.1, HB.out.2⟩
      obtain ⟨_, _, _, _, _, _, _, _, _, _, _, hF, hne⟩ := HH.out.1 i hi
      exact ⟨(hF.below HB.out.2).mono HB.out.2.size, hne⟩
end Go.Proofs.YthhcigmdocldnaaDoor
