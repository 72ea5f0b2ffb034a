/- The contracts of package tally: All. -/
import Derived.Test.YthhcigmdocldnaaDoorTallyI
namespace Go.Proofs.YthhcigmdocldnaaDoor
open Go Go.RowKit Go.Shelf Go.Sort

theorem flat4 {α : Type} (f : α → List Value) (hf : ∀ x, (f x).length = 4) : ∀ (l : List α) (i k : Nat) (hi : i < l.length), k < 4 → (l.flatMap f)[i * 4 + k]? = (f l[i])[k]?
  | [], i, k, hi, _ => by simp at hi
  | x :: l, 0, k, _, hk => by
    simp only [List.flatMap_cons, Nat.zero_mul, Nat.zero_add, List.getElem_cons_zero]
    rw [List.getElem?_append_left (by rw [hf]; exact hk)]
  | x :: l, i + 1, k, hi, hk => by
    have ih := flat4 f hf l i k (by simpa using hi) hk
    simp only [List.flatMap_cons, List.getElem_cons_succ]
    rw [List.getElem?_append_right (by rw [hf]; omega), hf, show (i + 1) * 4 + k - 4 = i * 4 + k by omega]
    exact ih
theorem own_cell {w : World} {base : Nat} {e : TypeId} {size g n cap : Nat} {xs : List Value} (h : w.ownsRow base e size (.slice (some ⟨g, 0, none⟩) n cap) n xs) {j : Nat} {v : Value} (hj : j < n * size) (hv : xs[j]? = some v) : w.cell? ⟨g, j, none⟩ = some v := by
  rcases h.2 with ⟨h0, _⟩ | ⟨g', cap', cur, e', hgb, hgc, hcap, hcm, hcs, htk⟩
  · cases h0
  · injection e' with e1 _ e3
    injection e1 with e1
    injection e1 with e1
    subst e1
    have h1 : (cur.toList.take (n * size))[j]? = xs[j]? := by rw [htk]
    rw [List.getElem?_take_of_lt hj, hv] at h1
    simp only [World.cell?, hgc]
    simpa using h1
/-- The sum of the counts. -/
def tot (xs : Ent) : Int := (xs.map fun x => x.2.sum).sum
theorem sum_nonneg : ∀ {l : List Int}, (∀ x ∈ l, 0 ≤ x) → 0 ≤ l.sum
  | [], _ => by simp
  | x :: l, h => by
    have h1 := h x (by simp)
    have h2 := sum_nonneg (l := l) (fun y hy => h y (by simp [hy]))
    simp; omega
theorem sum_take_le {l : List Int} (h : ∀ x ∈ l, 0 ≤ x) (k : Nat) : (l.take k).sum ≤ l.sum := by
  have e : (l.take k).sum + (l.drop k).sum = l.sum := by rw [← List.sum_append, List.take_append_drop]
  have := sum_nonneg (l := l.drop k) (fun x hx => h x (List.mem_of_mem_drop hx))
  omega
theorem sum_take_succ {l : List Int} {k : Nat} (h : k < l.length) : (l.take (k + 1)).sum = (l.take k).sum + l[k] := by
  rw [List.take_succ_eq_append_getElem h, List.sum_append]; simp
theorem tot_take_succ {xs : Ent} {i : Nat} (h : i < xs.length) : tot (xs.take (i + 1)) = tot (xs.take i) + xs[i].2.sum := by
  unfold tot
  rw [List.take_succ_eq_append_getElem h, List.map_append, List.sum_append]; simp
theorem sum_perm {l m : List Int} (h : l.Perm m) : l.sum = m.sum := by
  induction h with
  | nil => rfl
  | cons x _ ih => simp [ih]
  | swap x y l => simp; omega
  | trans _ _ h1 h2 => exact h1.trans h2
theorem tot_perm {xs ys : Ent} (h : xs.Perm ys) : tot xs = tot ys := sum_perm (h.map _)
theorem tot_take_le {xs : Ent} (h : ∀ x ∈ xs, ∀ c ∈ x.2, 0 ≤ c) (k : Nat) : 0 ≤ tot (xs.take k) ∧ tot (xs.take k) ≤ tot xs := by
  unfold tot
  rw [List.map_take]
  have h0 : ∀ y ∈ xs.map (fun x => x.2.sum), 0 ≤ y := by
    intro y hy
    obtain ⟨x, hx, rfl⟩ := List.mem_map.1 hy
    exact sum_nonneg (h x hx)
  exact ⟨sum_nonneg (fun x hx => h0 x (List.mem_of_mem_take hx)), sum_take_le h0 k⟩

/-- What All sums: the rows' counts. -/
theorem rows_good {l : Ent} {ps : List (Bytes × Nat)} (h : Good l) : ∀ x ∈ rowsOf l ps, x.2.length = 11 ∧ ∀ c ∈ x.2, 0 ≤ c ∧ c ≤ 1000000 := by
  intro x hx
  obtain ⟨p, _, rfl⟩ := List.mem_map.1 hx
  exact h.cnt p

set_option maxRecDepth 100000 in
set_option maxHeartbeats 1000000 in
theorem all_any (b bm : Nat) (names : Int) (l : Ent) (w : World) (h : TallyAt w b bm names l) (hgood : Good l) (hl : l.length ≤ 1000000) (htot : ∀ ps, Places l ps → tot (rowsOf l ps) ≤ 1000000) :
    Calls Tryd.prog 18 #[.pointer (some ⟨b, 0, none⟩)] w fun e w' => (∃ ps, Places l ps ∧ e = .returned (.int .i64 (tot (rowsOf l ps)))) ∧ Below w.heap.size w w' := by
  have hR := rows_any b bm names l w h hgood hl
  go_enter Tryd.func18, Tryd.ntmps18
  go_wp2_with fail
  refine hR.mono ?_
  rintro e w1 ⟨v, ps, rfl, hP, hRo, hB⟩
  obtain ⟨vs, hvl, hvf, hvo⟩ := hRo
  have hsh : ∃ p c, v = .slice p (rowsOf l ps).length c := by
    rcases hvo.2 with ⟨rfl, h0⟩ | ⟨g, cap, cur, rfl, _⟩
    · exact ⟨none, 0, by rw [h0]⟩
    · exact ⟨_, _, rfl⟩
  obtain ⟨p, c, rfl⟩ := hsh
  obtain ⟨xs, hxs⟩ : ∃ xs, xs = rowsOf l ps := ⟨_, rfl⟩
  have hxg := rows_good (ps := ps) hgood
  have hT := htot ps hP
  rw [← hxs] at hvl hvf hvo hxg hT ⊢
  have hnn : ∀ x ∈ xs, ∀ c ∈ x.2, 0 ≤ c := fun x hx c hc => ((hxg x hx).2 c hc).1
  have hpl : xs.length ≤ 1000000 := by
    have := hP.perm.length_eq
    simp at this
    rw [hxs]; simp [rowsOf]; omega
  have HH := Lib.hid (And.intro hP (And.intro hvl (And.intro hvf (And.intro hvo (And.intro hB (And.intro hxs (And.intro hxg (And.intro hT hnn))))))))
  clear hP hvl hvf hvo hB hxs hxg hT hnn hR htot h
  go_wp2_with fail
  go_loopw [3, 11] (fun n iv wr => ∃ i : Nat, iv = .int .i64 (i : Int) ∧ i ≤ xs.length ∧ n = .int .i64 (tot (xs.take i)) ∧ Below w1.heap.size w1 wr)
    (fun _ iv _ => xs.length - natOf iv)
  case atStart => exact ⟨0, rfl, Nat.zero_le _, rfl, Below.refl _ _⟩
  case round =>
    obtain ⟨i, rfl, hi, rfl, hB⟩ := hrel
    by_cases hlast : i < xs.length
    · have hli : (i : Int) < (xs.length : Int) := by omega
      obtain ⟨-, hvl, hvf, hvo, -, -, hxg, hT, hnn⟩ := HH.out
      have hv : i < vs.length := by omega
      obtain ⟨h11, hb11⟩ := hxg xs[i] (List.getElem_mem hlast)
      obtain ⟨g2, cap2, cur2, hu, hg2, hh2, hc2, hm2, hs2, ht2⟩ := hvf i hlast hv
      have hsl : ∃ g, p = some ⟨g, 0, none⟩ ∧ xs.length ≤ c := by
        rcases hvo.2 with ⟨h0, _⟩ | ⟨g, cap, cur, e, _, _, hcap, _⟩
        · injection h0 with _ h0; omega
        · injection e with e1 _ e3; subst e1; subst e3; exact ⟨g, rfl, hcap⟩
      obtain ⟨g, rfl, hxc⟩ := hsl
      have hgl : g < w1.heap.size := by
        rcases hvo.2 with ⟨h0, _⟩ | ⟨g', cap, cur, e, _, hgc, _⟩
        · cases h0
        · injection e with e1 _ _
          injection e1 with e1
          injection e1 with e1
          subst e1
          exact (Array.getElem?_eq_some_iff.1 hgc).1
      have hzi : i < (xs.zip vs).length := by simp; omega
      have hrc : ∀ k (hk : k < 4) (v : Value), (rowCells (xs[i], vs[i]))[k]? = some v → wr.cell? ⟨g, i * 4 + k, none⟩ = some v := fun k hk v hv' => (hB.cell (by exact hgl)).trans (own_cell hvo (by omega) (by
        rw [flat4 rowCells (fun _ => rfl) _ i k hzi hk, List.getElem_zip]; exact hv'))
      obtain ⟨A, hA⟩ : ∃ A, A = tot (xs.take i) := ⟨_, rfl⟩
      obtain ⟨z, hz⟩ : ∃ z, z = xs[i].2.getD 0 0 := ⟨_, rfl⟩
      obtain ⟨D, hD⟩ : ∃ D, D = xs[i].2.drop 1 := ⟨_, rfl⟩
      have y0 := hrc 0 (by omega) (str xs[i].1.1) rfl
      have y1 := hrc 1 (by omega) (.int .u8 (xs[i].1.2 : Int)) rfl
      have y2 := hrc 2 (by omega) (.int .i64 z) (by rw [hz]; rfl)
      have y3 := hrc 3 (by omega) (.slice (some ⟨g2, 0, none⟩) 10 cap2) (by rw [← hu]; rfl)
      rw [Nat.add_zero] at y0
      have hDl : D.length = 10 := by rw [hD]; simp [h11]
      have hsum : xs[i].2.sum = z + D.sum := by
        rw [hz, hD]
        obtain ⟨a0, a1, a2, a3, a4, a5, a6, a7, a8, a9, a10, e⟩ := eleven h11
        rw [e]; simp
      have hDn : ∀ y ∈ D, 0 ≤ y := fun y hy => (hb11 y (by rw [hD] at hy; exact List.mem_of_mem_drop hy)).1
      have hDm : ∀ y ∈ D, y ≤ 1000000 := fun y hy => (hb11 y (by rw [hD] at hy; exact List.mem_of_mem_drop hy)).2
      have hA0 := (tot_take_le hnn i).1
      have hS1 := (tot_take_le hnn (i + 1)).2
      have hts := tot_take_succ hlast
      rw [← hA] at hA0 hts ⊢
      have hz0 : 0 ≤ z := by rw [hz]; obtain ⟨a0, a1, a2, a3, a4, a5, a6, a7, a8, a9, a10, e⟩ := eleven h11; rw [e] at hb11 ⊢; exact (hb11 a0 (by simp)).1
      have hd0 := sum_nonneg hDn
      have hAb : A ≤ 1000000 := by omega
      have hzb : z ≤ 1000000 := by omega
      have hfc : ∀ (W : World), Below w1.heap.size w1 W → ∀ k (hk : k < 10), W.cell? ⟨g2, k, none⟩ = some (.int .i64 (D[k]'(by omega))) := fun W hW k hk => by
        rw [hW.cell (show g2 < w1.heap.size from (Array.getElem?_eq_some_iff.1 hh2).1)]
        have h1 : (cur2.toList.take 10)[k]? = (D.map (Value.int .i64))[k]? := by rw [ht2, hD]
        rw [List.getElem?_take_of_lt hk] at h1
        simp only [World.cell?, hh2]
        simp [hDl, hk] at h1
        simpa using h1
      have hAz : A + z + D.sum = tot (xs.take (i + 1)) := by omega
      have hTb : A + z + D.sum ≤ 1000000 := by omega
      have HB := Lib.hid (And.intro hB (And.intro hAz (And.intro hDn (And.intro hDm (And.intro hfc (And.intro hTb (And.intro hd0 hDl)))))))
      clear hB hAz hDn hDm hfc hTb hd0 hts hS1 hsum hD hz hA hrc hb11 h11 hvf hvo hxg hT hnn hu hh2 ht2 hvl hv hzi HH
      unfold str at y0
      go_wp2_with fail
      go_loopw [3, 22] (fun n kv W => ∃ k : Nat, kv = .int .i64 (k : Int) ∧ k ≤ 10 ∧ n = .int .i64 (A + z + (D.take k).sum) ∧ Below w1.heap.size w1 W)
        (fun _ kv _ => 10 - natOf kv)
      case atStart => exact ⟨0, rfl, by omega, by simp, HB.out.1.alloc HB.out.1.size _⟩
      case round =>
        obtain ⟨k, rfl, hk, rfl, hB2⟩ := hrel
        by_cases hkl : k < 10
        · have hki : (k : Int) < 10 := by omega
          have hkD : k < D.length := by rw [HB.out.2.2.2.2.2.2.2]; exact hkl
          have f0 := HB.out.2.2.2.2.1 _ hB2 k hkl
          obtain ⟨s0, hs0⟩ : ∃ s0, s0 = (D.take k).sum := ⟨_, rfl⟩
          obtain ⟨y, hy⟩ : ∃ y, y = D[k] := ⟨_, rfl⟩
          have q0 := HB.out.2.2.1 _ (List.getElem_mem hkD)
          have q1 := HB.out.2.2.2.1 _ (List.getElem_mem hkD)
          have q2 : 0 ≤ (D.take k).sum := sum_nonneg (fun x hx => HB.out.2.2.1 x (List.mem_of_mem_take hx))
          have q3 := sum_take_le HB.out.2.2.1 k
          have q4 := sum_take_succ hkD
          have q5 := HB.out.2.2.2.2.2.1
          rw [← hs0] at q2 q3 q4 ⊢
          rw [← hy] at q0 q1 q4 f0
          have q6 : A + z + s0 ≤ 1000000 := by omega
          have q7 : 0 ≤ A + z + s0 := by omega
          obtain ⟨t0, ht0⟩ : ∃ t0, t0 = A + z + s0 := ⟨_, rfl⟩
          rw [← ht0] at q6 q7 ⊢
          have HQ := Lib.hid (And.intro hB2 (And.intro q4 ht0))
          clear hB2 q2 q3 q4 q5 hs0 hy ht0 hkD
          go_wp2
          go_roundw
          case rel => exact ⟨k + 1, by simp, by omega, by rw [HQ.out.2.1, HQ.out.2.2, Int.add_assoc], HQ.out.1⟩
          case measure => simp [natOf]; omega
        · have hki : ¬ (k : Int) < 10 := by omega
          obtain rfl : k = 10 := by omega
          have HQ := Lib.hid hB2
          clear hB2
          go_wp2
          go_roundw
          case rel => exact ⟨i + 1, by simp, by omega, by rw [← HB.out.2.1, List.take_of_length_le (by rw [HB.out.2.2.2.2.2.2.2]; omega)], HQ.out⟩
          case measure => simp [natOf]; omega
    · have hli : ¬ (i : Int) < (xs.length : Int) := by omega
      obtain rfl : i = xs.length := by omega
      have HB := Lib.hid hB
      clear hB
      go_wp2
      refine bodyPost_ret (v := .int .i64 (tot (xs.take xs.length))) (by simp [results, Tryd.results18, go_sem]) rfl ?_
      refine ⟨⟨ps, HH.out.1, ?_⟩, HH.out.2.2.2.2.1.trans (HB.out.mono HH.out.2.2.2.2.1.size)⟩
      rw [List.take_of_length_le (Nat.le_refl _), HH.out.2.2.2.2.2.1]
end Go.Proofs.YthhcigmdocldnaaDoor
