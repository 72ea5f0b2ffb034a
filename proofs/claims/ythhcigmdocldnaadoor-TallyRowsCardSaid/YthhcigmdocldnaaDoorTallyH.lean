/- The contracts of package tally: slices.Collect, slices.SortedFunc over places; the order of places. -/
import Derived.Test.YthhcigmdocldnaaDoorTallyG
import Derived.Shelf.SlSortCmp.WholeK
namespace Go.Proofs.YthhcigmdocldnaaDoor
open Go Go.RowKit Go.Shelf Go.Sort

theorem pc_get : ∀ (ps : List (Bytes × Nat)) (t : Nat), t < ps.length * 2 → (pc ps)[t]? = some ((pcells (ps[t / 2]!))[t % 2]!)
  | [], t, h => by simp at h
  | p :: ps, 0, _ => by simp [pc, pcells]
  | p :: ps, 1, _ => by simp [pc, pcells]
  | p :: ps, t + 2, h => by
    have ih := pc_get ps t (by simp at h; omega)
    have e : pc (p :: ps) = str p.1 :: .int .u8 (p.2 : Int) :: pc ps := by simp [pc, pcells]
    rw [e]
    simp only [List.getElem?_cons_succ, ih]
    rw [show (t + 2) / 2 = t / 2 + 1 by omega, show (t + 2) % 2 = t % 2 by omega]
    simp
theorem pc_length (ps : List (Bytes × Nat)) : (pc ps).length = ps.length * 2 := by
  induction ps with
  | nil => rfl
  | cons p ps ih =>
    have e : pc (p :: ps) = str p.1 :: .int .u8 (p.2 : Int) :: pc ps := by simp [pc, pcells]
    rw [e]; simp [ih]; omega
theorem flatK_pc (ps : List (Bytes × Nat)) : flatK pcells 2 ps.toArray = (pc ps).toArray := by
  apply Array.ext'
  apply List.ext_getElem?
  intro t
  by_cases h : t < ps.length * 2
  · rw [List.toList_toArray, pc_get ps t h]
    have := get_flatK pcells 2 ps.toArray t (by simpa using h)
    rw [getElem!_pos _ t (by simpa using h)] at this
    rw [Array.getElem?_toList, Array.getElem?_eq_getElem (by simpa using h), this]
    simp [getElem!_pos, show t / 2 < ps.length by omega]
  · rw [List.getElem?_eq_none (by simp; omega), List.getElem?_eq_none (by simp [pc_length]; omega)]
theorem holdsK_own {w : World} {g : Nat} {cur : Array Value} {e : TypeId} {ps : List (Bytes × Nat)} (hb : w.heap[g]? = some (.cells cur e (0, 0))) (ht : cur.toList.take (ps.length * 2) = pc ps) : HoldsK pcells 2 w g 0 ps.toArray := by
  unfold HoldsK
  rw [flatK_pc]
  intro j hj
  have hj' : j < ps.length * 2 := by simpa [pc_length] using hj
  refine ⟨?_, by simp [World.frozen?, hb]⟩
  have h1 : (cur.toList.take (ps.length * 2))[j]? = (pc ps)[j]? := by rw [ht]
  rw [List.getElem?_take_of_lt hj'] at h1
  simp only [World.cell?, hb, Nat.zero_add]
  simp only [Option.isSome_none, Bool.false_eq_true, if_false]
  rw [← Array.getElem?_toList, h1]
  simp [pc_length, hj']
theorem own_sortedK {w : World} {base g cap m : Nat} {e : TypeId} {os : Array Obj} {cur : Array Value} {ps ts : List (Bytes × Nat)} (hl : ts.length = ps.length) (hbase : base ≤ g) (hb : w.heap[g]? = some (.cells cur e (0, 0)))
    (h1 : ps.length ≤ cap) (h2 : cap ≤ maxLen) (h3 : cur.size = cap * 2) :
    (sortWorldK pcells 2 w g 0 m ts.toArray os).ownsRow base e 2 (.slice (some ⟨g, 0, none⟩) ps.length cap) ps.length (pc ts) := by
  have hg : g < w.heap.size := (Array.getElem?_eq_some_iff.1 hb).1
  refine ⟨by rw [pc_length, hl], .inr ⟨g, cap, putCells id 0 (pc ts).toArray cur, rfl, hbase, ?_, h1, h2, by simp [putCells, h3], ?_⟩⟩
  · unfold sortWorldK putRowK
    rw [heap_grow_old _ _ (by simpa using hg), flatK_pc]
    simp [putRow, mapBlock, Sort.ahead, Array.getElem?_modify, hb, onCells]
  · apply List.ext_getElem?
    intro j
    by_cases hj : j < ps.length * 2
    · have hjl : j < (pc ts).length := by rw [pc_length]; omega
      rw [List.getElem?_take_of_lt hj, Array.getElem?_toList]
      simp [putCells, hjl, show j < cur.size by omega]
    · rw [List.getElem?_take_eq_none (by omega), List.getElem?_eq_none (by rw [pc_length]; omega)]
theorem grownBy_sortedK {w : World} {g m : Nat} {os : Array Obj} (d : Array (Bytes × Nat)) : w.grownBy (sortWorldK pcells 2 w g 0 m d os) (some g) := by
  unfold sortWorldK putRowK
  refine ⟨rfl, rfl, rfl, by simp, fun k hk hne => ?_⟩
  rw [heap_grow_old _ _ (by simpa using hk)]
  have : g ≠ k := fun e => hne (by rw [e])
  simp [putRow, mapBlock, Sort.ahead, Array.getElem?_modify, this]

def cmpP (p q : Bytes × Nat) : Int := orI (cmpB p.1 q.1) (cmpInt (p.2 : Int) (q.2 : Int))
theorem ordP : CmpOrd cmpP where
  self x := by simp [cmpP, orI, cmpB_self, cmpInt]
  eq x y h := by
    unfold cmpP orI at h
    split at h
    · rename_i e
      unfold cmpInt at h
      refine Prod.ext (cmpB_eq e) ?_
      split at h
      · cases h
      · split at h
        · cases h
        · omega
    · rename_i e; exact absurd h e
  swap x y := by
    unfold cmpP orI
    rw [cmpB_swap x.1 y.1]
    by_cases e : cmpB x.1 y.1 = 0
    · simp only [e, Int.neg_zero, if_true]
      unfold cmpInt
      by_cases h1 : (x.2 : Int) < y.2
      · have h2 : ¬ (y.2 : Int) < x.2 := by omega
        rw [if_neg h2, if_pos h1, if_pos h1]; rfl
      · by_cases h2 : (y.2 : Int) < x.2
        · rw [if_pos h2, if_neg h1, if_pos h2]
        · rw [if_neg h2, if_neg h1, if_neg h1, if_neg h2]; rfl
    · rw [if_neg e, if_neg (by omega)]
  trans x y z h1 h2 := by
    unfold cmpP orI at *
    by_cases e1 : cmpB x.1 y.1 = 0
    · rw [if_pos e1] at h1
      rw [cmpB_eq e1]
      by_cases e2 : cmpB y.1 z.1 = 0
      · rw [if_pos e2] at h2 ⊢
        unfold cmpInt at *
        have a1 : (x.2 : Int) < y.2 := by
          rcases Int.lt_trichotomy (x.2 : Int) y.2 with h | h | h
          · exact h
          · rw [if_neg (by omega), if_neg (by omega)] at h1; omega
          · rw [if_neg (by omega), if_pos (by omega)] at h1; omega
        have a2 : (y.2 : Int) < z.2 := by
          rcases Int.lt_trichotomy (y.2 : Int) z.2 with h | h | h
          · exact h
          · rw [if_neg (by omega), if_neg (by omega)] at h2; omega
          · rw [if_neg (by omega), if_pos (by omega)] at h2; omega
        rw [if_pos (by omega)]; omega
      · rw [if_neg e2] at h2 ⊢; exact h2
    · rw [if_neg e1] at h1
      by_cases e2 : cmpB y.1 z.1 = 0
      · rw [← cmpB_eq e2, if_neg e1]; exact h1
      · rw [if_neg e2] at h2
        have := cmpB_trans h1 h2
        rw [if_neg (by omega)]; exact this

theorem places_sorted (ps : List (Bytes × Nat)) (g cap : Nat) (w : World) (n : Nat) (hn : ps.length = n) (H : HoldsK pcells 2 w g 0 ps.toArray) (hg : g < w.heap.size) (hb : n ≤ 1000000) :
    Calls Tryd.prog 57 #[.slice (some ⟨g, 0, none⟩) n cap, .func (.func 38) #[] #[]] w fun e w' =>
      e = .returned (.tuple #[]) ∧ ∃ (ts : List (Bytes × Nat)) (m : Nat) (os : Array Obj), ts.Perm ps ∧ SortedIn (ltOf cmpP) 0 ts.toArray.size ts.toArray ∧ w' = sortWorldK pcells 2 w g 0 m ts.toArray os := by
  subst hn
  have h := AnyQ.slices_SortFunc Tryd.laysSort57 2 Tryd.isAgg78 Tryd.sizeOf78 pcells (fun _ => rfl) (fun x v hv => by simp [pcells, str] at hv; rcases hv with rfl | rfl <;> rfl) cmpP ordP.swo 38 #[] g 0 cap ps.toArray w
    (enters_of Tryd.func38 (by kernel_rfl) rfl) (fun m os dk _ x y => (ahead_any ⟨x.1.toArray⟩ ⟨y.1.toArray⟩ (x.2 : Int) (y.2 : Int) _).mono (by rintro e w' ⟨rfl, os', rfl⟩; exact ⟨rfl, 1, os', rfl⟩)) H hg (by simp; omega)
  refine h.mono ?_
  rintro e w' ⟨rfl, d', m, os, hp, hs, rfl⟩
  have hz : d'.size = ps.length := by simpa using hp.1
  refine ⟨rfl, d'.toList, m, os, ?_, ?_, rfl⟩
  · have := hp.2.2
    simp at this
    rw [List.take_of_length_le (by simp [hz])] at this
    exact this
  · simpa [hz] using hs

/-- The places of a tally, in their order. -/
structure Places (l : Ent) (ps : List (Bytes × Nat)) : Prop where
  asc : Asc cmpP ps
  perm : ps.Perm (l.map (·.1))

set_option maxRecDepth 100000 in
set_option maxHeartbeats 1000000 in
theorem sorted_in (Bm b : Nat) (l : Ent) (w : World) (hm : w.cell? ⟨Bm, 0, none⟩ = some (.map (some b))) (hmap : MapAt w b eK eV l) (hl : l.length ≤ 1000000) :
    Calls Tryd.prog 36 #[.func (.func 58) #[] #[.pointer (some ⟨Bm, 0, none⟩)], .func (.func 38) #[] #[]] w fun e w' =>
      ∃ (v : Value) (ps : List (Bytes × Nat)), e = .returned v ∧ Places l ps ∧ w'.ownsRow w.heap.size 78 2 v ps.length (pc ps) ∧ Below w.heap.size w w' := by
  have hcol : ∀ w, Below w.heap.size w w → w.cell? ⟨Bm, 0, none⟩ = some (.map (some b)) → MapAt w b eK eV l → Calls Tryd.prog 56 #[.func (.func 58) #[] #[.pointer (some ⟨Bm, 0, none⟩)]] w fun e w' => ∃ (v : Value) (ps : List (Bytes × Nat)), e = .returned v ∧ ps.Perm (l.map (·.1)) ∧ w'.ownsRow w.heap.size 78 2 v ps.length (pc ps) ∧ (v = .slice none 0 0 ↔ ps = []) ∧ Below w.heap.size w w' := by
    intro w _ hm hmap
    have hA := (callsIn_wide (n := 8)).1 (appendSeq_in 8 l.length 58 #[.pointer (some ⟨Bm, 0, none⟩)] hl (by decide) (enters_of Tryd.func58 (by kernel_rfl) rfl) (fun xs => xs.Perm (l.map (·.1))) w (fun w' hb => keys_stops 7 Bm b l w' ((hb.cell (cell_lt hm)).trans hm) (hmap.below hb hmap.lt)))
    go_enter Tryd.func56, Tryd.ntmps56
    go_wp2_with fail
    refine hA.mono ?_
    rintro e w' ⟨v, ps, rfl, hS, ho, hn, hb⟩
    go_wp2
    refine bodyPost_ret (v := v) (by simp [results, Tryd.results56, go_sem]) rfl ?_
    exact ⟨v, ps, rfl, hS, ho, hn, hb⟩
  have hC := hcol w (Below.refl _ _) hm hmap
  have hlen : ∀ ps : List (Bytes × Nat), ps.Perm (l.map (·.1)) → ps.length = l.length := fun ps h => by simpa using h.length_eq
  go_enter Tryd.func36, Tryd.ntmps36
  go_wp2_with fail
  refine hC.mono ?_
  rintro e W ⟨v, ps, rfl, hS, ho, hn, hb⟩
  have hnd : (l.map (·.1)).Nodup := hmap.nodup
  rcases ho.2 with ⟨rfl, h0⟩ | ⟨g, cap, cur, rfl, hgb, hgc, hcap, hcm, hcs, htk⟩
  · have hps : ps = [] := hn.1 rfl
    subst hps
    go_wp2_with fail
    refine (AnyF.slices_SortFunc_none Tryd.laysSort57 none 0 _ _).mono ?_
    rintro e w' ⟨rfl, rfl⟩
    go_wp2
    refine bodyPost_ret (v := .slice none 0 0) (by simp [results, Tryd.results36, go_sem]) rfl ?_
    exact ⟨_, [], rfl, ⟨List.Pairwise.nil, hS⟩, ho, hb⟩
  · have H := holdsK_own hgc htk
    have hglt : g < W.heap.size := (Array.getElem?_eq_some_iff.1 hgc).1
    have hle : ps.length ≤ 1000000 := by rw [hlen ps hS]; exact hl
    clear hlen
    go_wp2_with fail
    refine (places_sorted ps g cap W ps.length rfl H hglt hle).mono ?_
    rintro e w' ⟨rfl, ts, m, os, hp, hs, rfl⟩
    have htl : ts.length = ps.length := hp.length_eq
    have ho2 := own_sortedK (m := m) (os := os) htl hgb hgc hcap hcm hcs
    have hg2 := grownBy_sortedK (w := W) (g := g) (m := m) (os := os) ts.toArray
    obtain ⟨W2, hW2⟩ : ∃ W2, W2 = sortWorldK pcells 2 W g 0 m ts.toArray os := ⟨_, rfl⟩
    rw [← hW2] at ho2 hg2 ⊢
    clear hW2
    go_wp2
    refine bodyPost_ret (v := .slice (some ⟨g, 0, none⟩) ps.length cap) (by simp [results, Tryd.results36, go_sem]) rfl ?_
    refine ⟨_, ts, rfl, ⟨?_, hp.trans hS⟩, by rw [htl]; exact ho2, hb.grown hg2 hb.size (fun k e => by cases e; exact hgb)⟩
    exact asc_of_sorted (d := ts.toArray) ordP ((hp.trans hS).nodup_iff.2 hnd) hs
end Go.Proofs.YthhcigmdocldnaaDoor
