/- MinFunc over entries; first. -/
import Derived.Test.YtojhledbfaninaaCdel
import Derived.Deep.RegionHeld3
namespace Go.Proofs.Ytojhledbfaninaa
open Go Go.RowKit Go.Shelf Go.Sort
attribute [local go_sem] bneI

def stepM (m x : EM) : EM := if cmpE x.1 m.1 < 0 then x else m
def minM : List EM → Option EM
  | [] => none
  | p :: l => some (l.foldl stepM p)
theorem fold_map : ∀ (l : List EM) (p : EM), (l.foldl stepM p).1 = (l.map (·.1)).foldl stepE p.1
  | [], _ => rfl
  | x :: l, p => by
    rw [List.foldl_cons, fold_map l, List.map_cons, List.foldl_cons]
    congr 1
    unfold stepM stepE
    split <;> rfl
theorem minM_map (l : List EM) : (minM l).map (·.1) = minE (l.map (·.1)) := by
  cases l with
  | nil => rfl
  | cons p l => simp only [minM, minE, Option.map_some, List.map_cons]; rw [fold_map]
def MinPost (ps : List EM) (e : Ending) : Prop := ∃ x, minM ps = some x ∧ e = .returned (evp x)
theorem fold_take {p : EM} {l : List EM} {i : Nat} (hi : i < l.length) : (l.take (i + 1)).foldl stepM p = stepM ((l.take i).foldl stepM p) l[i] := by
  rw [List.take_succ_eq_append_getElem hi, List.foldl_append]; rfl

theorem below_grow (w : World) (q : Nat) (os : Array Obj) : Below w.heap.size w (grow (w.drewN q) os) := ⟨rfl, rfl, rfl, by simp, fun k hk => heap_grow_old _ _ (by simpa using hk)⟩
theorem set6 {W : World} {b : Nat} {a0 a1 a2 a3 a4 a5 : Value} {t : TypeId} (h : W.heap[b]? = some (.cells #[a0, a1, a2, a3, a4, a5] t (0, 0))) (v0 v1 v2 v3 v4 v5 : Value) :
    ((((((W.setCell ⟨b, 0, none⟩ v0).setCell ⟨b, 1, none⟩ v1).setCell ⟨b, 2, none⟩ v2).setCell ⟨b, 3, none⟩ v3).setCell ⟨b, 4, none⟩ v4).setCell ⟨b, 5, none⟩ v5).heap[b]? = some (.cells #[v0, v1, v2, v3, v4, v5] t (0, 0)) := by
  simp [World.setCell, Array.getElem?_modify, h]
def pickM (ps : List EM) (k : Nat) : EM := match ps with
  | [] => default
  | q :: l => (l.take (k - 1)).foldl stepM q
theorem pickM_one {ps : List EM} (h : 0 < ps.length) : pickM ps 1 = ps[0] := by
  cases ps with
  | nil => simp at h
  | cons q l => rfl
theorem pickM_succ {ps : List EM} {k : Nat} (h1 : 1 ≤ k) (h : k < ps.length) : pickM ps (k + 1) = stepM (pickM ps k) ps[k] := by
  cases ps with
  | nil => simp at h
  | cons q l =>
    obtain ⟨i, rfl⟩ : ∃ i, k = i + 1 := ⟨k - 1, by omega⟩
    simp only [pickM, Nat.add_sub_cancel, List.getElem_cons_succ]
    exact fold_take (by simpa using h)
theorem pickM_all {ps : List EM} (h : 0 < ps.length) : minM ps = some (pickM ps ps.length) := by
  cases ps with
  | nil => simp at h
  | cons q l => simp [minM, pickM]
def zeroM : EM := (⟨[], [], 0, [], 0, 0⟩, (none, 0, 0))
/-- An entry's box. -/
def ebo (x : EM) : Obj := .cells (ecells x).toArray 27 (0, 0)

set_option maxRecDepth 100000 in
set_option maxHeartbeats 2000000 in
theorem minE_any (ps : List EM) (g cap : Nat) (w : World) (hr : ERow w g ps) (hn : ps.length ≤ 1000000) (h0 : 0 < ps.length) :
    Calls Try.prog 45 #[.slice (some ⟨g, 0, none⟩) ps.length cap, .func (.func 46) #[] #[]] w fun e w' => MinPost ps e ∧ Below w.heap.size w w' := by
  have hg := hr.lt h0
  have hn1 : ¬ (ps.length : Int) < 1 := by omega
  obtain ⟨c0, c1, c2, c3, c4, c5⟩ := hr.six h0
  simp only [Nat.zero_mul, Nat.zero_add] at c0 c1 c2 c3 c4 c5
  have hgs : g ≠ w.heap.size := Nat.ne_of_lt hg
  have HR := Lib.hid hr
  clear hr
  obtain ⟨x0, hx0⟩ : ∃ x, x = ps[0] := ⟨_, rfl⟩
  rw [← hx0] at c0 c1 c2 c3 c4 c5
  have HX := Lib.hid hx0
  clear hx0
  obtain ⟨⟨d, ii, m, mx, age, unt⟩, p, n, c⟩ := x0
  dsimp only at c0 c1 c2 c3 c4 c5
  go_enter Try.func45, Try.ntmps45
  go_wp2_with fail
  go_loopw [6] (fun s6 wr => ∃ k : Nat, s6 = .int .i64 (k : Int) ∧ 1 ≤ k ∧ k ≤ ps.length ∧ wr.heap[w.heap.size + 1]? = some (ebo (pickM ps k)) ∧ wr.heap[w.heap.size]? = some (ebo zeroM) ∧ Below w.heap.size w wr) (fun s6 _ => ps.length - natI s6)
  case atStart =>
    refine ⟨1, rfl, Nat.le_refl _, h0, ?_, ?_, ((Below.refl _ _).alloc (Nat.le_refl _) _).alloc (by simp) _⟩
    · rw [pickM_one h0, ← HX.out, ha_eq (by simp)]; rfl
    · rw [ha_ne (by simp), ha_eq rfl]; rfl
  case round =>
    obtain ⟨k, rfl, hk1, hk, hbox, hres, hB⟩ := hrel
    clear c0 c1 c2 c3 c4 c5
    obtain ⟨y, hy⟩ : ∃ y, y = pickM ps k := ⟨_, rfl⟩
    rw [← hy] at hbox
    have HY := Lib.hid hy
    clear hy
    obtain ⟨⟨d2, i2, m2, mx2, age2, unt2⟩, p2, n2, cc2⟩ := y
    replace hbox : wr.heap[w.heap.size + 1]? = some (.cells #[.string ⟨d2.toArray⟩, .string ⟨i2.toArray⟩, .int .u8 (m2 : Int), .slice p2 n2 cc2, .int .i64 age2, .int .i64 unt2] 27 (0, 0)) := hbox
    replace hres : wr.heap[w.heap.size]? = some (.cells #[.string ⟨#[]⟩, .string ⟨#[]⟩, .int .u8 0, .slice none 0 0, .int .i64 0, .int .i64 0] 27 (0, 0)) := hres
    by_cases hlast : k < ps.length
    · have hli : (k : Int) < (ps.length : Int) := by omega
      have hRw := HR.out.below hB hg
      obtain ⟨x, hx⟩ : ∃ x, x = ps[k] := ⟨_, rfl⟩
      obtain ⟨c0, c1, c2, c3, c4, c5⟩ := hRw.six hlast
      have hpk := pickM_succ hk1 hlast
      rw [← HY.out, ← hx] at hpk
      rw [← hx] at c0 c1 c2 c3 c4 c5
      clear hx hRw
      have hE := byEnd_any x (⟨d2, i2, m2, mx2, age2, unt2⟩, p2, n2, cc2) wr.drew
      rw [lit_ev] at hE
      unfold stepM at hpk
      obtain ⟨⟨d1, i1, m1, mx1, age1, unt1⟩, p1, n1, cc1⟩ := x
      rw [lit_ev] at hE
      dsimp only at c0 c1 c2 c3 c4 c5 hE hpk
      obtain ⟨b0, b1, b2, b3, b4, b5⟩ := box6 hbox
      have HB := Lib.hid (And.intro hpk (And.intro hbox (And.intro hres hB)))
      generalize cmpE ⟨d1, i1, m1, mx1, age1, unt1⟩ ⟨d2, i2, m2, mx2, age2, unt2⟩ = r at hE HB
      clear hpk hbox hres hB
      go_wp2_with fail
      refine wp_region_still_tail 6 (by kernel_rfl) (by kernel_rfl) ?_
      simp only [List.take_succ_cons, List.take_zero, List.drop_succ_cons, List.drop_zero]
      show wpStill Try.prog _ wr.drew (fun a' => wpList _ _ _ _ a' wr.drew) _ _
      obtain ⟨W1, hW1⟩ : ∃ W1, W1 = wr.drew := ⟨_, rfl⟩
      replace c0 : wr.drew.cell? _ = _ := c0
      replace c1 : wr.drew.cell? _ = _ := c1
      replace c2 : wr.drew.cell? _ = _ := c2
      replace c3 : wr.drew.cell? _ = _ := c3
      replace c4 : wr.drew.cell? _ = _ := c4
      replace c5 : wr.drew.cell? _ = _ := c5
      replace b0 : wr.drew.cell? _ = _ := b0
      replace b1 : wr.drew.cell? _ = _ := b1
      replace b2 : wr.drew.cell? _ = _ := b2
      replace b3 : wr.drew.cell? _ = _ := b3
      replace b4 : wr.drew.cell? _ = _ := b4
      replace b5 : wr.drew.cell? _ = _ := b5
      rw [← hW1] at c0 c1 c2 c3 c4 c5 b0 b1 b2 b3 b4 b5 hE ⊢
      have HS := Lib.hid hW1
      clear hW1
      repeat still_step
      refine wpStill_nil ?_
      go_wp2_with fail
      refine hE.mono ?_
      rintro e w2 ⟨rfl, os, hw2⟩
      have hb2 : Below wr.heap.size wr w2 := by rw [hw2, HS.out]; exact below_grow wr 2 os
      have hsz : w.heap.size + 2 ≤ wr.heap.size := by
        have := (Array.getElem?_eq_some_iff.1 HB.out.2.1).1; omega
      have hB2 := HB.out.2.2.2.trans (hb2.mono HB.out.2.2.2.size)
      have hbox2 := (hb2.block _ (by omega)).trans HB.out.2.1
      have hres2 := (hb2.block _ (by omega)).trans HB.out.2.2.1
      have hg2 : ∀ j v, W1.cell? ⟨g, j, none⟩ = some v → w2.cell? ⟨g, j, none⟩ = some v := fun j v h => by
        rw [HS.out] at h
        exact (hb2.cell (p := ⟨g, j, none⟩) (Nat.lt_of_lt_of_le hg HB.out.2.2.2.size)).trans h
      replace c0 := hg2 _ _ c0
      replace c1 := hg2 _ _ c1
      replace c2 := hg2 _ _ c2
      replace c3 := hg2 _ _ c3
      replace c4 := hg2 _ _ c4
      replace c5 := hg2 _ _ c5
      clear hg2 b0 b1 b2 b3 b4 b5 hw2 hE hb2
      by_cases hr0 : r < 0
      · obtain ⟨b0, b1, b2, b3, b4, b5⟩ := box6 hbox2
        have fb := froz6 hbox2
        have HN := Lib.hid (And.intro (HB.out.1.trans (if_pos hr0)) (And.intro hbox2 (And.intro hres2 (And.intro hB2 hsz))))
        clear hbox2 hres2 hB2 hsz HB
        go_wp2
        go_roundw
        case rel =>
          refine ⟨k + 1, by simp, by omega, by omega, ?_, ?_, ?_⟩
          · rw [HN.out.1]
            exact set6 HN.out.2.1 _ _ _ _ _ _
          · iterate 6 (refine (Below.heap_setCell _ _ _ _ (by dsimp only; omega)).trans ?_)
            exact HN.out.2.2.1
          · have h1 := HN.out.2.2.2.1
            repeat (first | with_reducible exact h1 | refine Below.setCell ?_ (by dsimp only; omega) _)
        case measure => simp [natI]; omega
      · have HN := Lib.hid (And.intro (HB.out.1.trans (if_neg hr0)) (And.intro hbox2 (And.intro hres2 hB2)))
        clear hbox2 hres2 hB2 HB
        go_wp2
        go_roundw
        case rel => exact ⟨k + 1, by simp, by omega, by omega, by rw [HN.out.1]; exact HN.out.2.1, HN.out.2.2.1, HN.out.2.2.2⟩
        case measure => simp [natI]; omega
    · have hli : ¬ (k : Int) < (ps.length : Int) := by omega
      obtain rfl : k = ps.length := by omega
      have hall := pickM_all h0
      rw [← HY.out] at hall
      obtain ⟨b0, b1, b2, b3, b4, b5⟩ := box6 hbox
      obtain ⟨z0, z1, z2, z3, z4, z5⟩ := box6 hres
      have fz := froz6 hres
      have HN := Lib.hid (And.intro hall hB)
      clear hall hB hbox hres HY
      go_wp2
      refine bodyPost_ret (v := .agg #[.string ⟨d2.toArray⟩, .string ⟨i2.toArray⟩, .int .u8 (m2 : Int), .slice p2 n2 cc2, .int .i64 age2, .int .i64 unt2]) (by simp [results, Try.results45, go_sem, z0, z1, z2, z3, z4, z5]) rfl ⟨⟨_, HN.out.1, rfl⟩, ?_⟩
      have h1 := HN.out.2
      repeat (first | with_reducible exact h1 | refine Below.setCell ?_ (by dsimp only; omega) _)

set_option maxRecDepth 100000 in
theorem indexNil_any (lb : Array Value) (w : World) :
    Calls Try.prog 64 #[.slice none 0 0, .func (.func 44) #[] lb] w fun e w' => e = .returned (.int .i64 (-1)) ∧ w' = w := by
  go_enter Try.func64, Try.ntmps64
  go_wp2
  go_loopw [5, 8] (fun _ s8 wr => s8 = .int .i64 0 ∧ wr = w) (fun _ _ _ => 0)
  case atStart => exact ⟨rfl, rfl⟩
  case round =>
    obtain ⟨rfl, rfl⟩ := hrel
    go_wp2
    refine bodyPost_ret (v := .int .i64 (-1)) (by simp [results, Try.results64, go_sem]) rfl ⟨rfl, rfl⟩
set_option maxRecDepth 100000 in
theorem deleteNil_any (lb : Array Value) (w : World) :
    Calls Try.prog 43 #[.slice none 0 0, .func (.func 44) #[] lb] w fun e w' => e = .returned (.slice none 0 0) ∧ w' = w := by
  have hI := indexNil_any lb w
  go_enter Try.func43, Try.ntmps43
  go_wp2_with fail
  refine hI.mono ?_
  rintro e w2 ⟨rfl, rfl⟩
  clear hI
  go_wp2
  refine bodyPost_ret (v := .slice none 0 0) (by simp [results, Try.results43, go_sem]) rfl ⟨rfl, rfl⟩

/-- What first hands back. -/
def FirstPost (o : Option PE) (e : Ending) : Prop :=
  (o = none ∧ e = .returned (.tuple #[evp zeroM, .bool false])) ∨ ∃ x : EM, o = some x.1 ∧ e = .returned (.tuple #[evp x, .bool true])
theorem filter_map_fst (f : PE → Bool) (ps : List EM) : (ps.filter fun x => f x.1).map (·.1) = (ps.map (·.1)).filter f := by
  rw [List.filter_map]; rfl
/-- What DeleteFunc leaves, whatever slice list handed back. -/
def DelPost (n1 : Nat) (w1 : World) (qs : List EM) (e : Ending) (w' : World) : Prop :=
  (qs = [] ∧ ∃ p c, e = .returned (.slice p 0 c) ∧ Below n1 w1 w') ∨ (qs ≠ [] ∧ ∃ g c, e = .returned (.slice (some ⟨g, 0, none⟩) qs.length c) ∧ ERow w' g qs ∧ Below n1 w1 w')
theorem deleteOwn_any (n1 : Nat) (w1 : World) (f : PE → Bool) (cb : Nat) (hd : Counts n1 w1 44 #[.pointer (some ⟨cb, 0, none⟩)] (fun p => !f p)) (hn1 : n1 ≤ w1.heap.size)
    (v : Value) (ps : List EM) (w : World) (hw : Below n1 w1 w) (ho : w.ownsRow n1 27 6 v ps.length (ec ps)) (hn : ps.length ≤ 1000000) :
    Calls Try.prog 43 #[v, .func (.func 44) #[] #[.pointer (some ⟨cb, 0, none⟩)]] w (DelPost n1 w1 (ps.filter fun x => f x.1)) := by
  rcases ho.2 with ⟨rfl, h0⟩ | ⟨g, cap, cur, rfl, hgb, hgc, hcap, hcm, hcs, htk⟩
  · have hps : ps = [] := List.eq_nil_of_length_eq_zero h0
    subst hps
    refine (deleteNil_any _ w).mono ?_
    rintro e w' ⟨rfl, rfl⟩
    exact .inl ⟨rfl, none, 0, rfl, hw⟩
  · have hg : g < w.heap.size := (Array.getElem?_eq_some_iff.1 hgc).1
    refine (deleteE_any n1 w1 f cb hd hn1 ps g cap w hw (erow_own hgc htk) hg hgb hn hcap).mono ?_
    rintro e w' ⟨rfl, hR, hB⟩
    by_cases hq : (ps.filter fun x => f x.1) = []
    · exact .inl ⟨hq, some ⟨g, 0, none⟩, cap, by rw [hq]; rfl, hB⟩
    · exact .inr ⟨hq, g, cap, rfl, hR, hB⟩

set_option maxRecDepth 100000 in
set_option maxHeartbeats 2000000 in
theorem first_any (b bm : Nat) (most : Int) (B : Nat → Prop) (L : List PE) (w : World) (h : CacheIs w B b bm most L) (hl : L.length ≤ 1000) (g : Nat) (lb : Array Value) (f : PE → Bool)
    (eg : ∀ args w, (callFunc g args).run Try.prog w = .ok (.enter g args) w) (hf : Counts w.heap.size w g lb f) :
    Calls Try.prog 25 #[.pointer (some ⟨b, 0, none⟩), .func (.func g) #[] lb] w fun e w' => FirstPost (minE (L.filter f)) e ∧ Below w.heap.size w w' := by
  obtain ⟨W, hW⟩ : ∃ W, W = (w.alloc (.cells #[.func (.func g) #[] lb] 48)).alloc (.cells #[.string ⟨#[]⟩, .string ⟨#[]⟩, .int .u8 0, .slice none 0 0, .int .i64 0, .int .i64 0] 27) := ⟨_, rfl⟩
  have hB : Below w.heap.size w W := by rw [hW]; exact ((Below.refl _ w).alloc (Nat.le_refl _) _).alloc (by simp) _
  have hs : W.heap.size = w.heap.size + 2 := by rw [hW]; simp
  have hbox : W.heap[w.heap.size]? = some (.cells #[.func (.func g) #[] lb] 48 (0, 0)) := by rw [hW, ha_ne (by simp), ha_eq rfl]
  have hres : W.heap[w.heap.size + 1]? = some (.cells #[.string ⟨#[]⟩, .string ⟨#[]⟩, .int .u8 0, .slice none 0 0, .int .i64 0, .int .i64 0] 27 (0, 0)) := by rw [hW, ha_eq (by simp)]
  have hfW : Counts W.heap.size W g lb f := fun W2 x hb => hf W2 x (hB.trans (hb.mono (by omega)))
  have hd := notCounts_any W.heap.size W g lb f w.heap.size eg (Nat.le_refl _) hfW (by omega) (box_cell hbox).1
  obtain ⟨l, hc, hE⟩ := h
  have hL := list_any b bm most B L W ⟨l, hc.below hB, hE⟩ hl
  clear hf hfW hc hE
  go_enter Try.func25, Try.ntmps25
  go_wp2_with fail
  rw [← hW]
  clear hW
  have HB := Lib.hid (And.intro hB (And.intro hres (And.intro hd hs)))
  clear hB hbox hres hd
  refine hL.mono ?_
  rintro e w2 ⟨v, ps, rfl, hmap, ho, hb2⟩
  have hD := deleteOwn_any W.heap.size W f w.heap.size HB.out.2.2.1 (Nat.le_refl _) v ps w2 hb2 ho.1 (by have := congrArg List.length hmap; simp at this; omega)
  obtain ⟨qs, hqs⟩ : ∃ qs, qs = ps.filter fun x => f x.1 := ⟨_, rfl⟩
  have hmin : minE (L.filter f) = (minM qs).map (·.1) := by rw [minM_map, hqs, filter_map_fst, hmap]
  have hqn : qs.length ≤ 1000000 := by
    have h1 := congrArg List.length hmap
    have h2 := List.length_filter_le (fun x : EM => f x.1) ps
    rw [← hqs] at h2
    simp at h1
    omega
  rw [← hqs] at hD
  have HM := Lib.hid hmin
  clear hmin hmap ho hL hb2 hqs
  go_wp2_with fail
  refine hD.mono ?_
  rintro e w3 (⟨hq, p, c, rfl, hb3⟩ | ⟨hq, gq, c, rfl, hR, hb3⟩)
  · have hres3 := (hb3.block _ (by rw [hs]; omega)).trans HB.out.2.1
    obtain ⟨z0, z1, z2, z3, z4, z5⟩ := box6 hres3
    have fz := froz6 hres3
    have hB3 : Below w.heap.size w w3 := HB.out.1.trans (hb3.mono (by omega))
    have HN := Lib.hid (And.intro hB3 hq)
    clear hB3 hb3 hres3 hD hq
    go_wp2
    refine bodyPost_ret (v := .tuple #[.agg #[.string ⟨#[]⟩, .string ⟨#[]⟩, .int .u8 0, .slice none 0 0, .int .i64 0, .int .i64 0], .bool false]) (by simp [results, Try.results25, go_sem, z0, z1, z2, z3, z4, z5]) rfl ⟨.inl ⟨by rw [HM.out, HN.out.2]; rfl, rfl⟩, ?_⟩
    have h1 := HN.out.1
    repeat (first | with_reducible exact h1 | refine Below.setCell ?_ (by dsimp only; omega) _)
  · have hql : 0 < qs.length := List.length_pos_iff.2 hq
    have hq0 : ((qs.length : Int) == 0) = false := by simp; omega
    have hM := minE_any qs gq c w3 hR hqn hql
    have hres3 := (hb3.block _ (by rw [hs]; omega)).trans HB.out.2.1
    have hB3 : Below w.heap.size w w3 := HB.out.1.trans (hb3.mono (by omega))
    have hlt3 : w.heap.size + 1 < w3.heap.size := (Array.getElem?_eq_some_iff.1 hres3).1
    have HN := Lib.hid (And.intro hres3 (And.intro hB3 hlt3))
    clear hB3 hb3 hres3 hD hq hlt3
    go_wp2_with fail
    refine hM.mono ?_
    rintro e w4 ⟨⟨x, hx, rfl⟩, hb4⟩
    have hres4 := (hb4.block _ HN.out.2.2).trans HN.out.1
    have hB4 : Below w.heap.size w w4 := HN.out.2.1.trans (hb4.mono HN.out.2.1.size)
    obtain ⟨z0, z1, z2, z3, z4, z5⟩ := box6 hres4
    have fz := froz6 hres4
    have HX := Lib.hid (And.intro hx hB4)
    clear hx hB4 hres4 hb4 hM
    obtain ⟨⟨d, i, m, mx, age, unt⟩, p, n, cc⟩ := x
    dsimp only
    rw [lit_ev]
    go_wp2
    refine bodyPost_ret (v := .tuple #[.agg #[.string ⟨d.toArray⟩, .string ⟨i.toArray⟩, .int .u8 (m : Int), .slice p n cc, .int .i64 age, .int .i64 unt], .bool true]) (by simp [results, Try.results25, go_sem, z0, z1, z2, z3, z4, z5]) rfl ⟨.inr ⟨_, by rw [HM.out, HX.out.1]; rfl, rfl⟩, ?_⟩
    have h1 := HX.out.2
    repeat (first | with_reducible exact h1 | refine Below.setCell ?_ (by dsimp only; omega) _)
end Go.Proofs.Ytojhledbfaninaa
