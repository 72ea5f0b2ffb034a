/- Load. -/
import Derived.Test.YtojhledbfaninaaCall
namespace Go.Proofs.Ytojhledbfaninaa
open Go Go.RowKit Go.Shelf Go.Sort
attribute [local go_sem] bneI

/-- Entries that may be, ascending. -/
def goodB (l : List PE) : Bool := l.all mayE && decide (l.Pairwise fun x y => cmpB x.dom y.dom < 0)
theorem goodB_iff {l : List PE} : goodB l = true ↔ (∀ p ∈ l, mayE p = true) ∧ AscE l := by
  simp [goodB, AscE]
/-- What Load answers. -/
def loadB (most : Int) (l : List PE) : Nat :=
  if most < 1 ∨ 8 < most then 1 else if most < (l.length : Int) then 41 else if goodB l = true then 0 else 4
def LoadPost (w : World) (most : Int) (l : List PE) (e : Ending) (w' : World) : Prop :=
  (loadB most l = 0 ∧ ∃ b bm, e = .returned (.tuple #[.pointer (some ⟨b, 0, none⟩), .int .i64 0]) ∧ CacheIs w' (fun k => w.heap.size ≤ k) b bm most l ∧ w.heap.size ≤ b ∧ w.heap.size ≤ bm) ∨
  (loadB most l ≠ 0 ∧ e = .returned (.tuple #[.pointer none, .int .i64 (loadB most l : Int)]))
theorem asc_take_succ {l : List PE} {i : Nat} (hi : i < l.length) (ha : AscE (l.take i)) (hlt : ∀ j (hj : j < l.length), j + 1 = i → cmpB l[j].dom l[i].dom < 0) : AscE (l.take (i + 1)) := by
  rw [List.take_succ_eq_append_getElem hi]
  unfold AscE at ha ⊢
  rw [List.pairwise_append]
  refine ⟨ha, by simp, ?_⟩
  intro x hx y hy
  simp at hy; subst hy
  obtain ⟨k, hk, rfl⟩ := List.getElem_of_mem hx
  simp at hk
  rw [List.getElem_take]
  obtain ⟨j, rfl⟩ : ∃ j, i = j + 1 := ⟨i - 1, by omega⟩
  have h1 := hlt j (by omega) rfl
  by_cases e : k = j
  · subst e; exact h1
  · have h2 := List.pairwise_iff_getElem.1 ha k j (by simp; omega) (by simp; omega) (by omega)
    rw [List.getElem_take, List.getElem_take] at h2
    exact cmpB_trans h2 h1
theorem ins_take {l : List PE} {i : Nat} (hi : i < l.length) (ha : AscE (l.take (i + 1))) (x : PE) (hx : x = l[i]) : insE x (l.take i) = l.take (i + 1) := by
  have ha0 : AscE (l.take i) := by
    rw [List.take_succ_eq_append_getElem hi] at ha
    unfold AscE at ha ⊢
    exact (List.pairwise_append.1 ha).1
  refine AscE.uniq (asc_insE ha0) ha fun p => ?_
  rw [mem_insE, List.take_succ_eq_append_getElem hi, List.mem_append, List.mem_singleton, hx]
  constructor
  · rintro (h | ⟨h, _⟩)
    · exact .inr h
    · exact .inl h
  · rintro (h | h)
    · refine .inr ⟨h, fun e => ?_⟩
      rw [List.take_succ_eq_append_getElem hi] at ha
      unfold AscE at ha
      have := (List.pairwise_append.1 ha).2.2 p h l[i] (by simp)
      rw [e, cmpB_self] at this
      omega
    · exact .inl h
theorem good_not {l : List PE} {i : Nat} (hi : i < l.length) (h : mayE l[i] = false) : goodB l = false := by
  cases hg : goodB l with
  | false => rfl
  | true => rw [(goodB_iff.1 hg).1 _ (List.getElem_mem hi)] at h; cases h
theorem good_down {l : List PE} {j : Nat} (hj : j + 1 < l.length) (h : ¬ cmpB l[j].dom l[j + 1].dom < 0) : goodB l = false := by
  cases hg : goodB l with
  | false => rfl
  | true => exact absurd (List.pairwise_iff_getElem.1 (goodB_iff.1 hg).2 j (j + 1) (by omega) hj (by omega)) h
theorem loadB_form {most : Int} {l : List PE} (h1 : ¬ (most < 1 ∨ 8 < most)) (h2 : ¬ most < (l.length : Int)) (h : goodB l = false) : loadB most l = 4 := by
  unfold loadB; rw [if_neg h1, if_neg h2, if_neg (by rw [h]; simp)]
theorem loadB_good {most : Int} {l : List PE} (h1 : ¬ (most < 1 ∨ 8 < most)) (h2 : ¬ most < (l.length : Int)) (h : goodB l = true) : loadB most l = 0 := by
  unfold loadB; rw [if_neg h1, if_neg h2, if_pos h]

/-- A world that keeps all that lay in w. -/
structure BW (w : World) where
  v : World
  h : Below w.heap.size w v
instance (w : World) : Inhabited (BW w) := ⟨⟨w, Below.refl _ _⟩⟩
theorem wp_region_quiet_below {P : Program} {id : Nat} {Q : Exit → Act → World → Prop} {a : Act} {w : World} {l : List Oper} (hm : P.follows .mixedOrders = true) (hB : Region.lexB .any l.toArray = true)
    (h : wpQuiet P l.toArray (fun w' => ∃ p : BW w, w' = p.v) (fun a' => ∀ w', (∃ p : BW w, w' = p.v) → Q .normal a' w') l a) : (Code.region id l.toArray true).wp P Q a w :=
  wp_region_quiet (C := fun w' => ∃ p : BW w, w' = p.v) hm hB ⟨⟨w.drew, ⟨rfl, rfl, rfl, Nat.le_refl _, fun _ _ => rfl⟩⟩, rfl⟩ (by simpa using h)

set_option maxRecDepth 100000 in
set_option maxHeartbeats 4000000 in
theorem load_any (most : Int) (v : Value) (zs : List EM) (B : Nat → Prop) (w : World) (hr : RowE w v zs) (ht : TextsE w B zs) (hs : ∀ x ∈ zs, FitE x.1) (hn : zs.length ≤ 1000000) (hg : Glob w) :
    Calls Try.prog 14 #[.int .i64 most, v] w fun e w' => LoadPost w most (zs.map (·.1)) e w' ∧ Below w.heap.size w w' := by
  by_cases h1 : most < 1 ∨ 8 < most
  · have hN := new_bad most w h1
    have hlb : loadB most (zs.map (·.1)) = 1 := by unfold loadB; rw [if_pos h1]
    have HL := Lib.hid hlb
    clear hr ht hs hg hlb h1
    go_enter Try.func14, Try.ntmps14
    go_wp2_with fail
    refine hN.mono ?_
    rintro e w' ⟨rfl, rfl⟩
    go_wp2
    refine bodyPost_ret (v := .tuple #[.pointer none, .int .i64 1]) (by simp [results, Try.results14, go_sem]) rfl ⟨.inr ⟨by rw [HL.out]; decide, by rw [HL.out]; rfl⟩, Below.refl _ _⟩
  have h1a : 1 ≤ most := by omega
  have h1b : most ≤ 8 := by omega
  have hN := new_is most w (fun k => w.heap.size ≤ k) h1a h1b
  have H1 := Lib.hid h1
  clear h1
  obtain ⟨p, n, c, rfl, hnz⟩ : ∃ p n c, v = .slice p n c ∧ n = zs.length := by
    rcases hr with ⟨rfl, p, c, rfl⟩ | ⟨_, b, o, c, rfl, _⟩
    · exact ⟨p, 0, c, rfl, rfl⟩
    · exact ⟨_, _, c, rfl, rfl⟩
  by_cases h2 : most < (n : Int)
  · have hlb : loadB most (zs.map (·.1)) = 41 := by unfold loadB; rw [if_neg H1.out, if_pos (by simpa [← hnz] using h2)]
    have HL := Lib.hid hlb
    clear hr ht hs hg hlb
    go_enter Try.func14, Try.ntmps14
    go_wp2_with fail
    refine hN.mono ?_
    rintro e w' ⟨rfl, hb, -, -⟩
    clear hN
    go_wp2
    refine bodyPost_ret (v := .tuple #[.pointer none, .int .i64 41]) (by simp [results, Try.results14, go_sem]) rfl ⟨.inr ⟨by rw [HL.out]; decide, by rw [HL.out]; rfl⟩, hb⟩
  have H2 := Lib.hid (show ¬ most < ((zs.map (·.1)).length : Int) by simpa [← hnz] using h2)
  go_enter Try.func14, Try.ntmps14
  go_wp2_with fail
  refine hN.mono ?_
  rintro e w1 ⟨rfl, hb1, hcis, hsz1⟩
  have HH := Lib.hid (And.intro hr (And.intro ht (And.intro hs (And.intro hg (And.intro hb1 (And.intro hcis hsz1))))))
  clear hr ht hs hg hb1 hcis hsz1 hN
  go_wp2_with fail
  go_loopw [8, 24] (fun _ s24 wr => ∃ (i : Nat) (l2 : CM), s24 = .int .i64 (i : Int) ∧ i ≤ n ∧ CacheAt wr (fun k => w.heap.size ≤ k) (w.heap.size + 1) w.heap.size most l2 ∧ Ents l2 ((zs.map (·.1)).take i) ∧ (∀ p ∈ (zs.map (·.1)).take i, mayE p = true) ∧ Below w.heap.size w wr ∧ w.heap.size + 2 ≤ wr.heap.size)
    (fun _ s24 _ => n - natI s24)
  case atStart =>
    obtain ⟨l, hc, hE⟩ := HH.out.2.2.2.2.2.1
    exact ⟨0, l, rfl, Nat.zero_le _, hc, by simpa using hE, by simp, HH.out.2.2.2.2.1, HH.out.2.2.2.2.2.2⟩
  case round =>
    obtain ⟨i, l2, rfl, hi, hc, hE, hmay, hB, hsz⟩ := hrel
    by_cases hlast : i < n
    · have hli : (i : Int) < (n : Int) := by omega
      have hiz : i < zs.length := by omega
      obtain ⟨b0, o0, hp, hcell⟩ : ∃ b0 o0, p = some ⟨b0, o0, none⟩ ∧ ∀ (j : Nat) (hj : j < zs.length) (k : Nat) (u : Value), (ecells zs[j])[k]? = some u → w.cell? ⟨b0, o0 + j * 6 + k, none⟩ = some u := by
        rcases HH.out.1 with ⟨rfl, _⟩ | ⟨_, b, o, c', e, hcc⟩
        · simp at hiz
        · injection e with e1 _ _
          exact ⟨b, o, e1, hcc⟩
      subst hp
      have hcw : ∀ (j : Nat) (hj : j < zs.length) (k : Nat) (u : Value), (ecells zs[j])[k]? = some u → wr.cell? ⟨b0, o0 + j * 6 + k, none⟩ = some u := fun j hj k u hu => (hB.cell (cell_lt (hcell j hj k u hu))).trans (hcell j hj k u hu)
      have y0 : wr.cell? ⟨b0, o0 + i * 6, none⟩ = some (.string ⟨zs[i].1.dom.toArray⟩) := hcw i hiz 0 _ rfl
      have y1 := hcw i hiz 1 (.string ⟨zs[i].1.id.toArray⟩) rfl
      have y2 := hcw i hiz 2 (.int .u8 (zs[i].1.mode : Int)) rfl
      have y3 := hcw i hiz 3 (.slice zs[i].2.1 zs[i].2.2.1 zs[i].2.2.2) rfl
      have y4 := hcw i hiz 4 (.int .i64 zs[i].1.age) rfl
      have y5 := hcw i hiz 5 (.int .i64 zs[i].1.unt) rfl
      have hmx := HH.out.2.1 zs[i] (List.getElem_mem hiz)
      have hfit := HH.out.2.2.1 zs[i] (List.getElem_mem hiz)
      have HC := Lib.hid (And.intro hc (And.intro hE (And.intro hmay (And.intro hB (And.intro hsz (And.intro hcw (And.intro hmx hfit)))))))
      clear hc hE hmay hB hsz hcell hcw hmx hfit
      obtain ⟨x, hx⟩ : ∃ x, x = zs[i] := ⟨_, rfl⟩
      rw [← hx] at y0 y1 y2 y3 y4 y5 HC
      have HX := Lib.hid hx
      clear hx
      obtain ⟨⟨d1, i1, m1, mx1, age1, unt1⟩, p1, n1, cc1⟩ := x
      dsimp only at y0 y1 y2 y3 y4 y5 HC
      go_upto_region 9 with (fail)
      generalize hwC : World.alloc _ _ = wC
      have hBC : Below wr.heap.size wr wC := by rw [← hwC]; exact (Below.refl _ _).alloc (Nat.le_refl _) _
      have hbx : wC.heap[wr.heap.size]? = some (.cells #[.string ⟨d1.toArray⟩, .string ⟨i1.toArray⟩, .int .u8 (m1 : Int), .slice p1 n1 cc1, .int .i64 age1, .int .i64 unt1] 27 (0, 0)) := by rw [← hwC]; exact ha_eq rfl
      have hBw : Below w.heap.size w wC := HC.out.2.2.2.1.trans (hBC.mono HC.out.2.2.2.1.size)
      have hglo : Glob w := HH.out.2.2.2.1
      have hMay0 : ∀ q : BW wC, Calls Try.prog 18 #[evp (⟨d1, i1, m1, mx1, age1, unt1⟩, (p1, n1, cc1))] q.v fun e w'' => e = .returned (.bool (mayE ⟨d1, i1, m1, mx1, age1, unt1⟩)) ∧ ∃ q' : BW wC, w'' = q'.v := fun q =>
        (mayE_any (⟨d1, i1, m1, mx1, age1, unt1⟩, (p1, n1, cc1)) B q.v ((HC.out.2.2.2.2.2.2.1.below hBw).below q.h) HC.out.2.2.2.2.2.2.2 ((hglo.below hBw (by obtain ⟨m, hm⟩ := hglo; exact cell_lt hm)).below q.h (by obtain ⟨m, hm⟩ := hglo; exact Nat.lt_of_lt_of_le (cell_lt hm) hBw.size))).mono fun e w'' hh => ⟨hh.1, ⟨w'', q.h.trans (hh.2.mono q.h.size)⟩, rfl⟩
      have hMay := hMay0
      rw [lit_ev] at hMay
      have HW := Lib.hid (And.intro hBC (And.intro hbx hBw))
      have hx := fun q : BW wC => box6 ((q.h.block _ (Array.getElem?_eq_some_iff.1 hbx).1).trans hbx)
      have hx0 := fun q : BW wC => (hx q).1
      have hx1 := fun q : BW wC => (hx q).2.1
      have hx2 := fun q : BW wC => (hx q).2.2.1
      have hx3 := fun q : BW wC => (hx q).2.2.2.1
      have hx4 := fun q : BW wC => (hx q).2.2.2.2.1
      have hx5 := fun q : BW wC => (hx q).2.2.2.2.2
      clear hwC hBC hbx hBw hglo y0 y1 y2 y3 y4 y5 hMay0 hx
      cases hm1 : mayE ⟨d1, i1, m1, mx1, age1, unt1⟩
      · have hlb : loadB most (zs.map (·.1)) = 4 := loadB_form H1.out (by have := H2.out; omega) (good_not (i := i) (by simpa using hiz) (by simp only [List.getElem_map, ← HX.out]; exact hm1))
        have HLB := Lib.hid hlb
        rw [hm1] at hMay
        clear hlb hm1
        refine wp_region_quiet_below (by kernel_rfl) (by kernel_rfl) ?_
        repeat (go_big_quiet_step (exact hMay _))
        refine wpQuiet_nil ?_
        intro w5 hw'
        have hb5 : Below wC.heap.size wC w5 := by
          obtain ⟨q, rfl⟩ := hw'
          exact q.h
        clear hw'
        have hB5 : Below wr.heap.size wr w5 := HW.out.1.trans (hb5.mono HW.out.1.size)
        have hbx5 := (hb5.block _ (Array.getElem?_eq_some_iff.1 HW.out.2.1).1).trans HW.out.2.1
        have HV := Lib.hid (And.intro hB5 hbx5)
        have hBw5 : Below w.heap.size w w5 := HC.out.2.2.2.1.trans (hB5.mono HC.out.2.2.2.1.size)
        clear hx0 hx1 hx2 hx3 hx4 hx5 hMay hb5 hB5
        obtain ⟨x0, x1, x2, x3, x4, x5⟩ := box6 hbx5
        clear hbx5
        have HL := Lib.hid (And.intro HLB.out hBw5)
        clear hBw5
        go_wp2
        refine bodyPost_ret (v := .tuple #[.pointer none, .int .i64 4]) (by simp [results, Try.results14, go_sem]) rfl ⟨.inr ⟨by rw [HL.out.1]; decide, by rw [HL.out.1]; rfl⟩, HL.out.2⟩
      · rw [hm1] at hMay
        have hstep : (∀ j (hj : j < (List.map (fun x : EM => x.1) zs).length), j + 1 = i → cmpB (List.map (fun x : EM => x.1) zs)[j].dom ((List.map (fun x : EM => x.1) zs)[i]'(by simpa using hiz)).dom < 0) → AscE ((List.map (fun x : EM => x.1) zs).take (i + 1)) := fun h => asc_take_succ (by simpa using hiz) HC.out.2.1.asc h
        by_cases h0 : i = 0
        · subst h0
          have hasc := hstep (fun j hj e => by omega)
          refine wp_region_quiet_below (by kernel_rfl) (by kernel_rfl) ?_
          repeat (go_big_quiet_step (exact hMay _))
          refine wpQuiet_nil ?_
          intro w5 hw'
          have hb5 : Below wC.heap.size wC w5 := by
            obtain ⟨q, rfl⟩ := hw'
            exact q.h
          clear hw'
          have hB5 : Below wr.heap.size wr w5 := HW.out.1.trans (hb5.mono HW.out.1.size)
          have hbx5 := (hb5.block _ (Array.getElem?_eq_some_iff.1 HW.out.2.1).1).trans HW.out.2.1
          have HV := Lib.hid (And.intro hB5 hbx5)
          have hBw5 : Below w.heap.size w w5 := HC.out.2.2.2.1.trans (hB5.mono HC.out.2.2.2.1.size)
          clear hx0 hx1 hx2 hx3 hx4 hx5 hMay hb5 hB5
          obtain ⟨x0, x1, x2, x3, x4, x5⟩ := box6 hbx5
          clear hbx5
          have hc5 := HC.out.1.below HV.out.1
          have hmayn : ∀ q ∈ (List.map (fun x : EM => x.1) zs).take (0 + 1), mayE q = true := by
            intro q hq
            rw [List.take_succ_eq_append_getElem (by simpa using hiz), List.mem_append] at hq
            rcases hq with hq | hq
            · exact HC.out.2.2.1 q hq
            · simp only [List.getElem_map, ← HX.out, List.mem_singleton] at hq
              rw [hq]; exact hm1
          have hup : ∀ (w6 : World) (p' : Option Addr) (n' c' : Nat), MxAt w6 (fun k => w5.drew.heap.size ≤ k) (p', n', c') mx1 → Below w5.drew.heap.size w5.drew w6 → ∃ o : Obj, (Instr.mapUpdate 65 (.map (some w.heap.size)) (.string ⟨d1.toArray⟩) (.agg #[.string ⟨d1.toArray⟩, .string ⟨i1.toArray⟩, .int .u8 (m1 : Int), .slice p' n' c', .int .i64 age1, .int .i64 unt1])).run Try.prog w6 = .ok () (w6.putObj w.heap.size o) ∧
              (w6.cell? ⟨w.heap.size + 1, 1, none⟩ = some (.map (some w.heap.size)) ∧ w6.cell? ⟨wr.heap.size, 0, none⟩ = some (.string ⟨d1.toArray⟩) ∧ w6.cell? ⟨wr.heap.size, 1, none⟩ = some (.string ⟨i1.toArray⟩) ∧ w6.cell? ⟨wr.heap.size, 2, none⟩ = some (.int .u8 (m1 : Int)) ∧ w6.cell? ⟨wr.heap.size, 3, none⟩ = some (.slice p1 n1 cc1) ∧ w6.cell? ⟨wr.heap.size, 4, none⟩ = some (.int .i64 age1) ∧ w6.cell? ⟨wr.heap.size, 5, none⟩ = some (.int .i64 unt1)) ∧ ((w6.putObj w.heap.size o).cell? ⟨w.heap.size + 1, 1, none⟩ = some (.map (some w.heap.size)) ∧ (w6.putObj w.heap.size o).cell? ⟨wr.heap.size, 0, none⟩ = some (.string ⟨d1.toArray⟩) ∧ (w6.putObj w.heap.size o).cell? ⟨wr.heap.size, 1, none⟩ = some (.string ⟨i1.toArray⟩) ∧ (w6.putObj w.heap.size o).cell? ⟨wr.heap.size, 2, none⟩ = some (.int .u8 (m1 : Int)) ∧ (w6.putObj w.heap.size o).cell? ⟨wr.heap.size, 3, none⟩ = some (.slice p1 n1 cc1) ∧ (w6.putObj w.heap.size o).cell? ⟨wr.heap.size, 4, none⟩ = some (.int .i64 age1) ∧ (w6.putObj w.heap.size o).cell? ⟨wr.heap.size, 5, none⟩ = some (.int .i64 unt1)) ∧ (∃ l3, CacheAt (w6.putObj w.heap.size o) (fun k => w.heap.size ≤ k) (w.heap.size + 1) w.heap.size most l3 ∧ Ents l3 ((List.map (fun x : EM => x.1) zs).take (0 + 1))) ∧ Below w.heap.size w (w6.putObj w.heap.size o) ∧ w.heap.size + 2 ≤ (w6.putObj w.heap.size o).heap.size := by
            intro w6 p' n' c' hm6 hb6
            have hb56 : Below w5.heap.size w5 w6 := ⟨hb6.os, hb6.tape, hb6.output, hb6.size, hb6.block⟩
            have hc6 := hc5.below hb56
            obtain ⟨o, hrun, hc7⟩ := hc6.store ⟨d1, i1, m1, mx1, age1, unt1⟩ (p', n', c') (hm6.mono (fun k hk => Nat.le_trans hBw5.size hk))
            have hS : ∀ (a : Addr) (v : Value), w5.cell? a = some v → w6.cell? a = some v := fun a v h => (hb56.cell (p := a) (cell_lt h)).trans h
            obtain ⟨ob, hob, hoc⟩ := hc6.isMap
            have hS2 : ∀ (a : Addr) (v : Value), w5.cell? a = some v → (w6.putObj w.heap.size o).cell? a = some v := fun a v h => cell_grown (grownBy_putObj' w6 w.heap.size o) (hS a v h) (fun e => by injection e with e; exact map_ne hob hoc (hS a v h) e)
            have c1 := hc5.cells.2
            have hE7 := HC.out.2.1.put HC.out.1.key ⟨d1, i1, m1, mx1, age1, unt1⟩ (p', n', c')
            rw [ins_take (by simpa using hiz) hasc _ (by simp only [List.getElem_map, ← HX.out])] at hE7
            have hBf : Below w.heap.size w (w6.putObj w.heap.size o) := (hBw5.trans (hb56.mono hBw5.size)).grown (grownBy_putObj' w6 w.heap.size o) (Nat.le_trans hBw5.size hb56.size) (fun k e => by cases e; exact Nat.le_refl _)
            exact ⟨o, hrun, ⟨hS _ _ c1, hS _ _ x0, hS _ _ x1, hS _ _ x2, hS _ _ x3, hS _ _ x4, hS _ _ x5⟩, ⟨hS2 _ _ c1, hS2 _ _ x0, hS2 _ _ x1, hS2 _ _ x2, hS2 _ _ x3, hS2 _ _ x4, hS2 _ _ x5⟩, ⟨_, hc7, hE7⟩, hBf, by simpa [World.putObj] using Nat.le_trans (Nat.le_trans HC.out.2.2.2.2.1 HV.out.1.size) hb56.size⟩
          have hfx : mx1.length ≤ 1000000 := by
            simp [mayE, polB] at hm1
            omega
          have hO := own_any (⟨d1, i1, m1, mx1, age1, unt1⟩, (p1, n1, cc1)) B w5.drew (((HC.out.2.2.2.2.2.2.1.below hBw5)).below ⟨rfl, rfl, rfl, Nat.le_refl _, fun _ _ => rfl⟩) hfx
          rw [lit_ev] at hO
          have hx0 : w5.drew.cell? ⟨wr.heap.size, 0, none⟩ = _ := x0
          obtain ⟨c0, c1⟩ := hc5.cells
          have HMn := Lib.hid hmayn
          clear hc5 hmayn hasc hfx hx0 c0 hm1 hBw5 hstep 
          go_upto_region 11 with (fail)
          replace c1 : w5.drew.cell? ⟨w.heap.size + 1, 1, none⟩ = some (.map (some w.heap.size)) := c1
          replace x0 : w5.drew.cell? ⟨wr.heap.size, 0, none⟩ = some (.string ⟨d1.toArray⟩) := x0
          replace x1 : w5.drew.cell? ⟨wr.heap.size, 1, none⟩ = some (.string ⟨i1.toArray⟩) := x1
          replace x2 : w5.drew.cell? ⟨wr.heap.size, 2, none⟩ = some (.int .u8 (m1 : Int)) := x2
          replace x3 : w5.drew.cell? ⟨wr.heap.size, 3, none⟩ = some (.slice p1 n1 cc1) := x3
          replace x4 : w5.drew.cell? ⟨wr.heap.size, 4, none⟩ = some (.int .i64 age1) := x4
          replace x5 : w5.drew.cell? ⟨wr.heap.size, 5, none⟩ = some (.int .i64 unt1) := x5
          go_region_held3 (fun v => v.cell? ⟨w.heap.size + 1, 1, none⟩ = some (.map (some w.heap.size)) ∧ v.cell? ⟨wr.heap.size, 0, none⟩ = some (.string ⟨d1.toArray⟩) ∧ v.cell? ⟨wr.heap.size, 1, none⟩ = some (.string ⟨i1.toArray⟩) ∧ v.cell? ⟨wr.heap.size, 2, none⟩ = some (.int .u8 (m1 : Int)) ∧ v.cell? ⟨wr.heap.size, 3, none⟩ = some (.slice p1 n1 cc1) ∧ v.cell? ⟨wr.heap.size, 4, none⟩ = some (.int .i64 age1) ∧ v.cell? ⟨wr.heap.size, 5, none⟩ = some (.int .i64 unt1))
            ((first | with_reducible exact hS5 | with_reducible exact hS6 | go_keep))
            ((go_at_call 24; refine hO.mono ?_; rintro e w6 ⟨⟨p', n', c'⟩, rfl, hm6, hb6⟩; obtain ⟨o, hrun, hS5, hS6, hfc, hfB, hfs⟩ := hup w6 p' n' c' hm6 hb6; rw [lit_ev]))
          obtain ⟨l3, hc8, hE8⟩ := hfc
          have HF := Lib.hid (And.intro hc8 (And.intro hE8 (And.intro hfB hfs)))
          clear hc8 hE8 hfB hfs hrun hS5 hS6 hup hO hm6 hb6
          go_wp2
          go_roundw
          case rel => exact ⟨0 + 1, l3, by simp, by omega, HF.out.1, HF.out.2.1, HMn.out, HF.out.2.2.1, HF.out.2.2.2⟩
          case measure => simp [natI]; omega
        · obtain ⟨j, rfl⟩ : ∃ j, i = j + 1 := ⟨i - 1, by omega⟩
          have hjz : j < zs.length := by omega
          have hpd : ∀ q : BW wC, q.v.cell? ⟨b0, o0 + j * 6, none⟩ = some (.string ⟨zs[j].1.dom.toArray⟩) := fun q => (q.h.cell (Nat.lt_of_lt_of_le (cell_lt (HC.out.2.2.2.2.2.1 j hjz 0 _ rfl)) HW.out.1.size)).trans ((HW.out.1.cell (cell_lt (HC.out.2.2.2.2.2.1 j hjz 0 _ rfl))).trans (HC.out.2.2.2.2.2.1 j hjz 0 (.string ⟨zs[j].1.dom.toArray⟩) rfl))
          have hless := less_str ⟨zs[j].1.dom.toArray⟩ ⟨d1.toArray⟩
          have e1 : (⟨zs[j].1.dom.toArray⟩ : ByteArray).data.toList = zs[j].1.dom := rfl
          have e2 : (⟨d1.toArray⟩ : ByteArray).data.toList = d1 := rfl
          rw [e1, e2] at hless
          clear e1 e2
          have e3 : (⟨d1.toArray⟩ : ByteArray).toList = d1 := by rw [ByteArray.toList_eq]
          have hj1 : ((j + 1 : Nat) : Int) > 0 := by omega
          by_cases hlt : cmpB zs[j].1.dom d1 < 0
          · have hasc := hstep (fun k hk e => by
              obtain rfl : k = j := by omega
              simp only [List.getElem_map, ← HX.out]
              exact hlt)
            have hl2 : Op.bytesLess (⟨zs[j].1.dom.toArray⟩ : ByteArray).toList d1 = true := by rw [e3] at hless; rw [hless]; simpa using hlt
            clear hlt hless e3
            generalize (⟨zs[j].1.dom.toArray⟩ : ByteArray) = pd at hpd hl2
            refine wp_region_quiet_below (by kernel_rfl) (by kernel_rfl) ?_
            repeat (go_big_quiet_step (exact hMay _))
            refine wpQuiet_nil ?_
            intro w5 hw'
            have hb5 : Below wC.heap.size wC w5 := by
              obtain ⟨q, rfl⟩ := hw'
              exact q.h
            clear hw'
            have hB5 : Below wr.heap.size wr w5 := HW.out.1.trans (hb5.mono HW.out.1.size)
            have hbx5 := (hb5.block _ (Array.getElem?_eq_some_iff.1 HW.out.2.1).1).trans HW.out.2.1
            have HV := Lib.hid (And.intro hB5 hbx5)
            have hBw5 : Below w.heap.size w w5 := HC.out.2.2.2.1.trans (hB5.mono HC.out.2.2.2.1.size)
            clear hx0 hx1 hx2 hx3 hx4 hx5 hMay hb5 hB5
            obtain ⟨x0, x1, x2, x3, x4, x5⟩ := box6 hbx5
            clear hbx5
            have hc5 := HC.out.1.below HV.out.1
            have hmayn : ∀ q ∈ (List.map (fun x : EM => x.1) zs).take (j + 1 + 1), mayE q = true := by
              intro q hq
              rw [List.take_succ_eq_append_getElem (by simpa using hiz), List.mem_append] at hq
              rcases hq with hq | hq
              · exact HC.out.2.2.1 q hq
              · simp only [List.getElem_map, ← HX.out, List.mem_singleton] at hq
                rw [hq]; exact hm1
            have hup : ∀ (w6 : World) (p' : Option Addr) (n' c' : Nat), MxAt w6 (fun k => w5.drew.heap.size ≤ k) (p', n', c') mx1 → Below w5.drew.heap.size w5.drew w6 → ∃ o : Obj, (Instr.mapUpdate 65 (.map (some w.heap.size)) (.string ⟨d1.toArray⟩) (.agg #[.string ⟨d1.toArray⟩, .string ⟨i1.toArray⟩, .int .u8 (m1 : Int), .slice p' n' c', .int .i64 age1, .int .i64 unt1])).run Try.prog w6 = .ok () (w6.putObj w.heap.size o) ∧
                (w6.cell? ⟨w.heap.size + 1, 1, none⟩ = some (.map (some w.heap.size)) ∧ w6.cell? ⟨wr.heap.size, 0, none⟩ = some (.string ⟨d1.toArray⟩) ∧ w6.cell? ⟨wr.heap.size, 1, none⟩ = some (.string ⟨i1.toArray⟩) ∧ w6.cell? ⟨wr.heap.size, 2, none⟩ = some (.int .u8 (m1 : Int)) ∧ w6.cell? ⟨wr.heap.size, 3, none⟩ = some (.slice p1 n1 cc1) ∧ w6.cell? ⟨wr.heap.size, 4, none⟩ = some (.int .i64 age1) ∧ w6.cell? ⟨wr.heap.size, 5, none⟩ = some (.int .i64 unt1)) ∧ ((w6.putObj w.heap.size o).cell? ⟨w.heap.size + 1, 1, none⟩ = some (.map (some w.heap.size)) ∧ (w6.putObj w.heap.size o).cell? ⟨wr.heap.size, 0, none⟩ = some (.string ⟨d1.toArray⟩) ∧ (w6.putObj w.heap.size o).cell? ⟨wr.heap.size, 1, none⟩ = some (.string ⟨i1.toArray⟩) ∧ (w6.putObj w.heap.size o).cell? ⟨wr.heap.size, 2, none⟩ = some (.int .u8 (m1 : Int)) ∧ (w6.putObj w.heap.size o).cell? ⟨wr.heap.size, 3, none⟩ = some (.slice p1 n1 cc1) ∧ (w6.putObj w.heap.size o).cell? ⟨wr.heap.size, 4, none⟩ = some (.int .i64 age1) ∧ (w6.putObj w.heap.size o).cell? ⟨wr.heap.size, 5, none⟩ = some (.int .i64 unt1)) ∧ (∃ l3, CacheAt (w6.putObj w.heap.size o) (fun k => w.heap.size ≤ k) (w.heap.size + 1) w.heap.size most l3 ∧ Ents l3 ((List.map (fun x : EM => x.1) zs).take (j + 1 + 1))) ∧ Below w.heap.size w (w6.putObj w.heap.size o) ∧ w.heap.size + 2 ≤ (w6.putObj w.heap.size o).heap.size := by
              intro w6 p' n' c' hm6 hb6
              have hb56 : Below w5.heap.size w5 w6 := ⟨hb6.os, hb6.tape, hb6.output, hb6.size, hb6.block⟩
              have hc6 := hc5.below hb56
              obtain ⟨o, hrun, hc7⟩ := hc6.store ⟨d1, i1, m1, mx1, age1, unt1⟩ (p', n', c') (hm6.mono (fun k hk => Nat.le_trans hBw5.size hk))
              have hS : ∀ (a : Addr) (v : Value), w5.cell? a = some v → w6.cell? a = some v := fun a v h => (hb56.cell (p := a) (cell_lt h)).trans h
              obtain ⟨ob, hob, hoc⟩ := hc6.isMap
              have hS2 : ∀ (a : Addr) (v : Value), w5.cell? a = some v → (w6.putObj w.heap.size o).cell? a = some v := fun a v h => cell_grown (grownBy_putObj' w6 w.heap.size o) (hS a v h) (fun e => by injection e with e; exact map_ne hob hoc (hS a v h) e)
              have c1 := hc5.cells.2
              have hE7 := HC.out.2.1.put HC.out.1.key ⟨d1, i1, m1, mx1, age1, unt1⟩ (p', n', c')
              rw [ins_take (by simpa using hiz) hasc _ (by simp only [List.getElem_map, ← HX.out])] at hE7
              have hBf : Below w.heap.size w (w6.putObj w.heap.size o) := (hBw5.trans (hb56.mono hBw5.size)).grown (grownBy_putObj' w6 w.heap.size o) (Nat.le_trans hBw5.size hb56.size) (fun k e => by cases e; exact Nat.le_refl _)
              exact ⟨o, hrun, ⟨hS _ _ c1, hS _ _ x0, hS _ _ x1, hS _ _ x2, hS _ _ x3, hS _ _ x4, hS _ _ x5⟩, ⟨hS2 _ _ c1, hS2 _ _ x0, hS2 _ _ x1, hS2 _ _ x2, hS2 _ _ x3, hS2 _ _ x4, hS2 _ _ x5⟩, ⟨_, hc7, hE7⟩, hBf, by simpa [World.putObj] using Nat.le_trans (Nat.le_trans HC.out.2.2.2.2.1 HV.out.1.size) hb56.size⟩
            have hfx : mx1.length ≤ 1000000 := by
              simp [mayE, polB] at hm1
              omega
            have hO := own_any (⟨d1, i1, m1, mx1, age1, unt1⟩, (p1, n1, cc1)) B w5.drew (((HC.out.2.2.2.2.2.2.1.below hBw5)).below ⟨rfl, rfl, rfl, Nat.le_refl _, fun _ _ => rfl⟩) hfx
            rw [lit_ev] at hO
            have hx0 : w5.drew.cell? ⟨wr.heap.size, 0, none⟩ = _ := x0
            obtain ⟨c0, c1⟩ := hc5.cells
            have HMn := Lib.hid hmayn
            clear hc5 hmayn hasc hfx hx0 c0 hm1 hBw5 hstep hpd
            go_upto_region 11 with (fail)
            clear hl2
            replace c1 : w5.drew.cell? ⟨w.heap.size + 1, 1, none⟩ = some (.map (some w.heap.size)) := c1
            replace x0 : w5.drew.cell? ⟨wr.heap.size, 0, none⟩ = some (.string ⟨d1.toArray⟩) := x0
            replace x1 : w5.drew.cell? ⟨wr.heap.size, 1, none⟩ = some (.string ⟨i1.toArray⟩) := x1
            replace x2 : w5.drew.cell? ⟨wr.heap.size, 2, none⟩ = some (.int .u8 (m1 : Int)) := x2
            replace x3 : w5.drew.cell? ⟨wr.heap.size, 3, none⟩ = some (.slice p1 n1 cc1) := x3
            replace x4 : w5.drew.cell? ⟨wr.heap.size, 4, none⟩ = some (.int .i64 age1) := x4
            replace x5 : w5.drew.cell? ⟨wr.heap.size, 5, none⟩ = some (.int .i64 unt1) := x5
            go_region_held3 (fun v => v.cell? ⟨w.heap.size + 1, 1, none⟩ = some (.map (some w.heap.size)) ∧ v.cell? ⟨wr.heap.size, 0, none⟩ = some (.string ⟨d1.toArray⟩) ∧ v.cell? ⟨wr.heap.size, 1, none⟩ = some (.string ⟨i1.toArray⟩) ∧ v.cell? ⟨wr.heap.size, 2, none⟩ = some (.int .u8 (m1 : Int)) ∧ v.cell? ⟨wr.heap.size, 3, none⟩ = some (.slice p1 n1 cc1) ∧ v.cell? ⟨wr.heap.size, 4, none⟩ = some (.int .i64 age1) ∧ v.cell? ⟨wr.heap.size, 5, none⟩ = some (.int .i64 unt1))
              ((first | with_reducible exact hS5 | with_reducible exact hS6 | go_keep))
              ((go_at_call 24; refine hO.mono ?_; rintro e w6 ⟨⟨p', n', c'⟩, rfl, hm6, hb6⟩; obtain ⟨o, hrun, hS5, hS6, hfc, hfB, hfs⟩ := hup w6 p' n' c' hm6 hb6; rw [lit_ev]))
            obtain ⟨l3, hc8, hE8⟩ := hfc
            have HF := Lib.hid (And.intro hc8 (And.intro hE8 (And.intro hfB hfs)))
            clear hc8 hE8 hfB hfs hrun hS5 hS6 hup hO hm6 hb6
            go_wp2
            go_roundw
            case rel => exact ⟨j + 1 + 1, l3, by simp, by omega, HF.out.1, HF.out.2.1, HMn.out, HF.out.2.2.1, HF.out.2.2.2⟩
            case measure => simp [natI]; omega
          · have hlb : loadB most (zs.map (·.1)) = 4 := loadB_form H1.out (by have := H2.out; omega) (good_down (j := j) (by simpa using hiz) (by simp only [List.getElem_map, ← HX.out]; exact hlt))
            have hl2 : Op.bytesLess (⟨zs[j].1.dom.toArray⟩ : ByteArray).toList d1 = false := by rw [e3] at hless; rw [hless]; simpa using hlt
            have HLB := Lib.hid hlb
            clear hlb hm1 hlt hless hstep e3
            generalize (⟨zs[j].1.dom.toArray⟩ : ByteArray) = pd at hpd hl2
            refine wp_region_quiet_below (by kernel_rfl) (by kernel_rfl) ?_
            repeat (go_big_quiet_step (exact hMay _))
            refine wpQuiet_nil ?_
            intro w5 hw'
            have hb5 : Below wC.heap.size wC w5 := by
              obtain ⟨q, rfl⟩ := hw'
              exact q.h
            clear hw'
            have hB5 : Below wr.heap.size wr w5 := HW.out.1.trans (hb5.mono HW.out.1.size)
            have hbx5 := (hb5.block _ (Array.getElem?_eq_some_iff.1 HW.out.2.1).1).trans HW.out.2.1
            have HV := Lib.hid (And.intro hB5 hbx5)
            have hBw5 : Below w.heap.size w w5 := HC.out.2.2.2.1.trans (hB5.mono HC.out.2.2.2.1.size)
            clear hx0 hx1 hx2 hx3 hx4 hx5 hMay hb5 hB5
            obtain ⟨x0, x1, x2, x3, x4, x5⟩ := box6 hbx5
            clear hbx5
            have HL := Lib.hid (And.intro HLB.out hBw5)
            clear hBw5
            go_wp2
            refine bodyPost_ret (v := .tuple #[.pointer none, .int .i64 4]) (by simp [results, Try.results14, go_sem]) rfl ⟨.inr ⟨by rw [HL.out.1]; decide, by rw [HL.out.1]; rfl⟩, HL.out.2⟩
    · have hli : ¬ (i : Int) < (n : Int) := by omega
      obtain rfl : i = n := by omega
      have hall : (zs.map (·.1)).take i = zs.map (·.1) := List.take_of_length_le (by simp [hnz])
      rw [hall] at hE hmay
      have hlb : loadB most (zs.map (·.1)) = 0 := loadB_good H1.out (by have := H2.out; omega) (goodB_iff.2 ⟨hmay, hE.asc⟩)
      have HZ := Lib.hid (And.intro hlb (And.intro hc (And.intro hE hB)))
      clear hlb hc hE hmay hB hall
      go_wp2
      refine bodyPost_ret (v := .tuple #[.pointer (some ⟨w.heap.size + 1, 0, none⟩), .int .i64 0]) (by simp [results, Try.results14, go_sem]) rfl ⟨.inl ⟨HZ.out.1, _, _, rfl, ⟨l2, HZ.out.2.1, HZ.out.2.2.1⟩, by omega, Nat.le_refl _⟩, HZ.out.2.2.2⟩
end Go.Proofs.Ytojhledbfaninaa
