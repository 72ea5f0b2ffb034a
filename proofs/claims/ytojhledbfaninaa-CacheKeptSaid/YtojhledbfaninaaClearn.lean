/- Learn. -/
import Derived.Test.YtojhledbfaninaaCput
import Derived.Deep.CutRange
namespace Go.Proofs.Ytojhledbfaninaa
open Go Go.RowKit Go.Shelf Go.Sort
attribute [local go_sem] bneI

/-- What Learn does. -/
def LearnPost (w : World) (B : Nat → Prop) (b bm : Nat) (most : Int) (L : List PE) (x : PE) (e : Ending) (w' : World) : Prop :=
  e = .returned (.int .i64 (learnB most L x : Int)) ∧ CacheIs w' (fun k => B k ∨ w.heap.size ≤ k) b bm most (learnS most L x) ∧ w.grownBy w' (some bm)
theorem learn_same {w w' : World} {B : Nat → Prop} {b bm : Nat} {most : Int} {L : List PE} {x : PE} {v : Int} (h : CacheIs w B b bm most L) (hb : Below w.heap.size w w') (hv : v = (learnB most L x : Int)) (hs : learnS most L x = L) :
    LearnPost w B b bm most L x (.returned (.int .i64 v)) w' :=
  ⟨by rw [hv], by rw [hs]; exact (h.below hb).mono (fun k hk => .inl hk), grownBy_of_below hb _⟩
theorem learnS_bad {most : Int} {L : List PE} {x : PE} (h : learnB most L x ≠ 0) : learnS most L x = L := by
  unfold learnS; rw [if_pos h]
theorem learn_early {x : PE} {most : Int} {L : List PE} (h : x.unt < 0 ∨ 1099511627776 < x.unt) : learnB most L x = 1 := by
  unfold learnB; rw [if_pos h]
theorem learn_form {x : PE} {most : Int} {L : List PE} (h : ¬ (x.unt < 0 ∨ 1099511627776 < x.unt)) (hm : mayE x = false) : learnB most L x = 4 := by
  unfold learnB; rw [if_neg h, if_pos hm]
theorem learn_room {x : PE} {most : Int} {L : List PE} (h : ¬ (x.unt < 0 ∨ 1099511627776 < x.unt)) (hm : mayE x = true) (hr : hasE x.dom L = true ∨ (L.length : Int) < most) : learnB most L x = 0 ∧ learnS most L x = insE { x with unt := x.unt + x.age } L := by
  have h0 : learnB most L x = 0 := by unfold learnB; rw [if_neg h, if_neg (by rw [hm]; simp), if_pos hr]
  exact ⟨h0, by unfold learnS; rw [if_neg (by rw [h0]; simp)]; dsimp only; rw [if_pos hr]⟩
theorem learn_full {x : PE} {most : Int} {L : List PE} (h : ¬ (x.unt < 0 ∨ 1099511627776 < x.unt)) (hm : mayE x = true) (hr : ¬ (hasE x.dom L = true ∨ (L.length : Int) < most)) (hg : goesE x.unt L = none) : learnB most L x = 41 := by
  unfold learnB; rw [if_neg h, if_neg (by rw [hm]; simp), if_neg hr, hg]; rfl
theorem learn_goes {x : PE} {most : Int} {L : List PE} {p : PE} (h : ¬ (x.unt < 0 ∨ 1099511627776 < x.unt)) (hm : mayE x = true) (hr : ¬ (hasE x.dom L = true ∨ (L.length : Int) < most)) (hg : goesE x.unt L = some p) : learnB most L x = 0 ∧ learnS most L x = insE { x with unt := x.unt + x.age } (dropE p.dom L) := by
  have h0 : learnB most L x = 0 := by unfold learnB; rw [if_neg h, if_neg (by rw [hm]; simp), if_neg hr, hg]; rfl
  exact ⟨h0, by unfold learnS; rw [if_neg (by rw [h0]; simp)]; dsimp only; rw [if_neg hr, hg]⟩
theorem goes_exp {now : Int} {L : List PE} {p : PE} (h : minE (L.filter fun p => decide (p.unt ≤ now)) = some p) : goesE now L = some p := by unfold goesE; rw [h]
theorem goes_soft {now : Int} {L : List PE} (h : minE (L.filter fun p => decide (p.unt ≤ now)) = none) : goesE now L = minE (L.filter fun p => decide (p.mode ≠ 3)) := by unfold goesE; rw [h]

set_option maxRecDepth 100000 in
set_option maxHeartbeats 4000000 in
theorem learn_any (b bm : Nat) (most : Int) (B Bp : Nat → Prop) (L : List PE) (w : World) (h : CacheIs w B b bm most L) (hl : L.length ≤ 1000) (d i : Bytes) (m : Nat) (hh : SH) (mx : List Bytes) (age now : Int)
    (hm : MxAt w Bp hh mx) (hs : FitE ⟨d, i, m, mx, age, now⟩) (hg : Glob w) :
    Calls Try.prog 9 #[.pointer (some ⟨b, 0, none⟩), .string ⟨d.toArray⟩, .string ⟨i.toArray⟩, pcl m hh age, .int .i64 now] w (LearnPost w B b bm most L ⟨d, i, m, mx, age, now⟩) := by
  obtain ⟨p, n, c⟩ := hh
  unfold pcl shV
  dsimp only
  obtain ⟨W, hW⟩ : ∃ W, W = ((w.alloc (.cells #[.int .u8 (m : Int), .slice p n c, .int .i64 age] 25)).alloc (.cells #[.int .i64 now] 3)).alloc (.cells #[.string ⟨d.toArray⟩, .string ⟨i.toArray⟩, .int .u8 (m : Int), .slice p n c, .int .i64 age, .int .i64 now] 27) := ⟨_, rfl⟩
  have hB : Below w.heap.size w W := by rw [hW]; exact (((Below.refl _ w).alloc (Nat.le_refl _) _).alloc (by simp) _).alloc (by simp; omega) _
  have hsz : W.heap.size = w.heap.size + 3 := by rw [hW]; simp
  have hbp : W.heap[w.heap.size]? = some (.cells #[.int .u8 (m : Int), .slice p n c, .int .i64 age] 25 (0, 0)) := by rw [hW, ha_ne (by simp; omega), ha_ne (by simp), ha_eq rfl]
  have hbn : W.heap[w.heap.size + 1]? = some (.cells #[.int .i64 now] 3 (0, 0)) := by rw [hW, ha_ne (by simp), ha_eq (by simp)]
  have hbx : W.heap[w.heap.size + 2]? = some (.cells #[.string ⟨d.toArray⟩, .string ⟨i.toArray⟩, .int .u8 (m : Int), .slice p n c, .int .i64 age, .int .i64 now] 27 (0, 0)) := by rw [hW, ha_eq (by simp)]
  have hMay := mayE_any (⟨d, i, m, mx, age, now⟩, (p, n, c)) Bp W (hm.below hB) hs (hg.below hB (by obtain ⟨m, hm⟩ := hg; exact cell_lt hm))
  rw [lit_ev] at hMay
  dsimp only at hMay
  have HH := Lib.hid (And.intro h (And.intro hm (And.intro hs hg)))
  clear h hm hs hg
  by_cases h1 : now < 0
  · have HB := Lib.hid hB
    clear hB hMay hbp hbn hbx hsz
    go_enter Try.func9, Try.ntmps9
    go_wp2_with fail
    rw [← hW]
    clear hW
    go_wp2
    refine bodyPost_ret (v := .int .i64 1) (by simp [results, Try.results9, go_sem]) rfl ?_
    have hv := learn_early (x := ⟨d, i, m, mx, age, now⟩) (most := most) (L := L) (.inl h1)
    exact learn_same HH.out.1 HB.out (by rw [hv]; rfl) (learnS_bad (by rw [hv]; decide))
  by_cases h2 : 1099511627776 < now
  · have HB := Lib.hid hB
    clear hB hMay hbp hbn hbx hsz
    go_enter Try.func9, Try.ntmps9
    go_wp2_with fail
    rw [← hW]
    clear hW
    go_wp2
    refine bodyPost_ret (v := .int .i64 1) (by simp [results, Try.results9, go_sem]) rfl ?_
    have hv := learn_early (x := ⟨d, i, m, mx, age, now⟩) (most := most) (L := L) (.inr h2)
    exact learn_same HH.out.1 HB.out (by rw [hv]; rfl) (learnS_bad (by rw [hv]; decide))
  have hrange : ¬ ((⟨d, i, m, mx, age, now⟩ : PE).unt < 0 ∨ 1099511627776 < (⟨d, i, m, mx, age, now⟩ : PE).unt) := by
    rintro (h | h)
    · exact h1 h
    · exact h2 h
  have HR := Lib.hid hrange
  clear hrange
  obtain ⟨q0, q1, q2⟩ : W.cell? ⟨w.heap.size, 0, none⟩ = some (.int .u8 (m : Int)) ∧ W.cell? ⟨w.heap.size, 1, none⟩ = some (.slice p n c) ∧ W.cell? ⟨w.heap.size, 2, none⟩ = some (.int .i64 age) := by
    refine ⟨?_, ?_, ?_⟩ <;> simp [World.cell?, hbp]
  obtain ⟨cn, fn⟩ := box_cell hbn
  obtain ⟨x0, x1, x2, x3, x4, x5⟩ := box6 hbx
  go_enter Try.func9, Try.ntmps9
  go_wp2_with fail
  rw [← hW]
  clear hW
  have HB := Lib.hid (And.intro hB (And.intro hbp (And.intro hbn (And.intro hbx hsz))))
  clear hB hbp hbn hbx
  refine hMay.mono ?_
  rintro e wA ⟨rfl, hbA⟩
  have hBA := HB.out.1.trans (hbA.mono HB.out.1.size)
  have hbp := (hbA.block _ (by omega)).trans HB.out.2.1
  have hbn := (hbA.block _ (by omega)).trans HB.out.2.2.1
  have hbx := (hbA.block _ (by omega)).trans HB.out.2.2.2.1
  have hszA : w.heap.size + 3 ≤ wA.heap.size := by have := hbA.size; omega
  clear q0 q1 q2 cn fn x0 x1 x2 x3 x4 x5 hMay HB hbA hsz
  cases hmay : mayE ⟨d, i, m, mx, age, now⟩
  · have HN := Lib.hid (And.intro hBA hmay)
    clear hBA hbp hbn hbx hszA hmay
    go_wp2
    refine bodyPost_ret (v := .int .i64 4) (by simp [results, Try.results9, go_sem]) rfl ?_
    have hv := learn_form (x := ⟨d, i, m, mx, age, now⟩) (most := most) (L := L) HR.out HN.out.2
    exact learn_same HH.out.1 HN.out.1 (by rw [hv]; rfl) (learnS_bad (by rw [hv]; decide))
  obtain ⟨ha0, ha1⟩ : 0 ≤ age ∧ age ≤ 31557600 := may_age hmay
  obtain ⟨q0, q1, q2⟩ : wA.cell? ⟨w.heap.size, 0, none⟩ = some (.int .u8 (m : Int)) ∧ wA.cell? ⟨w.heap.size, 1, none⟩ = some (.slice p n c) ∧ wA.cell? ⟨w.heap.size, 2, none⟩ = some (.int .i64 age) := by
    refine ⟨?_, ?_, ?_⟩ <;> simp [World.cell?, hbp]
  obtain ⟨x0, x1, x2, x3, x4, x5⟩ := box6 hbx
  have fx := froz6 hbx
  have hwrap : IntKind.i64.wrap (now + age) = now + age := by rw [IntKind.wrap_i64]; omega
  have HA := Lib.hid (And.intro hBA (And.intro hbp (And.intro hbn (And.intro hbx (And.intro hszA hmay)))))
  clear hBA hbp hbn hbx hszA hmay
  go_upto_region 9 with (fail)
  rename_i K1 hK1 K2 hK2
  have hfin : ∀ (u2 u3 u4 u5 u6 u7 u8 u9 u10 u12 u13 u14 u15 u16 u17 u18 u19 u20 u21 u22 u23 u24 u25 u26 u27 u28 u29 u30 u31 u32 u33 u34 u35 u36 u37 u38 u39 u40 u41 u42 u43 u44 u45 u46 u47 u48 u49 u50 u51 u52 u53 u54 u55 u56 u57 u58 u59 u60 u61 u62 u63 u64 u65 u66 u67 u68 u69 u70 u71 u72 u73 u74 u75 u76 u77 u78 u79 u80 u81 u82 u83 u84 u85 u86 u87 u88 u89 u90 u91 : Value) (w' : World) (l2 : CM) (L2 : List PE), CacheAt w' B b bm most l2 → Ents l2 L2 → w.grownBy w' (some bm) → w'.heap[w.heap.size + 2]? = some (.cells #[.string ⟨d.toArray⟩, .string ⟨i.toArray⟩, .int .u8 (m : Int), .slice p n c, .int .i64 age, .int .i64 (now + age)] 27 (0, 0)) → MxAt w' Bp (p, n, c) mx →
      learnB most L ⟨d, i, m, mx, age, now⟩ = 0 ∧ learnS most L ⟨d, i, m, mx, age, now⟩ = insE ⟨d, i, m, mx, age, now + age⟩ L2 → K1 { tmps := #[.pointer (some ⟨b, 0, none⟩), .string ⟨d.toArray⟩, u2, u3, u4, u5, u6, u7, u8, u9, u10, .pointer (some ⟨w.heap.size + 2, 0, none⟩), u12, u13, u14, u15, u16, u17, u18, u19, u20, u21, u22, u23, u24, u25, u26, u27, u28, u29, u30, u31, u32, u33, u34, u35, u36, u37, u38, u39, u40, u41, u42, u43, u44, u45, u46, u47, u48, u49, u50, u51, u52, u53, u54, u55, u56, u57, u58, u59, u60, u61, u62, u63, u64, u65, u66, u67, u68, u69, u70, u71, u72, u73, u74, u75, u76, u77, u78, u79, u80, u81, u82, u83, u84, u85, u86, u87, u88, u89, u90, u91], defers := [] } w' := by
    intro u2 u3 u4 u5 u6 u7 u8 u9 u10 u12 u13 u14 u15 u16 u17 u18 u19 u20 u21 u22 u23 u24 u25 u26 u27 u28 u29 u30 u31 u32 u33 u34 u35 u36 u37 u38 u39 u40 u41 u42 u43 u44 u45 u46 u47 u48 u49 u50 u51 u52 u53 u54 u55 u56 u57 u58 u59 u60 u61 u62 u63 u64 u65 u66 u67 u68 u69 u70 u71 u72 u73 u74 u75 u76 u77 u78 u79 u80 u81 u82 u83 u84 u85 u86 u87 u88 u89 u90 u91 w' l2 L2 hc hE hgr hbx hmx hans
    have hlen8 : mx.length ≤ 1000000 := by
      have := HA.out.2.2.2.2.2
      simp [mayE, polB] at this
      omega
    refine hK1 _ _ ?_
    clear hK1 hK2 q0 q1 q2 x0 x1 x2 x3 x4 x5 fx hwrap K2
    obtain ⟨W1, hW1⟩ : ∃ W1, W1 = w'.drew := ⟨_, rfl⟩
    have hd1 : Below w'.heap.size w' W1 := by rw [hW1]; exact ⟨rfl, rfl, rfl, Nat.le_refl _, fun _ _ => rfl⟩
    have hc1 := hc.below hd1
    obtain ⟨c0, c1⟩ := hc1.cells
    have hbx1 := (hd1.block _ (Array.getElem?_eq_some_iff.1 hbx).1).trans hbx
    obtain ⟨x0, x1, x2, x3, x4, x5⟩ := box6 hbx1
    have hO := own_any (⟨d, i, m, mx, age, now + age⟩, (p, n, c)) Bp W1 (hmx.below hd1) hlen8
    rw [lit_ev] at hO
    have HT := Lib.hid (And.intro hc1 (And.intro hE (And.intro hgr (And.intro hans hd1))))
    clear hc hc1 hE hgr hbx hmx hans hd1 hlen8 hbx1
    have hWs : w.heap.size ≤ W1.heap.size := Nat.le_trans HT.out.2.2.1.size HT.out.2.2.2.2.size
    have hup : ∀ (w5 : World) (p' : Option Addr) (n' c' : Nat), MxAt w5 (fun k => W1.heap.size ≤ k) (p', n', c') mx → Below W1.heap.size W1 w5 → ∃ o : Obj, (Instr.mapUpdate 65 (.map (some bm)) (.string ⟨d.toArray⟩) (.agg #[.string ⟨d.toArray⟩, .string ⟨i.toArray⟩, .int .u8 (m : Int), .slice p' n' c', .int .i64 age, .int .i64 (now + age)])).run Try.prog w5 = .ok () (w5.putObj bm o) ∧
        (w5.cell? ⟨b, 1, none⟩ = some (.map (some bm)) ∧ w5.cell? ⟨w.heap.size + 2, 0, none⟩ = some (.string ⟨d.toArray⟩) ∧ w5.cell? ⟨w.heap.size + 2, 1, none⟩ = some (.string ⟨i.toArray⟩) ∧ w5.cell? ⟨w.heap.size + 2, 2, none⟩ = some (.int .u8 (m : Int)) ∧ w5.cell? ⟨w.heap.size + 2, 3, none⟩ = some (.slice p n c) ∧ w5.cell? ⟨w.heap.size + 2, 4, none⟩ = some (.int .i64 age) ∧ w5.cell? ⟨w.heap.size + 2, 5, none⟩ = some (.int .i64 (now + age))) ∧ ((w5.putObj bm o).cell? ⟨b, 1, none⟩ = some (.map (some bm)) ∧ (w5.putObj bm o).cell? ⟨w.heap.size + 2, 0, none⟩ = some (.string ⟨d.toArray⟩) ∧ (w5.putObj bm o).cell? ⟨w.heap.size + 2, 1, none⟩ = some (.string ⟨i.toArray⟩) ∧ (w5.putObj bm o).cell? ⟨w.heap.size + 2, 2, none⟩ = some (.int .u8 (m : Int)) ∧ (w5.putObj bm o).cell? ⟨w.heap.size + 2, 3, none⟩ = some (.slice p n c) ∧ (w5.putObj bm o).cell? ⟨w.heap.size + 2, 4, none⟩ = some (.int .i64 age) ∧ (w5.putObj bm o).cell? ⟨w.heap.size + 2, 5, none⟩ = some (.int .i64 (now + age))) ∧ CacheIs (w5.putObj bm o) (fun k => B k ∨ w.heap.size ≤ k) b bm most (insE ⟨d, i, m, mx, age, now + age⟩ L2) ∧ w.grownBy (w5.putObj bm o) (some bm) := by
      intro w5 p' n' c' hm5 hb5
      have hc5 : CacheAt w5 (fun k => B k ∨ w.heap.size ≤ k) b bm most l2 := (HT.out.1.below hb5).mono (fun k hk => .inl hk)
      obtain ⟨o, hrun, hc6⟩ := hc5.store ⟨d, i, m, mx, age, now + age⟩ (p', n', c') (hm5.mono (fun k hk => .inr (Nat.le_trans hWs hk)))
      have hgrow : w.grownBy (w5.putObj bm o) (some bm) := World.grownBy.trans (World.grownBy.trans (World.grownBy.trans HT.out.2.2.1 (grownBy_of_below HT.out.2.2.2.2 _)) (grownBy_of_below hb5 _)) (grownBy_putObj' w5 bm o)
      have hS : ∀ (a : Addr) (v : Value), W1.cell? a = some v → w5.cell? a = some v := fun a v h => (hb5.cell (p := a) (cell_lt h)).trans h
      obtain ⟨ob, hob, hoc⟩ := hc5.isMap
      have hS2 : ∀ (a : Addr) (v : Value), W1.cell? a = some v → (w5.putObj bm o).cell? a = some v := fun a v h => cell_grown (grownBy_putObj' w5 bm o) (hS a v h) (fun e => by injection e with e; exact map_ne hob hoc (hS a v h) e)
      exact ⟨o, hrun, ⟨hS _ _ c1, hS _ _ x0, hS _ _ x1, hS _ _ x2, hS _ _ x3, hS _ _ x4, hS _ _ x5⟩, ⟨hS2 _ _ c1, hS2 _ _ x0, hS2 _ _ x1, hS2 _ _ x2, hS2 _ _ x3, hS2 _ _ x4, hS2 _ _ x5⟩, ⟨_, hc6, HT.out.2.1.put HT.out.1.key ⟨d, i, m, mx, age, now + age⟩ (p', n', c')⟩, hgrow⟩
    have HA0 := Lib.hid HT.out.2.2.2.1
    clear HT hWs c0
    go_wp2_with fail
    rw [hW1] at hO c1 x0 x1 x2 x3 x4 x5 hup
    clear hW1
    go_region_held3 (fun v => v.cell? ⟨b, 1, none⟩ = some (.map (some bm)) ∧ v.cell? ⟨w.heap.size + 2, 0, none⟩ = some (.string ⟨d.toArray⟩) ∧ v.cell? ⟨w.heap.size + 2, 1, none⟩ = some (.string ⟨i.toArray⟩) ∧ v.cell? ⟨w.heap.size + 2, 2, none⟩ = some (.int .u8 (m : Int)) ∧ v.cell? ⟨w.heap.size + 2, 3, none⟩ = some (.slice p n c) ∧ v.cell? ⟨w.heap.size + 2, 4, none⟩ = some (.int .i64 age) ∧ v.cell? ⟨w.heap.size + 2, 5, none⟩ = some (.int .i64 (now + age)))
      ((first | with_reducible exact hS5 | with_reducible exact hS6 | go_keep))
      ((go_at_call 24; refine hO.mono ?_; rintro e w5 ⟨⟨p', n', c'⟩, rfl, hm5, hb5⟩; obtain ⟨o, hrun, hS5, hS6, hfc, hfg⟩ := hup w5 p' n' c' hm5 hb5; rw [lit_ev]))
    have HF := Lib.hid (And.intro hfc hfg)
    clear hfc hfg hrun hS5 hS6 hup hO hm5 hb5
    go_wp2
    refine bodyPost_ret (v := .int .i64 0) (by simp [results, Try.results9, go_sem]) rfl ?_
    exact ⟨by rw [HA0.out.1]; rfl, by rw [HA0.out.2]; exact HF.out.1, HF.out.2⟩
  clear hK1
  obtain ⟨l, hc, hE⟩ := HH.out.1
  obtain ⟨wB, hwB⟩ : ∃ wB, wB = wA.setCell ⟨w.heap.size + 2, 5, none⟩ (.int .i64 (now + age)) := ⟨_, rfl⟩
  rw [← hwB]
  have hBB : Below w.heap.size w wB := by rw [hwB]; exact HA.out.1.setCell (p := ⟨w.heap.size + 2, 5, none⟩) (by dsimp only; omega) _
  have hbnB : wB.heap[w.heap.size + 1]? = some (.cells #[.int .i64 now] 3 (0, 0)) := by rw [hwB]; exact (Below.heap_setCell _ _ _ _ (by dsimp only; omega)).trans HA.out.2.2.1
  have hbxB : wB.heap[w.heap.size + 2]? = some (.cells #[.string ⟨d.toArray⟩, .string ⟨i.toArray⟩, .int .u8 (m : Int), .slice p n c, .int .i64 age, .int .i64 (now + age)] 27 (0, 0)) := by rw [hwB]; simp [World.setCell, Array.getElem?_modify, HA.out.2.2.2.1]
  clear hwB q0 q1 q2 x0 x1 x2 x3 x4 x5 fx hwrap
  have hcB := hc.below hBB
  have hlk := hcB.lookup d
  unfold str at hlk
  have hkey := hc.key
  have hnd := hc.map.nodup
  have hhas := hE.has hkey d
  have hlen := hE.len hnd hkey
  by_cases hh : has l d = true
  · cases hlo : look l d with
    | none => rw [look_none.1 hlo] at hh; cases hh
    | some y =>
      rw [hlo, hh] at hlk
      have hans := learn_room (x := ⟨d, i, m, mx, age, now⟩) (most := most) (L := L) HR.out HA.out.2.2.2.2.2 (.inl (by rw [← hhas]; exact hh))
      have HQ := Lib.hid (And.intro hans (And.intro hcB (And.intro hE (And.intro hBB (And.intro hbxB HH.out.2.1)))))
      obtain ⟨c0, c1⟩ := hcB.cells
      clear hans hcB hE hBB hbxB hbnB hhas hkey hnd hlen hc hlo hh
      obtain ⟨⟨d1, i1, m1, mx1, age1, unt1⟩, p1, n1, cc1⟩ := y
      simp only [Option.map_some, Option.getD_some] at hlk
      rw [lit_ev] at hlk
      go_wp2_with fail
      generalize hwC : World.alloc _ _ = wC
      have hBC : Below wB.heap.size wB wC := by rw [← hwC]; exact (Below.refl _ _).alloc (Nat.le_refl _) _
      have HC := Lib.hid (And.intro hBC (Nat.le_refl 0))
      clear hwC c0 c1 hlk
      obtain ⟨c0, c1⟩ := (HQ.out.2.1.below hBC).cells
      have hlenC := fun ty q => ((HQ.out.2.1.below hBC).below (W' := wC.drewN q) ⟨rfl, rfl, rfl, Nat.le_refl _, fun _ _ => rfl⟩).length ty
      clear hBC
      go_quiet (fail)
      go_wp2
      have hdr : ∀ q, Below wC.heap.size wC (wC.drewN q) := fun q => ⟨rfl, rfl, rfl, Nat.le_refl _, fun _ _ => rfl⟩
      exact hfin _ _ _ _ _ _ _ _ _ _ _ _ _ _ _ _ _ _ _ _ _ _ _ _ _ _ _ _ _ _ _ _ _ _ _ _ _ _ _ _ _ _ _ _ _ _ _ _ _ _ _ _ _ _ _ _ _ _ _ _ _ _ _ _ _ _ _ _ _ _ _ _ _ _ _ _ _ _ _ _ _ _ _ _ _ _ _ _ _ _ l L ((HQ.out.2.1.below HC.out.1).below (hdr _)) HQ.out.2.2.1 (World.grownBy.trans (World.grownBy.trans (grownBy_of_below HQ.out.2.2.2.1 _) (grownBy_of_below HC.out.1 _)) (grownBy_of_below (hdr _) _)) ((HC.out.1.block _ (Array.getElem?_eq_some_iff.1 HQ.out.2.2.2.2.1).1).trans HQ.out.2.2.2.2.1) (((HQ.out.2.2.2.2.2.below HQ.out.2.2.2.1).below HC.out.1).below (hdr _)) HQ.out.1
  · have hnh : has l d = false := by cases hx : has l d with
      | false => rfl
      | true => exact absurd hx hh
    rw [look_none.2 hnh, hnh] at hlk
    simp only [Option.map_none, Option.getD_none] at hlk
    unfold zeroM at hlk
    rw [lit_ev] at hlk
    have hnE : hasE d L = false := by rw [← hhas]; exact hnh
    by_cases hroom : (l.length : Int) < most
    · have hans := learn_room (x := ⟨d, i, m, mx, age, now⟩) (most := most) (L := L) HR.out HA.out.2.2.2.2.2 (.inr (by rw [← hlen]; exact hroom))
      have hge : ¬ most ≤ (l.length : Int) := by omega
      have hge2 : decide (most ≤ (l.length : Int)) = false := by simp; omega
      have HQ := Lib.hid (And.intro hans (And.intro hcB (And.intro hE (And.intro hBB (And.intro hbxB HH.out.2.1)))))
      obtain ⟨c0, c1⟩ := hcB.cells
      clear hans hcB hE hBB hbxB hbnB hhas hkey hnd hlen hc hh hnh hnE
      go_wp2_with fail
      generalize hwC : World.alloc _ _ = wC
      have hBC : Below wB.heap.size wB wC := by rw [← hwC]; exact (Below.refl _ _).alloc (Nat.le_refl _) _
      have HC := Lib.hid (And.intro hBC (Nat.le_refl 0))
      clear hwC c0 c1 hlk
      obtain ⟨c0, c1⟩ := (HQ.out.2.1.below hBC).cells
      have hlenC := fun ty q => ((HQ.out.2.1.below hBC).below (W' := wC.drewN q) ⟨rfl, rfl, rfl, Nat.le_refl _, fun _ _ => rfl⟩).length ty
      clear hBC
      go_quiet (fail)
      go_wp2
      have hdr : ∀ q, Below wC.heap.size wC (wC.drewN q) := fun q => ⟨rfl, rfl, rfl, Nat.le_refl _, fun _ _ => rfl⟩
      exact hfin _ _ _ _ _ _ _ _ _ _ _ _ _ _ _ _ _ _ _ _ _ _ _ _ _ _ _ _ _ _ _ _ _ _ _ _ _ _ _ _ _ _ _ _ _ _ _ _ _ _ _ _ _ _ _ _ _ _ _ _ _ _ _ _ _ _ _ _ _ _ _ _ _ _ _ _ _ _ _ _ _ _ _ _ _ _ _ _ _ _ l L ((HQ.out.2.1.below HC.out.1).below (hdr _)) HQ.out.2.2.1 (World.grownBy.trans (World.grownBy.trans (grownBy_of_below HQ.out.2.2.2.1 _) (grownBy_of_below HC.out.1 _)) (grownBy_of_below (hdr _) _)) ((HC.out.1.block _ (Array.getElem?_eq_some_iff.1 HQ.out.2.2.2.2.1).1).trans HQ.out.2.2.2.2.1) (((HQ.out.2.2.2.2.2.below HQ.out.2.2.2.1).below HC.out.1).below (hdr _)) HQ.out.1
    · have hge : most ≤ (l.length : Int) := by omega
      have hge2 : decide (most ≤ (l.length : Int)) = true := by simp; omega
      have hnr : ¬ (hasE (⟨d, i, m, mx, age, now⟩ : PE).dom L = true ∨ (L.length : Int) < most) := by
        rintro (h | h)
        · rw [hnE] at h; cases h
        · rw [← hlen] at h; omega
      have HQ := Lib.hid (And.intro hnr (And.intro hcB (And.intro hE (And.intro hBB (And.intro hbxB HH.out.2.1)))))
      have HBN := Lib.hid hbnB
      obtain ⟨c0, c1⟩ := hcB.cells
      clear hnr hcB hE hBB hbxB hbnB hhas hkey hnd hlen hc hh hnh hnE hroom
      go_wp2_with fail
      generalize hwC : World.alloc _ _ = wC
      have hBC : Below wB.heap.size wB wC := by rw [← hwC]; exact (Below.refl _ _).alloc (Nat.le_refl _) _
      have HC := Lib.hid (And.intro hBC (Nat.le_refl 0))
      clear hwC c0 c1 hlk
      obtain ⟨c0, c1⟩ := (HQ.out.2.1.below hBC).cells
      have hlenC := fun ty q => ((HQ.out.2.1.below hBC).below (W' := wC.drewN q) ⟨rfl, rfl, rfl, Nat.le_refl _, fun _ _ => rfl⟩).length ty
      clear hBC
      have hF1 : ∀ W, Below wC.heap.size wC W → Calls Try.prog 25 #[.pointer (some ⟨b, 0, none⟩), .func (.func 26) #[] #[.pointer (some ⟨w.heap.size + 1, 0, none⟩)]] W fun e w' => FirstPost (minE (L.filter fun p => decide (p.unt ≤ now))) e ∧ Below W.heap.size W w' := fun W hb =>
        first_any b bm most B L W ⟨l, (HQ.out.2.1.below HC.out.1).below hb, HQ.out.2.2.1⟩ hl 26 #[.pointer (some ⟨w.heap.size + 1, 0, none⟩)] (fun p => decide (p.unt ≤ now)) (enters_of Try.func26 (by kernel_rfl) rfl)
          (fun W2 x hb2 => expired_any x now (w.heap.size + 1) W2 (by
            have e1 := (box_cell HBN.out).1
            have e2 := (HC.out.1.cell (p := ⟨w.heap.size + 1, 0, none⟩) (cell_lt e1)).trans e1
            have e3 := (hb.cell (p := ⟨w.heap.size + 1, 0, none⟩) (cell_lt e2)).trans e2
            exact (hb2.cell (p := ⟨w.heap.size + 1, 0, none⟩) (cell_lt e3)).trans e3))
      have hF2 : ∀ W, Below wC.heap.size wC W → Calls Try.prog 25 #[.pointer (some ⟨b, 0, none⟩), .func (.func 27) #[] #[]] W fun e w' => FirstPost (minE (L.filter fun p => decide (p.mode ≠ 3))) e ∧ Below W.heap.size W w' := fun W hb =>
        first_any b bm most B L W ⟨l, (HQ.out.2.1.below HC.out.1).below hb, HQ.out.2.2.1⟩ hl 27 #[] (fun p => decide (p.mode ≠ 3)) (enters_of Try.func27 (by kernel_rfl) rfl) (fun W2 x _ => soft_any x W2)
      go_quiet (fail)
      go_wp2_with fail
      refine (hF1 (wC.drewN _) ⟨rfl, rfl, rfl, Nat.le_refl _, fun _ _ => rfl⟩).mono ?_
      rintro e wD ⟨hP, hbD⟩
      replace hbD : Below wC.heap.size wC wD := ⟨hbD.os, hbD.tape, hbD.output, hbD.size, hbD.block⟩
      rcases hP with ⟨hnone, rfl⟩ | ⟨y, hsome, rfl⟩
      · have hgo := goes_soft hnone
        have HG := Lib.hid (And.intro hgo hbD)
        clear hF1 hnone hgo hbD
        unfold zeroM
        rw [lit_ev]
        go_wp2_with fail
        refine (hF2 _ (HG.out.2.alloc HG.out.2.size _)).mono ?_
        rintro e wF ⟨hP, hbF⟩
        have hbx4 := (hbF.block _ (by simp)).trans (ha_eq (w := wD) rfl)
        have hB4 : Below wC.heap.size wC wF := (HG.out.2.alloc HG.out.2.size _).trans (hbF.mono (by simp; exact Nat.le_trans HG.out.2.size (Nat.le_succ _)))
        have hDC := HG.out.2.size
        obtain ⟨z0, z1, z2, z3, z4, z5⟩ := box6 hbx4
        have fz := froz6 hbx4
        rcases hP with ⟨hnone, rfl⟩ | ⟨y, hsome, rfl⟩
        · have hans := learn_full (x := ⟨d, i, m, mx, age, now⟩) (most := most) (L := L) HR.out HA.out.2.2.2.2.2 HQ.out.1 (HG.out.1.trans hnone)
          have HN := Lib.hid (And.intro hans hB4)
          clear hF2 hnone hans hB4 hbF hbx4
          unfold zeroM
          rw [lit_ev]
          go_wp2
          refine bodyPost_ret (v := .int .i64 41) (by simp [results, Try.results9, go_sem]) rfl ?_
          refine learn_same HH.out.1 ?_ (by rw [HN.out.1]; rfl) (learnS_bad (by rw [HN.out.1]; decide))
          have hBw : Below w.heap.size w wF := HQ.out.2.2.2.1.trans (HC.out.1.mono HQ.out.2.2.2.1.size |>.trans (HN.out.2.mono (Nat.le_trans HQ.out.2.2.2.1.size HC.out.1.size)))
          have hDw : w.heap.size ≤ wD.heap.size := Nat.le_trans (Nat.le_trans HQ.out.2.2.2.1.size HC.out.1.size) hDC
          repeat (first | with_reducible exact hBw | refine Below.setCell ?_ (by dsimp only; exact hDw) _)
        · have hans := learn_goes (x := ⟨d, i, m, mx, age, now⟩) (most := most) (L := L) HR.out HA.out.2.2.2.2.2 HQ.out.1 (HG.out.1.trans hsome)
          have HN := Lib.hid (And.intro hans hB4)
          have HX4 := Lib.hid hbx4
          clear hF2 hsome hans hB4 hbF hbx4
          obtain ⟨⟨d1, i1, m1, mx1, age1, unt1⟩, p1, n1, cc1⟩ := y
          rw [lit_ev]
          go_upto_region 16 with (fail)
          generalize hwE : World.setCell _ _ _ = wE
          have hboxE : wE.cell? ⟨wD.heap.size, 0, none⟩ = some (.string ⟨d1.toArray⟩) := by rw [← hwE]; exact (box6 (set6 HX4.out _ _ _ _ _ _)).1
          have hBE : Below wC.heap.size wC wE := by
            have h1 := HN.out.2
            rw [← hwE]
            repeat (first | with_reducible exact h1 | refine Below.setCell ?_ (by dsimp only; exact hDC) _)
          clear hwE z0 z1 z2 z3 z4 z5 fz
          have hcE := (HQ.out.2.1.below HC.out.1).below hBE
          obtain ⟨W1, hW1⟩ : ∃ W1, W1 = wE.drew := ⟨_, rfl⟩
          have hB1 : Below wE.heap.size wE W1 := by rw [hW1]; exact ⟨rfl, rfl, rfl, Nat.le_refl _, fun _ _ => rfl⟩
          have hc1 := hcE.below hB1
          obtain ⟨o, hrun, hc6⟩ := hc1.delete d1 0
          have hE6 := HQ.out.2.2.1.drop hc1.key d1
          obtain ⟨ob, hob, hoc⟩ := hc1.isMap
          have hb0 := hboxE
          replace hb0 := (hB1.cell (p := ⟨wD.heap.size, 0, none⟩) (cell_lt hb0)).trans hb0
          have hbx1 := (hB1.block _ (Array.getElem?_eq_some_iff.1 ((hBE.block _ (Array.getElem?_eq_some_iff.1 ((HC.out.1.block _ (Array.getElem?_eq_some_iff.1 HQ.out.2.2.2.2.1).1).trans HQ.out.2.2.2.2.1)).1).trans ((HC.out.1.block _ (Array.getElem?_eq_some_iff.1 HQ.out.2.2.2.2.1).1).trans HQ.out.2.2.2.2.1))).1).trans ((hBE.block _ (Array.getElem?_eq_some_iff.1 ((HC.out.1.block _ (Array.getElem?_eq_some_iff.1 HQ.out.2.2.2.2.1).1).trans HQ.out.2.2.2.2.1)).1).trans ((HC.out.1.block _ (Array.getElem?_eq_some_iff.1 HQ.out.2.2.2.2.1).1).trans HQ.out.2.2.2.2.1))
          have hg1 : w.grownBy W1 (some bm) := World.grownBy.trans (World.grownBy.trans (World.grownBy.trans (grownBy_of_below HQ.out.2.2.2.1 _) (grownBy_of_below HC.out.1 _)) (grownBy_of_below hBE _)) (grownBy_of_below hB1 _)
          have hm1 := ((HQ.out.2.2.2.2.2.below HQ.out.2.2.2.1).below HC.out.1).below hBE |>.below hB1
          have hbx6 : (W1.putObj bm o).heap[w.heap.size + 2]? = _ := ((grownBy_putObj' W1 bm o).block _ (Array.getElem?_eq_some_iff.1 hbx1).1 (fun e => by injection e with e; rw [← e, hbx1] at hob; cases hob; cases hoc)).trans hbx1
          have hm6 := hm1.grown (grownBy_putObj' W1 bm o) (fun k e => by cases e; exact ⟨ob, hob, hoc⟩)
          have HZ := Lib.hid (And.intro hc6 (And.intro hE6 (And.intro (World.grownBy.trans hg1 (grownBy_putObj' W1 bm o)) (And.intro hbx6 hm6))))
          obtain ⟨c0, c1⟩ := hc1.cells
          unfold str at hrun
          clear hcE hc1 hc6 hE6 hob hbx1 hg1 hm1 hbx6 hm6 hboxE hBE hB1
          refine wp_region_still_tail 6 (by kernel_rfl) (by kernel_rfl) ?_
          simp only [List.take_succ_cons, List.take_zero, List.drop_succ_cons, List.drop_zero]
          show wpStill Try.prog _ wE.drew (fun a' => wpList _ _ _ _ a' wE.drew) _ _
          rw [← hW1]
          clear hW1
          repeat still_step
          refine wpStill_nil ?_
          go_wp2
          exact hfin _ _ _ _ _ _ _ _ _ _ _ _ _ _ _ _ _ _ _ _ _ _ _ _ _ _ _ _ _ _ _ _ _ _ _ _ _ _ _ _ _ _ _ _ _ _ _ _ _ _ _ _ _ _ _ _ _ _ _ _ _ _ _ _ _ _ _ _ _ _ _ _ _ _ _ _ _ _ _ _ _ _ _ _ _ _ _ _ _ _ (drop l d1) (dropE d1 L) HZ.out.1 HZ.out.2.1 HZ.out.2.2.1 HZ.out.2.2.2.1 HZ.out.2.2.2.2 HN.out.1
      · have hgo := goes_exp hsome
        have hans := learn_goes (x := ⟨d, i, m, mx, age, now⟩) (most := most) (L := L) HR.out HA.out.2.2.2.2.2 HQ.out.1 hgo
        have HN := Lib.hid (And.intro hans hbD)
        clear hF1 hF2 hsome hgo hans hbD
        obtain ⟨⟨d1, i1, m1, mx1, age1, unt1⟩, p1, n1, cc1⟩ := y
        rw [lit_ev]
        go_upto_region 16 with (fail)
        generalize hwE : World.alloc _ _ = wE
        have hboxE : wE.cell? ⟨wD.heap.size, 0, none⟩ = some (.string ⟨d1.toArray⟩) := by rw [← hwE]; simp
        have hBE : Below wC.heap.size wC wE := by rw [← hwE]; exact HN.out.2.alloc HN.out.2.size _
        clear hwE
        have hcE := (HQ.out.2.1.below HC.out.1).below hBE
        obtain ⟨W1, hW1⟩ : ∃ W1, W1 = wE.drew := ⟨_, rfl⟩
        have hB1 : Below wE.heap.size wE W1 := by rw [hW1]; exact ⟨rfl, rfl, rfl, Nat.le_refl _, fun _ _ => rfl⟩
        have hc1 := hcE.below hB1
        obtain ⟨o, hrun, hc6⟩ := hc1.delete d1 0
        have hE6 := HQ.out.2.2.1.drop hc1.key d1
        obtain ⟨ob, hob, hoc⟩ := hc1.isMap
        have hb0 := hboxE
        replace hb0 := (hB1.cell (p := ⟨wD.heap.size, 0, none⟩) (cell_lt hb0)).trans hb0
        have hbx1 := (hB1.block _ (Array.getElem?_eq_some_iff.1 ((hBE.block _ (Array.getElem?_eq_some_iff.1 ((HC.out.1.block _ (Array.getElem?_eq_some_iff.1 HQ.out.2.2.2.2.1).1).trans HQ.out.2.2.2.2.1)).1).trans ((HC.out.1.block _ (Array.getElem?_eq_some_iff.1 HQ.out.2.2.2.2.1).1).trans HQ.out.2.2.2.2.1))).1).trans ((hBE.block _ (Array.getElem?_eq_some_iff.1 ((HC.out.1.block _ (Array.getElem?_eq_some_iff.1 HQ.out.2.2.2.2.1).1).trans HQ.out.2.2.2.2.1)).1).trans ((HC.out.1.block _ (Array.getElem?_eq_some_iff.1 HQ.out.2.2.2.2.1).1).trans HQ.out.2.2.2.2.1))
        have hg1 : w.grownBy W1 (some bm) := World.grownBy.trans (World.grownBy.trans (World.grownBy.trans (grownBy_of_below HQ.out.2.2.2.1 _) (grownBy_of_below HC.out.1 _)) (grownBy_of_below hBE _)) (grownBy_of_below hB1 _)
        have hm1 := ((HQ.out.2.2.2.2.2.below HQ.out.2.2.2.1).below HC.out.1).below hBE |>.below hB1
        have hbx6 : (W1.putObj bm o).heap[w.heap.size + 2]? = _ := ((grownBy_putObj' W1 bm o).block _ (Array.getElem?_eq_some_iff.1 hbx1).1 (fun e => by injection e with e; rw [← e, hbx1] at hob; cases hob; cases hoc)).trans hbx1
        have hm6 := hm1.grown (grownBy_putObj' W1 bm o) (fun k e => by cases e; exact ⟨ob, hob, hoc⟩)
        have HZ := Lib.hid (And.intro hc6 (And.intro hE6 (And.intro (World.grownBy.trans hg1 (grownBy_putObj' W1 bm o)) (And.intro hbx6 hm6))))
        obtain ⟨c0, c1⟩ := hc1.cells
        unfold str at hrun
        clear hcE hc1 hc6 hE6 hob hbx1 hg1 hm1 hbx6 hm6 hboxE hBE hB1
        refine wp_region_still_tail 6 (by kernel_rfl) (by kernel_rfl) ?_
        simp only [List.take_succ_cons, List.take_zero, List.drop_succ_cons, List.drop_zero]
        show wpStill Try.prog _ wE.drew (fun a' => wpList _ _ _ _ a' wE.drew) _ _
        rw [← hW1]
        clear hW1
        repeat still_step
        refine wpStill_nil ?_
        go_wp2
        exact hfin _ _ _ _ _ _ _ _ _ _ _ _ _ _ _ _ _ _ _ _ _ _ _ _ _ _ _ _ _ _ _ _ _ _ _ _ _ _ _ _ _ _ _ _ _ _ _ _ _ _ _ _ _ _ _ _ _ _ _ _ _ _ _ _ _ _ _ _ _ _ _ _ _ _ _ _ _ _ _ _ _ _ _ _ _ _ _ _ _ _ (drop l d1) (dropE d1 L) HZ.out.1 HZ.out.2.1 HZ.out.2.2.1 HZ.out.2.2.2.1 HZ.out.2.2.2.2 HN.out.1
end Go.Proofs.Ytojhledbfaninaa
