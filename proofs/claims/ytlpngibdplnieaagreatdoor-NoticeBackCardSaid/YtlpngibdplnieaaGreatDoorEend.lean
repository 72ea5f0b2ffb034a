/- entry.End. -/
import Derived.Test.YtlpngibdplnieaaGreatDoorMk
namespace Go.Proofs.YtlpngibdplnieaaGreatDoor
open Go Go.RowKit Go.Shelf Go.Sort
attribute [local go_sem] bneI

def EndPost (w : World) (x : EntP) (d : Bytes) (l : List FaP) (due : Int) (e : Ending) (w' : World) : Prop := ∃ sv fv jv, e = .returned (.tuple #[entV (endN x d l due).1 sv fv jv, .int .i64 ((endN x d l due).2 : Int)]) ∧ OwnE w' w.heap.size (endN x d l due).1 sv fv jv
theorem own_zero {w : World} {n : Nat} : OwnE w n zeroN (.slice none 0 0) (.slice none 0 0) (.slice none 0 0) := ⟨⟨rfl, .inl ⟨rfl, rfl⟩⟩, ⟨rfl, .inl ⟨rfl, rfl⟩⟩, ⟨rfl, .inl ⟨rfl, rfl⟩⟩⟩
theorem zeroAll {w W W1 : World} (h : W1.heap[w.heap.size + 2]? = some (.cells zeroC 28 (0, 0))) (hb : Below W1.heap.size W1 W) : W.heap[w.heap.size + 1 + 1]? = some (.cells zeroC 28 (0, 0)) := (hb.block _ (lt_of_cells h)).trans h
theorem setAll_other {W : World} {b k : Nat} (v0 v1 v2 v3 v4 v5 v6 v7 v8 v9 : Value) (h : k ≠ b) : (setAll W b v0 v1 v2 v3 v4 v5 v6 v7 v8 v9).heap[k]? = W.heap[k]? := by
  have s : ∀ (W : World) (o : Nat) (u : Value), (W.setCell ⟨b, o, none⟩ u).heap[k]? = W.heap[k]? := fun W o u => Below.heap_setCell _ _ _ k (fun e => h e)
  unfold setAll
  simp only [s]
theorem endl_start {w W1 w5 w6 : World} {x : EntP} {ws : List Nat} {wv : Value} {p1 p2 p3 : Option Addr} {c1 c2 c3 : Nat} {sv fv jv : Value} (hB1 : Below w.heap.size w W1) (h6 : Below W1.heap.size W1 w6) (h5 : Below W1.heap.size W1 w5) (hsz : W1.heap.size = w.heap.size + 3)
    (hbx : w6.heap[w.heap.size]? = some (.cells (entC x sv fv jv).toArray 28 (0, 0))) (hb3 : W1.heap[w.heap.size + 2]? = some (.cells zeroC 28 (0, 0)))
    (hown : OwnE w6 w5.heap.size x (.slice p1 x.mail.rcpts.length c1) (.slice p2 x.fates.length c2) (.slice p3 x.jobs.length c3)) (ho : w6.ownsRow (W1.heap.size + 1) 3 1 wv ws.length (ws.map natV)) :
    EndL w x w5.heap.size ws wv (.slice p1 x.mail.rcpts.length c1) (.slice p2 x.fates.length c2) (.slice p3 x.jobs.length c3) (setAll w6 w.heap.size (.int .i64 x.id) (.int .i64 x.at_) (.string ⟨x.mail.sender.toArray⟩) (.slice p1 x.mail.rcpts.length c1) (.bool x.mail.req) (.string ⟨x.mail.envid.toArray⟩) (.string ⟨x.mail.text.toArray⟩) (.bool x.plain) (.slice p2 x.fates.length c2) (.slice p3 x.jobs.length c3)) := by
  unfold entC at hbx
  refine ⟨setAll_below (hB1.trans (h6.mono hB1.size)) (Nat.le_refl _) _ _ _ _ _ _ _ _ _ _, setAll_box hbx _ _ _ _ _ _ _ _ _ _, ⟨own_set hown.rc hbx (by decide) _ _ _ _ _ _ _ _ _ _, own_set hown.fa hbx (by decide) _ _ _ _ _ _ _ _ _ _, own_set hown.jo hbx (by decide) _ _ _ _ _ _ _ _ _ _⟩, own_set (ownsRow_less ho (by omega)) hbx (by decide) _ _ _ _ _ _ _ _ _ _, ?_, ?_⟩
  · rw [setAll_other _ _ _ _ _ _ _ _ _ _ (by omega)]
    exact (h6.block _ (lt_of_cells hb3)).trans hb3
  · have := h5.size
    omega
theorem nat_cell {W : World} {base g n c i k : Nat} {T : TypeId} {ws : List Nat} (h : W.ownsRow base T 1 (.slice (some ⟨g, 0, none⟩) n c) n (ws.map natV)) (hk : ws[i]? = some k) : W.cell? ⟨g, i, none⟩ = some (.int .i64 (k : Int)) := by
  obtain ⟨-, -, cur, hc, hs, ht⟩ := own_block h
  have h1 : (ws.map natV)[i]? = some (natV k) := by rw [List.getElem?_map, hk]; rfl
  rw [← ht, List.getElem?_take] at h1
  split at h1
  · simp only [World.cell?, hc]
    rw [← Array.getElem?_toList, h1]
    rfl
  · cases h1
theorem fa_cell {W : World} {base g n c k : Nat} {T : TypeId} {fs : List FaP} (h : W.ownsRow base T 2 (.slice (some ⟨g, 0, none⟩) n c) n (fs.flatMap faE)) (hk : k < fs.length) : ∃ u0 u1, W.cell? ⟨g, k * 2, none⟩ = some u0 ∧ W.cell? ⟨g, k * 2 + 1, none⟩ = some u1 := by
  obtain ⟨-, -, cur, hc, hs, ht⟩ := own_block h
  have hl : (fs.flatMap faE).length = fs.length * 2 := flat_len (k := 2) (enc := faE) (fun _ => rfl) fs
  have h2 : fs.length * 2 ≤ cur.size := by
    have := congrArg List.length ht
    rw [hl, List.length_take] at this
    simp at this
    omega
  refine ⟨cur[k * 2]'(by omega), cur[k * 2 + 1]'(by omega), ?_, ?_⟩
  · simp only [World.cell?, hc]
    exact Array.getElem?_eq_getElem _
  · simp only [World.cell?, hc]
    exact Array.getElem?_eq_getElem _
theorem jo_flat : ∀ (js : List JoP) (k : Nat) (j : JoP), js[k]? = some j → (js.flatMap joE)[k * 3 + 1]? = some (.int .i64 j.tries) ∧ (js.flatMap joE)[k * 3 + 2]? = some (.int .i64 j.due)
  | [], k, j, h => by simp at h
  | y :: ys, 0, j, h => by
    simp at h
    subst h
    simp [joE]
  | y :: ys, k + 1, j, h => by
    have := jo_flat ys k j (by simpa using h)
    rw [show (k + 1) * 3 = k * 3 + 1 + 1 + 1 by omega]
    simpa [joE] using this
theorem jo_cell {W : World} {base g n c k : Nat} {T : TypeId} {js : List JoP} {j : JoP} (h : W.ownsRow base T 3 (.slice (some ⟨g, 0, none⟩) n c) n (js.flatMap joE)) (hk : js[k]? = some j) : W.cell? ⟨g, k * 3 + 1, none⟩ = some (.int .i64 j.tries) ∧ W.cell? ⟨g, k * 3 + 2, none⟩ = some (.int .i64 j.due) := by
  obtain ⟨-, -, cur, hc, hs, ht⟩ := own_block h
  obtain ⟨h1, h2⟩ := jo_flat js k j hk
  rw [← ht, List.getElem?_take] at h1 h2
  constructor
  · split at h1
    · simp only [World.cell?, hc]
      rw [← Array.getElem?_toList, h1]
      rfl
    · cases h1
  · split at h2
    · simp only [World.cell?, hc]
      rw [← Array.getElem?_toList, h2]
      rfl
    · cases h2
set_option maxRecDepth 100000 in
set_option maxHeartbeats 16000000 in
theorem end_no (x : EntP) (d : Bytes) (l : List FaP) (due : Int) (sv fv jv lv : Value) (w : World) (hx : EntAt w x sv fv jv) (hs : ShortE x) (hl : RowK 2 faE w lv l) (hln : l.length ≤ 1000000) (hlt : ∀ f ∈ l, f.2.length ≤ 1000000)
    (htr : ∀ j ∈ x.jobs, -9223372036854775808 ≤ j.tries ∧ j.tries ≤ 9223372036854775807) (hE : Env w) (hm : (endN x d l due).2 ≠ 0) :
    Calls Tryz.prog 26 #[entV x sv fv jv, .string ⟨d.toArray⟩, lv, .int .i64 due] w fun e w' => EndPost w x d l due e w' ∧ Below w.heap.size w w' := by
  have HM0 := Lib.hid hm
  clear hm
  obtain ⟨p, c, rfl, -⟩ := hx.rc.sh
  obtain ⟨q, cc, rfl, -⟩ := hx.fa.sh
  obtain ⟨r, rr, rfl, -⟩ := hx.jo.sh
  obtain ⟨y, yc, rfl, -⟩ := hl.sh
  obtain ⟨W1, hW1⟩ : ∃ W1, W1 = ((w.alloc (.cells (entC x (.slice p x.mail.rcpts.length c) (.slice q x.fates.length cc) (.slice r x.jobs.length rr)).toArray 28)).alloc (.cells #[.string ⟨d.toArray⟩] 9)).alloc (.cells zeroC 28) := ⟨_, rfl⟩
  have hB1 : Below w.heap.size w W1 := by rw [hW1]; exact (((Below.refl _ w).alloc (Nat.le_refl _) _).alloc (by simp) _).alloc (by simp; omega) _
  have hb1 : W1.heap[w.heap.size]? = some (.cells (entC x (.slice p x.mail.rcpts.length c) (.slice q x.fates.length cc) (.slice r x.jobs.length rr)).toArray 28 (0, 0)) := by rw [hW1]; exact (ha_ne (by simp; omega)).trans ((ha_ne (by simp)).trans (ha_eq rfl))
  have hb2 : W1.heap[w.heap.size + 1]? = some (.cells #[.string ⟨d.toArray⟩] 9 (0, 0)) := by rw [hW1]; exact (ha_ne (by simp)).trans (ha_eq (by simp))
  have hb3 : W1.heap[w.heap.size + 2]? = some (.cells zeroC 28 (0, 0)) := by rw [hW1]; exact ha_eq (by simp)
  have hsz : W1.heap.size = w.heap.size + 3 := by rw [hW1]; simp
  have hd1 : W1.cell? ⟨w.heap.size + 1, 0, none⟩ = some (.string ⟨d.toArray⟩) := by simp [World.cell?, hb2]
  have hWt := waits_any x d _ _ _ W1 (hx.below hB1) hs (hE.keep hB1)
  unfold entV at hWt ⊢
  have HX := Lib.hid (And.intro hx (And.intro hs (And.intro hl (And.intro hln (And.intro hlt (And.intro htr hE))))))
  have HW := Lib.hid (And.intro hB1 (And.intro hb1 (And.intro hb2 (And.intro hb3 (And.intro hsz hd1)))))
  unfold entC at hWt hW1 hb1 ⊢
  obtain ⟨x0, x1, x2, x3, x4, x5, x6, x7, x8, x9⟩ := eboxAll hb1
  clear hx hs hl hln hlt htr hE hB1 hb1 hb2 hb3 hsz
  go_enter Tryz.func26, Tryz.ntmps26
  go_upto_region 1 with (fail)
  unfold zeroC at hW1
  rw [← hW1]
  clear hW1
  go_wp2_with fail
  refine hWt.mono ?_
  rintro e w2 ⟨⟨wv, rfl, hwo⟩, hb2⟩
  clear hWt
  obtain ⟨wp, wc, rfl⟩ := own_shape hwo
  have hIx := ixJob_any 69 enterEnd #[.pointer (some ⟨w.heap.size + 1, 0, none⟩)] (fun j : JoP => decide (j.dom = d)) x.jobs (.slice r x.jobs.length rr) w2 ((HX.out.1.jo.below HW.out.1).below hb2) HX.out.2.1.jobs
    fun j _ W hW => endEq_any d _ j W (((hb2.trans (hW.mono hb2.size)).cell (p := ⟨_, _, none⟩) (cell_lt hd1)).trans hd1)
  have H2 := Lib.hid (And.intro hwo hb2)
  have x9' := ((H2.out.2).cell (p := ⟨_, _, none⟩) (cell_lt x9)).trans x9
  clear hwo hb2 hd1
  go_wp2_with fail
  refine hIx.mono ?_
  rintro e w3 ⟨hix, hb3⟩
  have H3 := Lib.hid (H2.out.2.trans (hb3.mono H2.out.2.size))
  have hwo3 := H2.out.1.kept (grownBy_of_below hb3 none) (Classical.em _)
  have HO := Lib.hid hwo3
  clear hIx hb3 hwo3 x9'
  have HIX := ix_jobAt hix
  clear hix
  obtain ⟨ws, hws⟩ : ∃ ws, ws = waitsM x d := ⟨_, rfl⟩
  rw [← hws] at HO H2 ⊢
  obtain ⟨n, hn⟩ : ∃ n, n = ws.length := ⟨_, rfl⟩
  rw [← hn] at HO H2 ⊢
  have HN := Lib.hid (And.intro hws hn)
  clear hws hn
  rcases HIX with ⟨rfl, hj⟩ | ⟨k, hk, rfl, hj⟩
  · have HEQ := Lib.hid (show endN x d l due = (zeroN, 5) by unfold endN; rw [hj])
    clear hj
    have hzx := zeroAll HW.out.2.2.2.1 H3.out
    have HZx := Lib.hid hzx
    unfold zeroC at hzx
    obtain ⟨g0, g1, g2, g3, g4, g5, g6, g7, g8, g9⟩ := eboxAll hzx
    have f0 := efroz hzx 0
    have f1 := efroz hzx 1
    have f2 := efroz hzx 2
    have f3 := efroz hzx 3
    have f4 := efroz hzx 4
    have f5 := efroz hzx 5
    have f6 := efroz hzx 6
    have f7 := efroz hzx 7
    have f8 := efroz hzx 8
    have f9 := efroz hzx 9
    clear hzx
    go_wp2
    clear g0 g1 g2 g3 g4 g5 g6 g7 g8 g9 f0 f1 f2 f3 f4 f5 f6 f7 f8 f9
    have hb0 := HZx.out
    have hB7 := setAll_below (HW.out.1.trans (H3.out.mono HW.out.1.size)) (show w.heap.size ≤ w.heap.size + 1 + 1 by omega) (.int .i64 0) (.int .i64 0) (.string ⟨#[]⟩) (.slice none 0 0) (.bool false) (.string ⟨#[]⟩) (.string ⟨#[]⟩) (.bool false) (.slice none 0 0) (.slice none 0 0)
    unfold zeroC at hb0
    have hb7 := setAll_box hb0 (.int .i64 0) (.int .i64 0) (.string ⟨#[]⟩) (.slice none 0 0) (.bool false) (.string ⟨#[]⟩) (.string ⟨#[]⟩) (.bool false) (.slice none 0 0) (.slice none 0 0)
    clear hb0
    unfold setAll at hb7 hB7
    generalize hW7 : World.setCell (World.setCell (World.setCell (World.setCell (World.setCell (World.setCell (World.setCell (World.setCell (World.setCell (World.setCell w3 _ _) _ _) _ _) _ _) _ _) _ _) _ _) _ _) _ _) _ _ = W7 at hb7 hB7 ⊢
    clear hW7
    obtain ⟨t0, t1, t2, t3, t4, t5, t6, t7, t8, t9⟩ := eboxAll hb7
    clear hb7
    refine bodyPost_ret (v := .tuple #[entV zeroN (.slice none 0 0) (.slice none 0 0) (.slice none 0 0), .int .i64 5]) (by simp [results, Tryz.results26, go_sem, t0, t1, t2, t3, t4, t5, t6, t7, t8, t9, entV, entC, zeroN]) rfl ⟨⟨_, _, _, by rw [HEQ.out]; rfl, by rw [HEQ.out]; exact own_zero⟩, hB7⟩
  · have hki : ¬ (k : Int) < 0 := by omega
    cases n with
    | zero =>
      have hw0 : waitsM x d = [] := by rw [← HN.out.1]; exact List.eq_nil_of_length_eq_zero HN.out.2.symm
      have HEQ := Lib.hid (show endN x d l due = (zeroN, 5) by unfold endN; rw [hj]; dsimp only; rw [if_pos hw0])
      clear hj hw0
      have hzx := zeroAll HW.out.2.2.2.1 H3.out
      have HZx := Lib.hid hzx
      unfold zeroC at hzx
      obtain ⟨g0, g1, g2, g3, g4, g5, g6, g7, g8, g9⟩ := eboxAll hzx
      have f0 := efroz hzx 0
      have f1 := efroz hzx 1
      have f2 := efroz hzx 2
      have f3 := efroz hzx 3
      have f4 := efroz hzx 4
      have f5 := efroz hzx 5
      have f6 := efroz hzx 6
      have f7 := efroz hzx 7
      have f8 := efroz hzx 8
      have f9 := efroz hzx 9
      clear hzx
      go_wp2
      clear g0 g1 g2 g3 g4 g5 g6 g7 g8 g9 f0 f1 f2 f3 f4 f5 f6 f7 f8 f9
      have hb0 := HZx.out
      have hB7 := setAll_below (HW.out.1.trans (H3.out.mono HW.out.1.size)) (show w.heap.size ≤ w.heap.size + 1 + 1 by omega) (.int .i64 0) (.int .i64 0) (.string ⟨#[]⟩) (.slice none 0 0) (.bool false) (.string ⟨#[]⟩) (.string ⟨#[]⟩) (.bool false) (.slice none 0 0) (.slice none 0 0)
      unfold zeroC at hb0
      have hb7 := setAll_box hb0 (.int .i64 0) (.int .i64 0) (.string ⟨#[]⟩) (.slice none 0 0) (.bool false) (.string ⟨#[]⟩) (.string ⟨#[]⟩) (.bool false) (.slice none 0 0) (.slice none 0 0)
      clear hb0
      unfold setAll at hb7 hB7
      generalize hW7 : World.setCell (World.setCell (World.setCell (World.setCell (World.setCell (World.setCell (World.setCell (World.setCell (World.setCell (World.setCell w3 _ _) _ _) _ _) _ _) _ _) _ _) _ _) _ _) _ _) _ _ = W7 at hb7 hB7 ⊢
      clear hW7
      obtain ⟨t0, t1, t2, t3, t4, t5, t6, t7, t8, t9⟩ := eboxAll hb7
      clear hb7
      refine bodyPost_ret (v := .tuple #[entV zeroN (.slice none 0 0) (.slice none 0 0) (.slice none 0 0), .int .i64 5]) (by simp [results, Tryz.results26, go_sem, t0, t1, t2, t3, t4, t5, t6, t7, t8, t9, entV, entC, zeroN]) rfl ⟨⟨_, _, _, by rw [HEQ.out]; rfl, by rw [HEQ.out]; exact own_zero⟩, hB7⟩
    | succ n =>
      have hw0 : waitsM x d ≠ [] := by
        intro e
        have h1 := HN.out.2
        rw [HN.out.1, e] at h1
        cases h1
      obtain ⟨N, hNN⟩ : ∃ N, N = n + 1 := ⟨_, rfl⟩
      rw [← hNN] at HO H2 HN ⊢
      have hN0 : ¬ (N : Int) = 0 := by omega
      have hN1 : ((N : Int) == 0) = false := by simpa using hN0
      have hN2 : decide ((N : Int) = 0) = false := by simpa using hN0
      have hN3 : decide (N = 0) = false := by simp; omega
      have hN4 : ¬ N = 0 := by omega
      clear hNN
      have hE0 : endN x d l due = if l.length ≠ (waitsM x d).length ∨ clockB due = false ∨ l.any wrongB = true then (zeroN, 4) else (endX x k (waitsM x d) l due, 0) := by unfold endN; rw [hj]; dsimp only; rw [if_neg hw0]
      rw [← HN.out.1, ← HN.out.2] at hE0
      have HE0 := Lib.hid hE0
      have HJ := Lib.hid (And.intro hj hw0)
      clear hj hw0 hE0
      by_cases hlen : l.length = N
      · have hl1 : ((l.length : Int) == (N : Int)) = true := by simp [hlen]
        have hl2 : decide ((l.length : Int) = (N : Int)) = true := by simp [hlen]
        have hl3 : decide (l.length = N) = true := by simp [hlen]
        have HLEN := Lib.hid hlen
        clear hlen
        have hcl := clock_any due w3
        go_wp2_with fail
        refine hcl.mono ?_
        rintro e w4 ⟨rfl, hb4⟩
        clear hcl
        have H4 := Lib.hid (H3.out.trans (hb4.mono H3.out.size))
        have hHf := hasFate_any 56 enterWrong #[] wrongB l (.slice y l.length yc) w4 ((HX.out.2.2.1.below HW.out.1).below H4.out) HX.out.2.2.2.1 (fun f hf W' _ => wrong_any f W' (by have := HX.out.2.2.2.2.1 f hf; unfold maxLen; omega))
        have ho4 := HO.out.kept (grownBy_of_below hb4 none) (Classical.em _)
        have HO4 := Lib.hid ho4
        clear ho4 hb4
        cases hc : clockB due with
        | false =>
          have HEQ := Lib.hid (show endN x d l due = (zeroN, 4) by rw [HE0.out, if_pos (.inr (.inl hc))])
          clear hc hHf
          have hzx := zeroAll HW.out.2.2.2.1 H4.out
          have HZx := Lib.hid hzx
          unfold zeroC at hzx
          obtain ⟨g0, g1, g2, g3, g4, g5, g6, g7, g8, g9⟩ := eboxAll hzx
          have f0 := efroz hzx 0
          have f1 := efroz hzx 1
          have f2 := efroz hzx 2
          have f3 := efroz hzx 3
          have f4 := efroz hzx 4
          have f5 := efroz hzx 5
          have f6 := efroz hzx 6
          have f7 := efroz hzx 7
          have f8 := efroz hzx 8
          have f9 := efroz hzx 9
          clear hzx
          go_wp2
          clear g0 g1 g2 g3 g4 g5 g6 g7 g8 g9 f0 f1 f2 f3 f4 f5 f6 f7 f8 f9
          have hb0 := HZx.out
          have hB7 := setAll_below (HW.out.1.trans (H4.out.mono HW.out.1.size)) (show w.heap.size ≤ w.heap.size + 1 + 1 by omega) (.int .i64 0) (.int .i64 0) (.string ⟨#[]⟩) (.slice none 0 0) (.bool false) (.string ⟨#[]⟩) (.string ⟨#[]⟩) (.bool false) (.slice none 0 0) (.slice none 0 0)
          unfold zeroC at hb0
          have hb7 := setAll_box hb0 (.int .i64 0) (.int .i64 0) (.string ⟨#[]⟩) (.slice none 0 0) (.bool false) (.string ⟨#[]⟩) (.string ⟨#[]⟩) (.bool false) (.slice none 0 0) (.slice none 0 0)
          clear hb0
          unfold setAll at hb7 hB7
          generalize hW7 : World.setCell (World.setCell (World.setCell (World.setCell (World.setCell (World.setCell (World.setCell (World.setCell (World.setCell (World.setCell w4 _ _) _ _) _ _) _ _) _ _) _ _) _ _) _ _) _ _) _ _ = W7 at hb7 hB7 ⊢
          clear hW7
          obtain ⟨t0, t1, t2, t3, t4, t5, t6, t7, t8, t9⟩ := eboxAll hb7
          clear hb7
          refine bodyPost_ret (v := .tuple #[entV zeroN (.slice none 0 0) (.slice none 0 0) (.slice none 0 0), .int .i64 4]) (by simp [results, Tryz.results26, go_sem, t0, t1, t2, t3, t4, t5, t6, t7, t8, t9, entV, entC, zeroN]) rfl ⟨⟨_, _, _, by rw [HEQ.out]; rfl, by rw [HEQ.out]; exact own_zero⟩, hB7⟩
        | true =>
          go_wp2_with fail
          refine hHf.mono ?_
          rintro e w5 ⟨rfl, hb5⟩
          clear hHf
          have H5 := Lib.hid (H4.out.trans (hb5.mono H4.out.size))
          have ho5 := HO4.out.kept (grownBy_of_below hb5 none) (Classical.em _)
          have HO5 := Lib.hid ho5
          clear ho5 hb5
          cases hw : l.any wrongB with
          | true =>
            have HEQ := Lib.hid (show endN x d l due = (zeroN, 4) by rw [HE0.out, if_pos (.inr (.inr hw))])
            clear hw hc
            have hzx := zeroAll HW.out.2.2.2.1 H5.out
            have HZx := Lib.hid hzx
            unfold zeroC at hzx
            obtain ⟨g0, g1, g2, g3, g4, g5, g6, g7, g8, g9⟩ := eboxAll hzx
            have f0 := efroz hzx 0
            have f1 := efroz hzx 1
            have f2 := efroz hzx 2
            have f3 := efroz hzx 3
            have f4 := efroz hzx 4
            have f5 := efroz hzx 5
            have f6 := efroz hzx 6
            have f7 := efroz hzx 7
            have f8 := efroz hzx 8
            have f9 := efroz hzx 9
            clear hzx
            go_wp2
            clear g0 g1 g2 g3 g4 g5 g6 g7 g8 g9 f0 f1 f2 f3 f4 f5 f6 f7 f8 f9
            have hb0 := HZx.out
            have hB7 := setAll_below (HW.out.1.trans (H5.out.mono HW.out.1.size)) (show w.heap.size ≤ w.heap.size + 1 + 1 by omega) (.int .i64 0) (.int .i64 0) (.string ⟨#[]⟩) (.slice none 0 0) (.bool false) (.string ⟨#[]⟩) (.string ⟨#[]⟩) (.bool false) (.slice none 0 0) (.slice none 0 0)
            unfold zeroC at hb0
            have hb7 := setAll_box hb0 (.int .i64 0) (.int .i64 0) (.string ⟨#[]⟩) (.slice none 0 0) (.bool false) (.string ⟨#[]⟩) (.string ⟨#[]⟩) (.bool false) (.slice none 0 0) (.slice none 0 0)
            clear hb0
            unfold setAll at hb7 hB7
            generalize hW7 : World.setCell (World.setCell (World.setCell (World.setCell (World.setCell (World.setCell (World.setCell (World.setCell (World.setCell (World.setCell w5 _ _) _ _) _ _) _ _) _ _) _ _) _ _) _ _) _ _) _ _ = W7 at hb7 hB7 ⊢
            clear hW7
            obtain ⟨t0, t1, t2, t3, t4, t5, t6, t7, t8, t9⟩ := eboxAll hb7
            clear hb7
            refine bodyPost_ret (v := .tuple #[entV zeroN (.slice none 0 0) (.slice none 0 0) (.slice none 0 0), .int .i64 4]) (by simp [results, Tryz.results26, go_sem, t0, t1, t2, t3, t4, t5, t6, t7, t8, t9, entV, entC, zeroN]) rfl ⟨⟨_, _, _, by rw [HEQ.out]; rfl, by rw [HEQ.out]; exact own_zero⟩, hB7⟩
          | false =>
            have HEQ := Lib.hid (show endN x d l due = (endX x k ws l due, 0) by rw [HE0.out, if_neg (by simp [HLEN.out, hc, hw])])
            clear hw hc
            exact absurd (by rw [HEQ.out]) HM0.out
      · have hl0 : ¬ (l.length : Int) = (N : Int) := by omega
        have hl1 : ((l.length : Int) == (N : Int)) = false := beq_eq_false_iff_ne.2 hl0
        have hl2 : decide ((l.length : Int) = (N : Int)) = false := decide_eq_false hl0
        have hl3 : decide (l.length = N) = false := by simpa using hlen
        have HEQ := Lib.hid (show endN x d l due = (zeroN, 4) by rw [HE0.out, if_pos (.inl hlen)])
        have hzx := zeroAll HW.out.2.2.2.1 H3.out
        have HZx := Lib.hid hzx
        unfold zeroC at hzx
        obtain ⟨g0, g1, g2, g3, g4, g5, g6, g7, g8, g9⟩ := eboxAll hzx
        have f0 := efroz hzx 0
        have f1 := efroz hzx 1
        have f2 := efroz hzx 2
        have f3 := efroz hzx 3
        have f4 := efroz hzx 4
        have f5 := efroz hzx 5
        have f6 := efroz hzx 6
        have f7 := efroz hzx 7
        have f8 := efroz hzx 8
        have f9 := efroz hzx 9
        clear hzx
        go_wp2
        clear g0 g1 g2 g3 g4 g5 g6 g7 g8 g9 f0 f1 f2 f3 f4 f5 f6 f7 f8 f9
        have hb0 := HZx.out
        have hB7 := setAll_below (HW.out.1.trans (H3.out.mono HW.out.1.size)) (show w.heap.size ≤ w.heap.size + 1 + 1 by omega) (.int .i64 0) (.int .i64 0) (.string ⟨#[]⟩) (.slice none 0 0) (.bool false) (.string ⟨#[]⟩) (.string ⟨#[]⟩) (.bool false) (.slice none 0 0) (.slice none 0 0)
        unfold zeroC at hb0
        have hb7 := setAll_box hb0 (.int .i64 0) (.int .i64 0) (.string ⟨#[]⟩) (.slice none 0 0) (.bool false) (.string ⟨#[]⟩) (.string ⟨#[]⟩) (.bool false) (.slice none 0 0) (.slice none 0 0)
        clear hb0
        unfold setAll at hb7 hB7
        generalize hW7 : World.setCell (World.setCell (World.setCell (World.setCell (World.setCell (World.setCell (World.setCell (World.setCell (World.setCell (World.setCell w3 _ _) _ _) _ _) _ _) _ _) _ _) _ _) _ _) _ _) _ _ = W7 at hb7 hB7 ⊢
        clear hW7
        obtain ⟨t0, t1, t2, t3, t4, t5, t6, t7, t8, t9⟩ := eboxAll hb7
        clear hb7
        refine bodyPost_ret (v := .tuple #[entV zeroN (.slice none 0 0) (.slice none 0 0) (.slice none 0 0), .int .i64 4]) (by simp [results, Tryz.results26, go_sem, t0, t1, t2, t3, t4, t5, t6, t7, t8, t9, entV, entC, zeroN]) rfl ⟨⟨_, _, _, by rw [HEQ.out]; rfl, by rw [HEQ.out]; exact own_zero⟩, hB7⟩

set_option maxRecDepth 100000 in
set_option maxHeartbeats 16000000 in
theorem end_yes (x : EntP) (d : Bytes) (l : List FaP) (due : Int) (sv fv jv lv : Value) (w : World) (hx : EntAt w x sv fv jv) (hs : ShortE x) (hl : RowK 2 faE w lv l) (hln : l.length ≤ 1000000) (hlt : ∀ f ∈ l, f.2.length ≤ 1000000)
    (htr : ∀ j ∈ x.jobs, -9223372036854775808 ≤ j.tries ∧ j.tries ≤ 9223372036854775807) (hE : Env w) (hm : (endN x d l due).2 = 0) :
    Calls Tryz.prog 26 #[entV x sv fv jv, .string ⟨d.toArray⟩, lv, .int .i64 due] w fun e w' => EndPost w x d l due e w' ∧ Below w.heap.size w w' := by
  have HM0 := Lib.hid hm
  clear hm
  obtain ⟨p, c, rfl, -⟩ := hx.rc.sh
  obtain ⟨q, cc, rfl, -⟩ := hx.fa.sh
  obtain ⟨r, rr, rfl, -⟩ := hx.jo.sh
  obtain ⟨y, yc, rfl, -⟩ := hl.sh
  obtain ⟨W1, hW1⟩ : ∃ W1, W1 = ((w.alloc (.cells (entC x (.slice p x.mail.rcpts.length c) (.slice q x.fates.length cc) (.slice r x.jobs.length rr)).toArray 28)).alloc (.cells #[.string ⟨d.toArray⟩] 9)).alloc (.cells zeroC 28) := ⟨_, rfl⟩
  have hB1 : Below w.heap.size w W1 := by rw [hW1]; exact (((Below.refl _ w).alloc (Nat.le_refl _) _).alloc (by simp) _).alloc (by simp; omega) _
  have hb1 : W1.heap[w.heap.size]? = some (.cells (entC x (.slice p x.mail.rcpts.length c) (.slice q x.fates.length cc) (.slice r x.jobs.length rr)).toArray 28 (0, 0)) := by rw [hW1]; exact (ha_ne (by simp; omega)).trans ((ha_ne (by simp)).trans (ha_eq rfl))
  have hb2 : W1.heap[w.heap.size + 1]? = some (.cells #[.string ⟨d.toArray⟩] 9 (0, 0)) := by rw [hW1]; exact (ha_ne (by simp)).trans (ha_eq (by simp))
  have hb3 : W1.heap[w.heap.size + 2]? = some (.cells zeroC 28 (0, 0)) := by rw [hW1]; exact ha_eq (by simp)
  have hsz : W1.heap.size = w.heap.size + 3 := by rw [hW1]; simp
  have hd1 : W1.cell? ⟨w.heap.size + 1, 0, none⟩ = some (.string ⟨d.toArray⟩) := by simp [World.cell?, hb2]
  have hWt := waits_any x d _ _ _ W1 (hx.below hB1) hs (hE.keep hB1)
  unfold entV at hWt ⊢
  have HX := Lib.hid (And.intro hx (And.intro hs (And.intro hl (And.intro hln (And.intro hlt (And.intro htr hE))))))
  have HW := Lib.hid (And.intro hB1 (And.intro hb1 (And.intro hb2 (And.intro hb3 (And.intro hsz hd1)))))
  unfold entC at hWt hW1 hb1 ⊢
  obtain ⟨x0, x1, x2, x3, x4, x5, x6, x7, x8, x9⟩ := eboxAll hb1
  clear hx hs hl hln hlt htr hE hB1 hb1 hb2 hb3 hsz
  go_enter Tryz.func26, Tryz.ntmps26
  go_upto_region 1 with (fail)
  unfold zeroC at hW1
  rw [← hW1]
  clear hW1
  go_wp2_with fail
  refine hWt.mono ?_
  rintro e w2 ⟨⟨wv, rfl, hwo⟩, hb2⟩
  clear hWt
  obtain ⟨wp, wc, rfl⟩ := own_shape hwo
  have hIx := ixJob_any 69 enterEnd #[.pointer (some ⟨w.heap.size + 1, 0, none⟩)] (fun j : JoP => decide (j.dom = d)) x.jobs (.slice r x.jobs.length rr) w2 ((HX.out.1.jo.below HW.out.1).below hb2) HX.out.2.1.jobs
    fun j _ W hW => endEq_any d _ j W (((hb2.trans (hW.mono hb2.size)).cell (p := ⟨_, _, none⟩) (cell_lt hd1)).trans hd1)
  have H2 := Lib.hid (And.intro hwo hb2)
  have x9' := ((H2.out.2).cell (p := ⟨_, _, none⟩) (cell_lt x9)).trans x9
  clear hwo hb2 hd1
  go_wp2_with fail
  refine hIx.mono ?_
  rintro e w3 ⟨hix, hb3⟩
  have H3 := Lib.hid (H2.out.2.trans (hb3.mono H2.out.2.size))
  have hwo3 := H2.out.1.kept (grownBy_of_below hb3 none) (Classical.em _)
  have HO := Lib.hid hwo3
  clear hIx hb3 hwo3 x9'
  have HIX := ix_jobAt hix
  clear hix
  obtain ⟨ws, hws⟩ : ∃ ws, ws = waitsM x d := ⟨_, rfl⟩
  rw [← hws] at HO H2 ⊢
  obtain ⟨n, hn⟩ : ∃ n, n = ws.length := ⟨_, rfl⟩
  rw [← hn] at HO H2 ⊢
  have HN := Lib.hid (And.intro hws hn)
  clear hws hn
  rcases HIX with ⟨rfl, hj⟩ | ⟨k, hk, rfl, hj⟩
  · have HEQ := Lib.hid (show endN x d l due = (zeroN, 5) by unfold endN; rw [hj])
    clear hj
    exact absurd HM0.out (by rw [HEQ.out]; decide)
  · have hki : ¬ (k : Int) < 0 := by omega
    cases n with
    | zero =>
      have hw0 : waitsM x d = [] := by rw [← HN.out.1]; exact List.eq_nil_of_length_eq_zero HN.out.2.symm
      have HEQ := Lib.hid (show endN x d l due = (zeroN, 5) by unfold endN; rw [hj]; dsimp only; rw [if_pos hw0])
      clear hj hw0
      exact absurd HM0.out (by rw [HEQ.out]; decide)
    | succ n =>
      have hw0 : waitsM x d ≠ [] := by
        intro e
        have h1 := HN.out.2
        rw [HN.out.1, e] at h1
        cases h1
      obtain ⟨N, hNN⟩ : ∃ N, N = n + 1 := ⟨_, rfl⟩
      rw [← hNN] at HO H2 HN ⊢
      have hN0 : ¬ (N : Int) = 0 := by omega
      have hN1 : ((N : Int) == 0) = false := by simpa using hN0
      have hN2 : decide ((N : Int) = 0) = false := by simpa using hN0
      have hN3 : decide (N = 0) = false := by simp; omega
      have hN4 : ¬ N = 0 := by omega
      clear hNN
      have hE0 : endN x d l due = if l.length ≠ (waitsM x d).length ∨ clockB due = false ∨ l.any wrongB = true then (zeroN, 4) else (endX x k (waitsM x d) l due, 0) := by unfold endN; rw [hj]; dsimp only; rw [if_neg hw0]
      rw [← HN.out.1, ← HN.out.2] at hE0
      have HE0 := Lib.hid hE0
      have HJ := Lib.hid (And.intro hj hw0)
      clear hj hw0 hE0
      by_cases hlen : l.length = N
      · have hl1 : ((l.length : Int) == (N : Int)) = true := by simp [hlen]
        have hl2 : decide ((l.length : Int) = (N : Int)) = true := by simp [hlen]
        have hl3 : decide (l.length = N) = true := by simp [hlen]
        have HLEN := Lib.hid hlen
        clear hlen
        have hcl := clock_any due w3
        go_wp2_with fail
        refine hcl.mono ?_
        rintro e w4 ⟨rfl, hb4⟩
        clear hcl
        have H4 := Lib.hid (H3.out.trans (hb4.mono H3.out.size))
        have hHf := hasFate_any 56 enterWrong #[] wrongB l (.slice y l.length yc) w4 ((HX.out.2.2.1.below HW.out.1).below H4.out) HX.out.2.2.2.1 (fun f hf W' _ => wrong_any f W' (by have := HX.out.2.2.2.2.1 f hf; unfold maxLen; omega))
        have ho4 := HO.out.kept (grownBy_of_below hb4 none) (Classical.em _)
        have HO4 := Lib.hid ho4
        clear ho4 hb4
        cases hc : clockB due with
        | false =>
          have HEQ := Lib.hid (show endN x d l due = (zeroN, 4) by rw [HE0.out, if_pos (.inr (.inl hc))])
          clear hc hHf
          exact absurd HM0.out (by rw [HEQ.out]; decide)
        | true =>
          go_wp2_with fail
          refine hHf.mono ?_
          rintro e w5 ⟨rfl, hb5⟩
          clear hHf
          have H5 := Lib.hid (H4.out.trans (hb5.mono H4.out.size))
          have ho5 := HO4.out.kept (grownBy_of_below hb5 none) (Classical.em _)
          have HO5 := Lib.hid ho5
          clear ho5 hb5
          cases hw : l.any wrongB with
          | true =>
            have HEQ := Lib.hid (show endN x d l due = (zeroN, 4) by rw [HE0.out, if_pos (.inr (.inr hw))])
            clear hw hc
            exact absurd HM0.out (by rw [HEQ.out]; decide)
          | false =>
            have HEQ := Lib.hid (show endN x d l due = (endX x k ws l due, 0) by rw [HE0.out, if_neg (by simp [HLEN.out, hc, hw])])
            clear hw hc
            have y := eboxAll ((H5.out.block _ (lt_of_cells HW.out.2.1)).trans HW.out.2.1)
            unfold entC at y
            obtain ⟨y0, y1, y2, y3, y4, y5, y6, y7, y8, y9⟩ := y
            have hCp := copyE_any x (.slice p x.mail.rcpts.length c) (.slice q x.fates.length cc) (.slice r x.jobs.length rr) w5 ((HX.out.1.below HW.out.1).below H5.out) HX.out.2.1
            unfold entV entC at hCp
            go_wp2_with fail
            refine hCp.mono ?_
            rintro e w6 ⟨⟨sv1, fv1, jv1, rfl, hown⟩, hb6⟩
            clear hCp y0 y1 y2 y3 y4 y5 y6 y7 y8 y9
            have H6 := Lib.hid (H5.out.trans (hb6.mono H5.out.size))
            obtain ⟨p1, c1, rfl⟩ := own_shape hown.rc
            obtain ⟨p2, c2, rfl⟩ := own_shape hown.fa
            obtain ⟨p3, c3, rfl⟩ := own_shape hown.jo
            have ho6 := HO5.out.kept (grownBy_of_below hb6 none) (Classical.em _)
            have hbx := (H6.out.block _ (lt_of_cells HW.out.2.1)).trans HW.out.2.1
            have hL := endl_start (ws := ws) HW.out.1 H6.out H5.out HW.out.2.2.2.2.1 hbx HW.out.2.2.2.1 hown (by rw [← HN.out.2]; exact ho6)
            have HL := Lib.hid hL
            clear hown ho6 hb6 hL
            unfold entC at hbx
            obtain ⟨y0, y1, y2, y3, y4, y5, y6, y7, y8, y9⟩ := eboxAll hbx
            have f0 := efroz hbx 0
            have f1 := efroz hbx 1
            have f2 := efroz hbx 2
            have f3 := efroz hbx 3
            have f4 := efroz hbx 4
            have f5 := efroz hbx 5
            have f6 := efroz hbx 6
            have f7 := efroz hbx 7
            have f8 := efroz hbx 8
            have f9 := efroz hbx 9
            clear hbx
            unfold entV entC
            go_wp2_with fail
            clear y0 y1 y2 y3 y4 y5 y6 y7 y8 y9 f0 f1 f2 f3 f4 f5 f6 f7 f8 f9
            have hL := HL.out
            clear HL
            unfold setAll at hL
            generalize hW7 : World.setCell (World.setCell (World.setCell (World.setCell (World.setCell (World.setCell (World.setCell (World.setCell (World.setCell (World.setCell w6 _ _) _ _) _ _) _ _) _ _) _ _) _ _) _ _) _ _) _ _ = W7 at hL ⊢
            clear hW7
            have HL := Lib.hid hL
            clear hL
            go_loopw [12, 13, 51] (fun _ _ s51 wr => ∃ (i : Nat), s51 = .int .i64 (i : Int) ∧ i ≤ l.length ∧ EndL w { x with fates := putF x.fates ws l i } w5.heap.size ws (.slice wp N wc) (.slice p1 x.mail.rcpts.length c1) (.slice p2 x.fates.length c2) (.slice p3 x.jobs.length c3) wr) (fun _ _ s51 _ => l.length - natI s51)
            case atStart => exact ⟨0, rfl, Nat.zero_le _, HL.out⟩
            case round =>
              obtain ⟨i, rfl, hi, hM⟩ := hrel
              have HM := Lib.hid hM
              clear hM
              by_cases hlast : i < l.length
              · have hli : (i : Int) < (l.length : Int) := by omega
                obtain ⟨b, o, rfl, hc⟩ := (HX.out.2.2.1.below HM.out.below).at i hlast
                have hc' := hc i hlast
                have y0 : wr.cell? ⟨b, o + i * 2, none⟩ = some (.int .u8 (l[i].1 : Int)) := hc' 0 _ rfl
                have y1 : wr.cell? ⟨b, o + i * 2 + 1, none⟩ = some (.string ⟨l[i].2.toArray⟩) := hc' 1 _ rfl
                clear hc hc'
                have hfi : l[i]? = some l[i] := List.getElem?_eq_getElem hlast
                obtain ⟨f, hf⟩ : ∃ f, f = l[i] := ⟨_, rfl⟩
                rw [← hf] at y0 y1 hfi
                clear hf
                obtain ⟨st, tx⟩ := f
                dsimp only at y0 y1
                have HFI := Lib.hid hfi
                clear hfi
                have hw1 : wrap64 ((i : Int) + 1) = (i : Int) + 1 := by have := HX.out.2.2.2.1; unfold wrap64; omega
                go_upto_region 11 with (fail)
                generalize hw8 : World.alloc _ _ = w8
                have hb8 : Below wr.heap.size wr w8 := by rw [← hw8]; exact (Below.refl _ _).alloc (Nat.le_refl _) _
                have hx8 : w8.heap[wr.heap.size]? = some (.cells #[.int .u8 (st : Int), .string ⟨tx.toArray⟩] 61 (0, 0)) := by rw [← hw8]; exact ha_eq rfl
                clear hw8 y0 y1
                have hM3 := HM.out.keep (hb8.trans ((below_drew w8).mono hb8.size))
                have c0 : w8.drew.cell? ⟨wr.heap.size, 0, none⟩ = some (.int .u8 (st : Int)) := by show w8.cell? _ = _; simp [World.cell?, hx8]
                have c1' : w8.drew.cell? ⟨wr.heap.size, 1, none⟩ = some (.string ⟨tx.toArray⟩) := by show w8.cell? _ = _; simp [World.cell?, hx8]
                have hiN : i < ws.length := by rw [← HN.out.2, ← HLEN.out]; exact hlast
                obtain ⟨gw, cw, e⟩ := own_pos hM3.idx (by omega)
                rw [← HN.out.2] at e
                injection e with e1 _ e2
                subst e1 e2
                obtain ⟨k2, hk2⟩ : ∃ k2, ws[i]? = some k2 := ⟨_, List.getElem?_eq_getElem hiN⟩
                have hid := hM3.idx
                rw [← HN.out.2] at hid
                have hcn := nat_cell hid hk2
                obtain ⟨-, hkf, -⟩ := waits_mem (x := x) (d := d) (by rw [← HN.out.1]; exact List.mem_of_getElem? hk2)
                have hpl : (putF x.fates ws l i).length = x.fates.length := putF_len _ _ _ _
                have hfa := hM3.own.fa
                dsimp only at hfa
                rw [hpl] at hfa
                obtain ⟨g, cap, e⟩ := own_pos hfa (by omega)
                injection e with e1 _ e2
                subst e1 e2
                obtain ⟨u0, u1, v0, v1⟩ := fa_cell (k := k2) hfa (by rw [hpl]; exact hkf)
                obtain ⟨-, -, cur, hcur, -, -⟩ := own_block hfa
                have f0 := efroz hcur (k2 * 2)
                have f1 := efroz hcur (k2 * 2 + 1)
                have hbx := hM3.box
                unfold entC at hbx
                dsimp only at hbx
                obtain ⟨-, -, -, -, -, -, -, -, x8', -⟩ := eboxAll hbx
                have hS := EndL.step (x := { x with fates := putF x.fates ws l i }) (cap := c2) (k := k2) (g := g) (by dsimp only; rw [hpl]; exact hM3) (st, tx)
                dsimp only at hS
                rw [hpl] at hS
                have hpu : putF x.fates ws l (i + 1) = (putF x.fates ws l i).set k2 (st, tx) := by rw [putF, hk2, HFI.out]
                rw [← hpu] at hS
                have HS := Lib.hid hS
                have hiNi : (i : Int) < (N : Int) := by rw [HN.out.2]; omega
                have hkfi : (k2 : Int) < (x.fates.length : Int) := by omega
                clear hS hpu hbx hcur hfa hpl hkf hid hk2 hiN hM3 hb8 hx8
                have v0' : w8.cell? ⟨g, k2 * 2, none⟩ = some u0 := v0
                have v1' : w8.cell? ⟨g, k2 * 2 + 1, none⟩ = some u1 := v1
                have f0' : w8.frozen? ⟨g, k2 * 2, none⟩ = false := f0
                have f1' : w8.frozen? ⟨g, k2 * 2 + 1, none⟩ = false := f1
                refine wp_region_still_tail 8 (by kernel_rfl) (by kernel_rfl) ?_
                simp only [List.take_succ_cons, List.take_zero, List.drop_succ_cons, List.drop_zero]
                show wpStill Tryz.prog _ w8.drew (fun a' => wpList _ _ _ _ a' w8.drew) _ _
                repeat still_step
                refine wpStill_nil ?_
                go_wp2
                go_roundw
                case rel => exact ⟨i + 1, by simp [hw1], by omega, HS.out⟩
                case measure => simp [natI, hw1]; omega
              · have hli : ¬ (i : Int) < (l.length : Int) := by omega
                have hil : i = l.length := by omega
                subst hil
                obtain ⟨j, hjk⟩ : ∃ j, x.jobs[k]? = some j := ⟨_, List.getElem?_eq_getElem hk⟩
                have hjo := HM.out.own.jo
                dsimp only at hjo
                obtain ⟨g, cap, e⟩ := own_pos hjo (by omega)
                injection e with e1 _ e2
                subst e1 e2
                obtain ⟨z1, z2⟩ := jo_cell hjo hjk
                obtain ⟨-, -, cur, hcur, -, -⟩ := own_block hjo
                have f1 := efroz hcur (k * 3 + 1)
                have f2 := efroz hcur (k * 3 + 2)
                have hbx := HM.out.box
                unfold entC at hbx
                dsimp only at hbx
                obtain ⟨-, -, -, -, -, -, -, -, -, x9'⟩ := eboxAll hbx
                have hki2 : (k : Int) < (x.jobs.length : Int) := by omega
                have hki3 : (0 : Int) ≤ (k : Int) := by omega
                have hS := HM.out.bump (k := k) hjk due
                have HS := Lib.hid hS
                have htr := HX.out.2.2.2.2.2.1 j (List.mem_of_getElem? hjk)
                have hmin : wrap64 (min 98 j.tries + 1) = min 98 j.tries + 1 := by unfold wrap64; omega
                have HJK := Lib.hid (And.intro hjk htr)
                clear hS hbx hcur hjo hjk htr
                go_upto_region 15 with (fail)
                have hS := HS.out
                clear HS z1 z2 f1 f2 x9'
                generalize hW9 : World.setCell (World.setCell wr _ _) _ _ = W9 at hS ⊢
                clear hW9
                have HS := Lib.hid hS
                have hbx := hS.box
                have hzx : W9.heap[w.heap.size + 1 + 1]? = some (.cells zeroC 28 (0, 0)) := hS.res
                have HZx := Lib.hid hzx
                unfold entC at hbx
                unfold zeroC at hzx
                dsimp only at hbx
                obtain ⟨y0, y1, y2, y3, y4, y5, y6, y7, y8, y9⟩ := eboxAll hbx
                obtain ⟨g0, g1, g2, g3, g4, g5, g6, g7, g8, g9⟩ := eboxAll hzx
                have f0 := efroz hzx 0
                have f1 := efroz hzx 1
                have f2 := efroz hzx 2
                have f3 := efroz hzx 3
                have f4 := efroz hzx 4
                have f5 := efroz hzx 5
                have f6 := efroz hzx 6
                have f7 := efroz hzx 7
                have f8 := efroz hzx 8
                have f9 := efroz hzx 9
                clear hbx hzx hS
                go_wp2
                clear g0 g1 g2 g3 g4 g5 g6 g7 g8 g9 f0 f1 f2 f3 f4 f5 f6 f7 f8 f9 y0 y1 y2 y3 y4 y5 y6 y7 y8 y9
                have hb0 := HZx.out
                have hB7 := setAll_below HS.out.below (show w.heap.size ≤ w.heap.size + 1 + 1 by omega) (.int .i64 x.id) (.int .i64 x.at_) (.string ⟨x.mail.sender.toArray⟩) (.slice p1 x.mail.rcpts.length c1) (.bool x.mail.req) (.string ⟨x.mail.envid.toArray⟩) (.string ⟨x.mail.text.toArray⟩) (.bool x.plain) (.slice p2 x.fates.length c2) (.slice (some ⟨g, 0, none⟩) x.jobs.length c3)
                have hle : w.heap.size ≤ w5.heap.size := by have := HS.out.ge; omega
                have ho7 : OwnE (setAll W9 (w.heap.size + 1 + 1) (.int .i64 x.id) (.int .i64 x.at_) (.string ⟨x.mail.sender.toArray⟩) (.slice p1 x.mail.rcpts.length c1) (.bool x.mail.req) (.string ⟨x.mail.envid.toArray⟩) (.string ⟨x.mail.text.toArray⟩) (.bool x.plain) (.slice p2 x.fates.length c2) (.slice (some ⟨g, 0, none⟩) x.jobs.length c3)) w.heap.size (endX x k ws l due) (.slice p1 x.mail.rcpts.length c1) (.slice p2 x.fates.length c2) (.slice (some ⟨g, 0, none⟩) x.jobs.length c3) := ⟨ownsRow_less (own_set HS.out.own.rc hb0 (by decide) _ _ _ _ _ _ _ _ _ _) hle, ownsRow_less (own_set HS.out.own.fa hb0 (by decide) _ _ _ _ _ _ _ _ _ _) hle, ownsRow_less (own_set HS.out.own.jo hb0 (by decide) _ _ _ _ _ _ _ _ _ _) hle⟩
                unfold zeroC at hb0
                have hb7 := setAll_box hb0 (.int .i64 x.id) (.int .i64 x.at_) (.string ⟨x.mail.sender.toArray⟩) (.slice p1 x.mail.rcpts.length c1) (.bool x.mail.req) (.string ⟨x.mail.envid.toArray⟩) (.string ⟨x.mail.text.toArray⟩) (.bool x.plain) (.slice p2 x.fates.length c2) (.slice (some ⟨g, 0, none⟩) x.jobs.length c3)
                clear hb0
                unfold setAll at hb7 hB7 ho7
                generalize hW7 : World.setCell (World.setCell (World.setCell (World.setCell (World.setCell (World.setCell (World.setCell (World.setCell (World.setCell (World.setCell W9 _ _) _ _) _ _) _ _) _ _) _ _) _ _) _ _) _ _) _ _ = W7 at hb7 hB7 ho7 ⊢
                clear hW7
                obtain ⟨t0, t1, t2, t3, t4, t5, t6, t7, t8, t9⟩ := eboxAll hb7
                clear hb7
                refine bodyPost_ret (v := .tuple #[entV (endX x k ws l due) (.slice p1 x.mail.rcpts.length c1) (.slice p2 x.fates.length c2) (.slice (some ⟨g, 0, none⟩) x.jobs.length c3), .int .i64 0]) (by simp [results, Tryz.results26, go_sem, t0, t1, t2, t3, t4, t5, t6, t7, t8, t9, entV, entC, endX]) rfl ⟨⟨_, _, _, by rw [HEQ.out]; rfl, by rw [HEQ.out]; exact ho7⟩, hB7⟩
      · have hl0 : ¬ (l.length : Int) = (N : Int) := by omega
        have hl1 : ((l.length : Int) == (N : Int)) = false := beq_eq_false_iff_ne.2 hl0
        have hl2 : decide ((l.length : Int) = (N : Int)) = false := decide_eq_false hl0
        have hl3 : decide (l.length = N) = false := by simpa using hlen
        have HEQ := Lib.hid (show endN x d l due = (zeroN, 4) by rw [HE0.out, if_pos (.inl hlen)])
        exact absurd HM0.out (by rw [HEQ.out]; decide)

theorem end_any (x : EntP) (d : Bytes) (l : List FaP) (due : Int) (sv fv jv lv : Value) (w : World) (hx : EntAt w x sv fv jv) (hs : ShortE x) (hl : RowK 2 faE w lv l) (hln : l.length ≤ 1000000) (hlt : ∀ f ∈ l, f.2.length ≤ 1000000)
    (htr : ∀ j ∈ x.jobs, -9223372036854775808 ≤ j.tries ∧ j.tries ≤ 9223372036854775807) (hE : Env w) :
    Calls Tryz.prog 26 #[entV x sv fv jv, .string ⟨d.toArray⟩, lv, .int .i64 due] w fun e w' => EndPost w x d l due e w' ∧ Below w.heap.size w w' := by
  by_cases h : (endN x d l due).2 = 0
  · exact end_yes x d l due sv fv jv lv w hx hs hl hln hlt htr hE h
  · exact end_no x d l due sv fv jv lv w hx hs hl hln hlt htr hE h
end Go.Proofs.YtlpngibdplnieaaGreatDoor
