/- The law's like: is a tally the document's? -/
import Derived.Test.YthhcigmdocldnaaDoorRefK
import Derived.Test.YthhcigmdocldnaaDoorRefL
import Derived.Test.YthhcigmdocldnaaDoorLawB
import Derived.Test.YthhcigmdocldnaaDoorLawC
namespace Go.Proofs.YthhcigmdocldnaaDoor
open Go Go.RowKit Go.Shelf Go.Sort

/-- Texts that may be written over. -/
def TextsAt (W : World) (base : Nat) (p : Option Addr) (n c : Nat) : Prop := 0 < n → ∃ g cur, p = some ⟨g, 0, none⟩ ∧ base ≤ g ∧ W.heap[g]? = some (.cells cur 9 (0, 0)) ∧ n ≤ cur.size ∧ n ≤ c
theorem texts_of {W : World} {base n c : Nat} {p : Option Addr} {xs : List Value} (h : W.ownsRow base 9 1 (.slice p n c) n xs) : TextsAt W base p n c := by
  intro hn
  rcases h.2 with ⟨e, h0⟩ | ⟨g, cap, cur, e, hb, hh, hc, _, hs, _⟩
  · omega
  · injection e with e1 _ e3
    subst e1 e3
    exact ⟨g, cur, rfl, hb, hh, by omega, hc⟩

theorem TextsAt.spl {W W' : World} {b₀ base n c : Nat} {p : Option Addr} (h : TextsAt W base p n c) (hs : Spl b₀ W W') : TextsAt W' base p n c := fun hn => by
  obtain ⟨g, cur, e, hb, hh, rest⟩ := h hn
  exact ⟨g, cur, e, hb, hs.str g cur _ hh, rest⟩
theorem TextsAt.set {W : World} {base n c g i : Nat} {u : Value} (h : TextsAt W base (some ⟨g, 0, none⟩) n c) : TextsAt (W.setCell ⟨g, i, none⟩ u) base (some ⟨g, 0, none⟩) n c := fun hn => by
  obtain ⟨g', cur, e, hb, hh, h1, h2⟩ := h hn
  injection e with e; injection e with e; subst e
  exact ⟨g, _, rfl, hb, heap_setCell_self hh, by simpa using h1, h2⟩
theorem domsL_len (l : Ent) : (domsL l).length ≤ l.length := by
  have := sub_len (l := domsL l) (m := l.map fun y => y.1.1) ((asc_domsL l).nodup ordB) (fun y hy => by
    have := mem_domsL.1 hy
    exact this)
  rwa [List.length_map] at this

set_option maxRecDepth 100000 in
set_option maxHeartbeats 2000000 in
theorem like_any (w₀ w : World) (b bm r base : Nat) (names : Int) (l : Ent) (acc : List Res) (hT : Tal w₀ w b bm names l acc) (hr : RefAt w base r names acc) (ha : acc.length ≤ 900) (hs : ∀ x ∈ acc, x.1.1.length ≤ 1000000) :
    Calls Tryd.prog 26 #[.pointer (some ⟨b, 0, none⟩), .pointer (some ⟨r, 0, none⟩)] w fun e w' => e = .returned (.bool true) ∧ Below w.heap.size w w' := by
  have hRs := rows_step hT (by omega)
  have hinv := hT.inv
  have hlen := hinv.len
  have hl : l.length ≤ 1000000 := (hT.goodL (by omega)).2
  have hrl := hr.lt
  have HH := Lib.hid (And.intro hT (And.intro hr (And.intro hs hinv)))
  clear hT hr hs hinv
  go_enter Tryd.func26, Tryd.ntmps26
  go_wp2_with fail
  refine hRs.mono ?_
  rintro e w1 ⟨v, ps, rfl, hP, hRA, hB1⟩
  have hD := domains_any' b bm names l w1 (HH.out.1.next hB1).at_ hl
  have H1 := Lib.hid (And.intro hP (And.intro hRA hB1))
  clear hP hRA hB1 hRs
  go_wp2_with fail
  refine hD.mono ?_
  rintro e w2 ⟨v', rfl, hO, hB2⟩
  have hBw := H1.out.2.2.trans (Below.less hB2 H1.out.2.2.size)
  have hRA2 : RowsT 41 w2 w.heap.size v (rowsOf l ps) := RowsT.below (T := 41) H1.out.2.1 hB2
  obtain ⟨pd, cd, rfl⟩ := own_shape hO
  have hT2 := HH.out.1.next hBw
  have hr2 := HH.out.2.1.below hBw
  have hnr := rows_len H1.out.1
  obtain ⟨vL, hb2, hoL⟩ := hr2
  obtain ⟨pL, cL, rfl⟩ := own_shape hoL
  have hr2 : RefAt w2 base r names acc := ⟨_, hb2, hoL⟩
  have c1 : w2.cell? ⟨r, 1, none⟩ = some (.slice pL acc.length cL) := by simp [World.cell?, hb2]
  have hws : w.heap.size ≤ w2.heap.size := hBw.size
  have hrl2 : r < w2.heap.size := Nat.lt_of_lt_of_le hrl hws
  have keepS : ∀ W', Below w2.heap.size w2 W' → Below w2.heap.size w2 W' ∧ W'.cell? ⟨r, 1, none⟩ = some (.slice pL acc.length cL) := fun W' hb => ⟨hb, (hb.cell (p := ⟨r, 1, none⟩) hrl2).trans c1⟩
  have hTold : ∀ W, Below w2.heap.size w2 W → Calls Tryd.prog 16 #[v] W fun e w' => ∃ v', e = .returned v' ∧ RowsT 71 w' w.heap.size v' (rowsOf l ps) ∧ Below W.heap.size W w' := fun W hb =>
    told_any w.heap.size v (rowsOf l ps) W (RowsT.below hRA2 hb) (by rw [hnr]; exact hl) (Nat.le_trans hws hb.size)
  have hRows : ∀ W, Below w2.heap.size w2 W → Calls Tryd.prog 49 #[.pointer (some ⟨r, 0, none⟩)] W fun e w' => ∃ u, e = .returned u ∧ RowsT 71 w' w.heap.size u (rowsOf l ps) ∧ Below W.heap.size W w' := fun W hb => by
    refine (refRows_any W base r names acc (hr2.below hb) ha HH.out.2.2.1).mono ?_
    rintro e w' ⟨u, ds, rfl, hasc, hmem, hR, hB⟩
    rw [HH.out.2.2.2.refRows H1.out.1 hasc hmem] at hR
    exact ⟨u, rfl, hR.base (Nat.le_trans hws hb.size), hB⟩
  have hSame : ∀ W v u, RowsT 71 W w.heap.size v (rowsOf l ps) → RowsT 71 W w.heap.size u (rowsOf l ps) → Calls Tryd.prog 15 #[v, u] W fun e w' => e = .returned (.bool true) ∧ Below W.heap.size W w' := fun W v u h1 h2 => by
    have h11 := rows_11 HH.out.2.2.2 ps
    refine (same_any w.heap.size v u _ _ W h1 h2 h11 h11 (by rw [hnr]; exact hl) (by rw [hnr]; exact hl)).mono ?_
    rintro e w' ⟨rfl, hB⟩
    exact ⟨by rw [decide_eq_true rfl], hB⟩
  have hDoms : ∀ W, Below w2.heap.size w2 W → Calls Tryd.prog 45 #[.pointer (some ⟨r, 0, none⟩)] W fun e w' => ∃ u, e = .returned u ∧ w'.ownsRow W.heap.size 9 1 u (domsL l).length ((domsL l).map str) ∧ Below W.heap.size W w' := fun W hb => by
    refine (refDomains_any W base r names acc (hr2.below hb) (by omega) HH.out.2.2.1).mono ?_
    rintro e w' ⟨u, ds, rfl, hasc, hmem, hR, hB⟩
    rw [HH.out.2.2.2.refDoms hasc hmem]
    exact ⟨u, rfl, hR, hB⟩
  have hStrs : ∀ W base' u, Below w2.heap.size w2 W → W.ownsRow base' 9 1 u (domsL l).length ((domsL l).map str) → Calls Tryd.prog 31 #[.slice pd (domsL l).length cd, u] W fun e w' => e = .returned (.bool true) ∧ Below W.heap.size W w' := fun W base' u hb h => by
    refine (refStrs_any W (w1.heap.size + 1) base' _ u _ _ (own_below hO hb) h (by have := domsL_len l; omega)).mono ?_
    rintro e w' ⟨m, rfl, rfl⟩
    exact ⟨by rw [decide_eq_true rfl], below_drewN (Below.refl _ _) _⟩
  have hAll : ∀ W, Below w2.heap.size w2 W → Calls Tryd.prog 18 #[.pointer (some ⟨b, 0, none⟩)] W fun e w' => e = .returned (.int .i64 (acc.length : Int)) ∧ Below W.heap.size W w' := fun W hb => all_step (hT2.next hb) (by omega)
  have H2 := Lib.hid (And.intro hRA2 (And.intro hO hBw))
  clear hRA2 hO hB2 hBw hT2 hb2 hoL hr2 hnr hD c1 hlen
  go_wp2_with fail
  go_region_held3 (fun W' => Below w2.heap.size w2 W' ∧ W'.cell? ⟨r, 1, none⟩ = some (.slice pL acc.length cL))
    ((refine keepS _ ?_; first
      | with_reducible exact (And.left ‹Below w2.heap.size w2 _ ∧ _›).trans (Below.less hB9 (And.left ‹Below w2.heap.size w2 _ ∧ _›).size)
      | with_reducible exact (And.left ‹Below w2.heap.size w2 _ ∧ _›).trans (Below.less hB8 (And.left ‹Below w2.heap.size w2 _ ∧ _›).size)
      | with_reducible exact (And.left ‹Below w2.heap.size w2 _ ∧ _›).trans (Below.less hB7 (And.left ‹Below w2.heap.size w2 _ ∧ _›).size)
      | with_reducible exact (And.left ‹Below w2.heap.size w2 _ ∧ _›).trans (Below.less hB6 (And.left ‹Below w2.heap.size w2 _ ∧ _›).size)
      | with_reducible exact (And.left ‹Below w2.heap.size w2 _ ∧ _›).trans (Below.less hB5 (And.left ‹Below w2.heap.size w2 _ ∧ _›).size)
      | with_reducible exact (And.left ‹Below w2.heap.size w2 _ ∧ _›).trans (Below.less hB4 (And.left ‹Below w2.heap.size w2 _ ∧ _›).size)
      | exact below_drw (Below.refl _ _)))
    ((first
      | (go_at_call 16; refine (hTold _ (And.left ‹Below w2.heap.size w2 _ ∧ _›)).mono ?_; rintro e w4 ⟨v4, rfl, hR4, hB4⟩)
      | (go_at_call 49; refine (hRows _ (And.left ‹Below w2.heap.size w2 _ ∧ _›)).mono ?_; rintro e w5 ⟨v5, rfl, hR5, hB5⟩)
      | (go_at_call 15; refine (hSame _ _ _ (RowsT.below hR4 hB5) hR5).mono ?_; rintro e w6 ⟨rfl, hB6⟩)
      | (go_at_call 45; refine (hDoms _ (And.left ‹Below w2.heap.size w2 _ ∧ _›)).mono ?_; rintro e w7 ⟨v7, rfl, hO7, hB7⟩)
      | (go_at_call 31; refine (hStrs _ _ _ (And.left ‹Below w2.heap.size w2 _ ∧ _›) hO7).mono ?_; rintro e w8 ⟨rfl, hB8⟩)
      | (go_at_call 18; refine (hAll _ (And.left ‹Below w2.heap.size w2 _ ∧ _›)).mono ?_; rintro e w9 ⟨rfl, hB9⟩)))
  have hB := And.left ‹Below w2.heap.size w2 _ ∧ _›
  have hR9 := RowsT.below H2.out.1 hB
  obtain ⟨p, c, rfl, hsp⟩ := hR9.spoil
  have hnr := rows_len H1.out.1
  have hSp := spoil_any _ w.heap.size p (rowsOf l ps).length c hsp (by rw [hnr]; exact hl)
  have hTx := texts_of (own_below H2.out.2.1 hB)
  have hdn := domsL_len l
  generalize domsL l = dl at *
  have H3 := Lib.hid (And.intro hTx (And.intro (H2.out.2.2.trans (Below.less hB hws)) (And.intro hdn H1.out.2.2.size)))
  clear hsp hR9 hTx hdn hnr hB hRows hSame hDoms hStrs hAll hTold keepS hB4 hB5 hB6 hB7 hB8 hB9 hR4 hR5 hO7
  go_wp2_with fail
  refine hSp.mono ?_
  rintro e w10 ⟨rfl, hS10⟩
  have hT10 := H3.out.1.spl hS10
  have hB10 := H3.out.2.1.trans hS10.below
  have hdl : dl.length ≤ 1000000 := by have := H3.out.2.2.1; omega
  have hpc : ∀ g, pd = some g → dl.length ≤ cd := fun _ _ => own_cap H2.out.2.1
  have H4 := Lib.hid hpc
  clear hS10 hSp hpc
  go_wp2_with fail
  go_loopw [8] (fun iv wr => ∃ i : Nat, iv = .int .i64 (i : Int) ∧ i ≤ dl.length ∧ TextsAt wr (w1.heap.size + 1) pd dl.length cd ∧ Below w.heap.size w wr)
    (fun iv _ => dl.length - natI iv)
  case atStart => exact ⟨0, rfl, Nat.zero_le _, hT10, hB10⟩
  case round =>
    obtain ⟨i, rfl, hi, hTx, hB⟩ := hrel
    by_cases hlast : i < dl.length
    · have hli : (i : Int) < (dl.length : Int) := by omega
      obtain ⟨g, cur, rfl, hg, hh, hcs, hcc⟩ := hTx (by omega)
      obtain ⟨v0, hv0⟩ : ∃ v0, cur[i]? = some v0 := ⟨_, Array.getElem?_eq_getElem (by omega)⟩
      have k0 : wr.cell? ⟨g, i, none⟩ = some v0 := by simp [World.cell?, hh, hv0]
      have f0 : wr.frozen? ⟨g, i, none⟩ = false := by simp [World.frozen?, hh]
      have HX := Lib.hid (And.intro hTx (And.intro hB hg))
      clear hTx hB hh hcs hv0 hg hT10 hB10
      go_wp2
      go_roundw
      case rel => exact ⟨i + 1, by simp, by omega, HX.out.1.set, HX.out.2.1.setCell (p := ⟨g, i, none⟩) (by have := H3.out.2.2.2; have := HX.out.2.2; show w.heap.size ≤ g; omega) _⟩
      case measure => simp [natI]; omega
    · have hli : ¬ (i : Int) < (dl.length : Int) := by omega
      have HB := Lib.hid hB
      clear hB hTx hT10 hB10
      go_wp2
      refine bodyPost_ret (v := .bool true) (by simp [results, Tryd.results26, go_sem]) rfl ⟨rfl, HB.out⟩
end Go.Proofs.YthhcigmdocldnaaDoor
