/- The document's goes, walked. -/
import Derived.Test.YtojhledbfaninaaGreatZdoc
namespace Go.Proofs.YtojhledbfaninaaGreat
open Go Go.RowKit Go.Shelf Go.Sort
attribute [local go_sem] bneI

def atI : Option Nat → Int
  | none => -1
  | some k => (k : Int)

set_option maxRecDepth 100000 in
set_option maxHeartbeats 4000000 in
theorem goes_any (bd : Nat) (B : Nat → Prop) (most now : Int) (zs : List EM) (w : World) (h : DocIs w B bd most zs) (hn : zs.length ≤ 1000000) :
    Calls Tryz.prog 29 #[.pointer (some ⟨bd, 0, none⟩), .int .i64 now] w fun e w' => ∃ a : Option Nat, e = .returned (.tuple #[.int .i64 ((a.getD 0 : Nat) : Int), .bool a.isSome]) ∧ GoesAt (zs.map (·.1)) now a ∧ Below w.heap.size w w' := by
  obtain ⟨v, hbox, hrow, htx⟩ := h
  obtain ⟨p, c, rfl⟩ := hrow.sh
  have c1 : w.cell? ⟨bd, 1, none⟩ = some (.slice p zs.length c) := by simp [World.cell?, hbox]
  have HD := Lib.hid (And.intro hrow (And.intro htx hbox))
  clear hrow htx hbox
  go_enter Tryz.func29, Tryz.ntmps29
  go_wp2_with fail
  go_loopw [6] (fun s6 wr => ∃ r : Int, s6 = .int .i64 r ∧ (r = 0 ∨ (r = 1 ∧ Found (zs.map (·.1)) (fun p => decide (p.unt ≤ now)) (zs.map (·.1)).length none) ∨ (r = 2 ∧ Found (zs.map (·.1)) (fun p => decide (p.unt ≤ now)) (zs.map (·.1)).length none ∧ Found (zs.map (·.1)) (fun p => decide (p.mode ≠ 3)) (zs.map (·.1)).length none)) ∧ Below w.heap.size w wr) (fun s6 _ => 2 - natI s6)
  case atStart => exact ⟨0, rfl, .inl rfl, Below.refl _ _⟩
  case round =>
    obtain ⟨r, rfl, hr, hB⟩ := hrel
    generalize hww : wr = wr1 at *
    clear hww
    rcases hr with rfl | ⟨rfl, hf0⟩ | ⟨rfl, hf0, hf1⟩
    · have HR := Lib.hid (And.intro hB trivial)
      clear hB
      go_wp2_with fail
      go_loopw [7, 8] (fun s7 s8 wr => ∃ (i : Nat) (a : Option Nat), s8 = .int .i64 (i : Int) ∧ s7 = .int .i64 (atI a) ∧ i ≤ zs.length ∧ Found (zs.map (·.1)) (fun p => decide (p.unt ≤ now)) i a ∧ Below wr1.heap.size wr1 wr) (fun _ s8 _ => zs.length - natI s8)
      case atStart => exact ⟨0, none, rfl, rfl, Nat.zero_le _, Found.zero _ _, Below.refl _ _⟩
      case round =>
        obtain ⟨i, a, rfl, rfl, hi, hF, hBi⟩ := hrel
        generalize hww : wr = wr2 at *
        clear hww
        have hBw : Below w.heap.size w wr2 := HR.out.1.trans (hBi.mono HR.out.1.size)
        have d1 : wr2.cell? ⟨bd, 1, none⟩ = some (.slice p zs.length c) := below_keep hBw _ _ c1
        by_cases hlast : i < zs.length
        · have hli : (i : Int) < (zs.length : Int) := by omega
          obtain ⟨b, o, hpe, hbl, hc⟩ := RowE.at HD.out.1 i hlast
          have HP := Lib.hid hpe
          subst hpe
          obtain ⟨y0, y1, y2, y3, y4, y5⟩ := hc i hlast
          replace y0 := six_below hBw hbl y0
          replace y1 := six_below hBw hbl y1
          replace y2 := six_below hBw hbl y2
          replace y3 := six_below hBw hbl y3
          replace y4 := six_below hBw hbl y4
          replace y5 := six_below hBw hbl y5
          have hiL : i < (zs.map (·.1)).length := by simpa using hlast
          have hLi : (zs.map (·.1))[i] = zs[i].1 := by simp
          have HF := Lib.hid (And.intro hF (And.intro hBi (And.intro hBw (And.intro hc hbl))))
          clear hF hBi hBw hc hbl
          obtain ⟨x, hxx⟩ : ∃ x, x = zs[i] := ⟨_, rfl⟩
          rw [← hxx] at y0 y1 y2 y3 y4 y5
          have HX := Lib.hid (hLi.trans (by rw [← hxx]))
          clear hLi hxx
          obtain ⟨⟨e1, e2, e3, e4, e5, e6⟩, q1, q2, q3⟩ := x
          dsimp only at y0 y1 y2 y3 y4 y5
          go_upto_region 9 with (fail)
          obtain ⟨W, hW⟩ : ∃ W, W = wr2.alloc (.cells #[.string ⟨e1.toArray⟩, .string ⟨e2.toArray⟩, .int .u8 (e3 : Int), .slice q1 q2 q3, .int .i64 e5, .int .i64 e6] 67) := ⟨_, rfl⟩
          rw [← hW]
          have hBW : Below wr2.heap.size wr2 W := by rw [hW]; exact (Below.refl _ _).alloc (Nat.le_refl _) _
          have hbx : W.heap[wr2.heap.size]? = some (.cells #[.string ⟨e1.toArray⟩, .string ⟨e2.toArray⟩, .int .u8 (e3 : Int), .slice q1 q2 q3, .int .i64 e5, .int .i64 e6] 67 (0, 0)) := by rw [hW]; exact heap_new rfl
          have hltW : wr2.heap.size < W.heap.size := (Array.getElem?_eq_some_iff.1 hbx).1
          replace d1 := below_keep hBW _ _ d1
          obtain ⟨z0, z1, z2, z3, z4, z5⟩ := box6 hbx
          have HG := Lib.hid (And.intro hBW (And.intro (HF.out.2.1.trans (hBW.mono HF.out.2.1.size)) (HF.out.2.2.1.trans (hBW.mono HF.out.2.2.1.size))))
          clear hW hBW hbx hltW y0 y1 y2 y3 y4 y5
          by_cases hd : e6 ≤ now
          · have hm : e6 ≤ now := hd
            have hft : (fun p => decide (p.unt ≤ now)) (zs.map (·.1))[i] = true := by rw [HX.out]; simpa using hd
            have HT := Lib.hid hft
            clear hft hd
            cases a with
            | none =>
              go_upto_region 12 with (fail)
              simp only [atI]
              have z0' := fun q : BW W => below_keep q.h _ _ z0
              have z1' := fun q : BW W => below_keep q.h _ _ z1
              have z2' := fun q : BW W => below_keep q.h _ _ z2
              have z3' := fun q : BW W => below_keep q.h _ _ z3
              have z4' := fun q : BW W => below_keep q.h _ _ z4
              have z5' := fun q : BW W => below_keep q.h _ _ z5
              clear z0 z1 z2 z3 z4 z5
              refine wp_region_quiet_below (by kernel_rfl) (by kernel_rfl) ?_
              repeat (go_big_quiet_step (fail))
              refine wpQuiet_nil ?_
              intro w5' hw'
              have hb5 : Below W.heap.size W w5' := by
                obtain ⟨q, rfl⟩ := hw'
                exact q.h
              have HW := Lib.hid (And.intro (HG.out.2.1.trans (hb5.mono HG.out.2.1.size)) (HF.out.1.first hiL HT.out))
              clear hw' hb5
              go_wp2
              go_roundw
              case rel => exact ⟨i + 1, some i, by simp, rfl, by omega, HW.out.2, HW.out.1⟩
              case measure => simp [natI]; omega
            | some k =>
              have hkL := HF.out.1.lt (by simpa using hi)
              have hkz : k < zs.length := by simpa using hkL
              have hki : (k : Int) < (zs.length : Int) := by omega
              have hk0 : ¬ (k : Int) < 0 := by omega
              have hLk : (zs.map (·.1))[k] = zs[k].1 := by simp
              obtain ⟨j0, j1, j2, j3, j4, j5⟩ := HF.out.2.2.2.1 k hkz
              replace j0 := fun q : BW W => below_keep q.h _ _ (six_below HG.out.2.2 HF.out.2.2.2.2 j0)
              replace j1 := fun q : BW W => below_keep q.h _ _ (six_below HG.out.2.2 HF.out.2.2.2.2 j1)
              replace j2 := fun q : BW W => below_keep q.h _ _ (six_below HG.out.2.2 HF.out.2.2.2.2 j2)
              replace j3 := fun q : BW W => below_keep q.h _ _ (six_below HG.out.2.2 HF.out.2.2.2.2 j3)
              replace j4 := fun q : BW W => below_keep q.h _ _ (six_below HG.out.2.2 HF.out.2.2.2.2 j4)
              replace j5 := fun q : BW W => below_keep q.h _ _ (six_below HG.out.2.2 HF.out.2.2.2.2 j5)
              have hless := fun q : BW W => (less_any (⟨e1, e2, e3, e4, e5, e6⟩, q1, q2, q3) zs[k] q.v).mono (R' := fun e w'' => e = .returned (.bool (lessB ⟨e1, e2, e3, e4, e5, e6⟩ zs[k].1)) ∧ ∃ q' : BW W, w'' = q'.v) fun e w'' hh => ⟨hh.1, ⟨w'', q.h.trans (hh.2.mono q.h.size)⟩, rfl⟩
              have hst : lessB ⟨e1, e2, e3, e4, e5, e6⟩ zs[k].1 = true → Found (zs.map (·.1)) (fun p => decide (p.unt ≤ now)) (i + 1) (some i) := fun h => HF.out.1.take hiL hkL HT.out (by rw [HX.out, hLk]; exact h)
              have hsy : lessB ⟨e1, e2, e3, e4, e5, e6⟩ zs[k].1 = false → Found (zs.map (·.1)) (fun p => decide (p.unt ≤ now)) (i + 1) (some k) := fun h => HF.out.1.stay hiL hkL HT.out (by rw [HX.out, hLk]; exact h)
              have HY := Lib.hid (And.intro hst hsy)
              clear hst hsy hLk
              obtain ⟨y, hy⟩ : ∃ y, y = zs[k] := ⟨_, rfl⟩
              rw [← hy] at j0 j1 j2 j3 j4 j5 hless HY
              clear hy
              obtain ⟨⟨g1, g2, g3, g4, g5, g6⟩, s1, s2, s3⟩ := y
              dsimp only at j0 j1 j2 j3 j4 j5 hless HY
              rw [lit_ev, lit_ev] at hless
              generalize lessB ⟨e1, e2, e3, e4, e5, e6⟩ ⟨g1, g2, g3, g4, g5, g6⟩ = r at hless HY
              go_upto_region 12 with (fail)
              simp only [atI]
              have z0' := fun q : BW W => below_keep q.h _ _ z0
              have z1' := fun q : BW W => below_keep q.h _ _ z1
              have z2' := fun q : BW W => below_keep q.h _ _ z2
              have z3' := fun q : BW W => below_keep q.h _ _ z3
              have z4' := fun q : BW W => below_keep q.h _ _ z4
              have z5' := fun q : BW W => below_keep q.h _ _ z5
              have d1' := fun q : BW W => below_keep q.h _ _ d1
              clear z0 z1 z2 z3 z4 z5 d1
              refine wp_region_quiet_below (by kernel_rfl) (by kernel_rfl) ?_
              repeat (go_big_quiet_step (exact hless _))
              cases r with
              | true =>
                refine wpQuiet_nil ?_
                intro w5' hw'
                have hb5 : Below W.heap.size W w5' := by
                  obtain ⟨q, rfl⟩ := hw'
                  exact q.h
                have HW := Lib.hid (And.intro (HG.out.2.1.trans (hb5.mono HG.out.2.1.size)) (HY.out.1 rfl))
                clear hw' hb5
                go_wp2
                go_roundw
                case rel => exact ⟨i + 1, some i, by simp, rfl, by omega, HW.out.2, HW.out.1⟩
                case measure => simp [natI]; omega
              | false =>
                refine wpQuiet_nil ?_
                intro w5' hw'
                have hb5 : Below W.heap.size W w5' := by
                  obtain ⟨q, rfl⟩ := hw'
                  exact q.h
                have HW := Lib.hid (And.intro (HG.out.2.1.trans (hb5.mono HG.out.2.1.size)) (HY.out.2 rfl))
                clear hw' hb5
                go_wp2
                go_roundw
                case rel => exact ⟨i + 1, some k, by simp, rfl, by omega, HW.out.2, HW.out.1⟩
                case measure => simp [natI]; omega
          · have hm : ¬ e6 ≤ now := hd
            have hft : (fun p => decide (p.unt ≤ now)) (zs.map (·.1))[i] = false := by rw [HX.out]; simpa using hd
            have HT := Lib.hid hft
            clear hft hd
            go_upto_region 12 with (fail)
            have z0' := fun q : BW W => below_keep q.h _ _ z0
            have z1' := fun q : BW W => below_keep q.h _ _ z1
            have z2' := fun q : BW W => below_keep q.h _ _ z2
            have z3' := fun q : BW W => below_keep q.h _ _ z3
            have z4' := fun q : BW W => below_keep q.h _ _ z4
            have z5' := fun q : BW W => below_keep q.h _ _ z5
            clear z0 z1 z2 z3 z4 z5
            refine wp_region_quiet_below (by kernel_rfl) (by kernel_rfl) ?_
            repeat (go_big_quiet_step (fail))
            refine wpQuiet_nil ?_
            intro w5' hw'
            have hb5 : Below W.heap.size W w5' := by
              obtain ⟨q, rfl⟩ := hw'
              exact q.h
            have HW := Lib.hid (And.intro (HG.out.2.1.trans (hb5.mono HG.out.2.1.size)) (HF.out.1.skip hiL HT.out))
            clear hw' hb5
            go_wp2
            go_roundw
            case rel => exact ⟨i + 1, a, by simp, rfl, by omega, HW.out.2, HW.out.1⟩
            case measure => simp [natI]; omega
        · have hli : ¬ (i : Int) < (zs.length : Int) := by omega
          obtain rfl : i = zs.length := by omega
          have hln : (zs.map (·.1)).length = zs.length := by simp
          rw [← hln] at hF
          cases a with
          | none =>
            have HE := Lib.hid (And.intro hF hBw)
            clear hF hBw hBi hln
            simp only [atI]
            go_wp2
            go_roundw
            case rel => exact ⟨1, rfl, .inr (.inl ⟨rfl, HE.out.1⟩), HE.out.2⟩
            case measure => simp [natI]
          | some k =>
            have hk0 : (0 : Int) ≤ (k : Int) := by omega
            have HE := Lib.hid (And.intro (goes_found1 hF) hBw)
            clear hF hBw hBi hln
            simp only [atI]
            go_wp2
            refine bodyPost_ret (v := .tuple #[.int .i64 (k : Int), .bool true]) (by simp [results, Tryz.results29, go_sem]) rfl ⟨some k, rfl, HE.out.1, HE.out.2⟩
    · have HR := Lib.hid (And.intro hB hf0)
      clear hB hf0
      go_wp2_with fail
      go_loopw [7, 8] (fun s7 s8 wr => ∃ (i : Nat) (a : Option Nat), s8 = .int .i64 (i : Int) ∧ s7 = .int .i64 (atI a) ∧ i ≤ zs.length ∧ Found (zs.map (·.1)) (fun p => decide (p.mode ≠ 3)) i a ∧ Below wr1.heap.size wr1 wr) (fun _ s8 _ => zs.length - natI s8)
      case atStart => exact ⟨0, none, rfl, rfl, Nat.zero_le _, Found.zero _ _, Below.refl _ _⟩
      case round =>
        obtain ⟨i, a, rfl, rfl, hi, hF, hBi⟩ := hrel
        generalize hww : wr = wr2 at *
        clear hww
        have hBw : Below w.heap.size w wr2 := HR.out.1.trans (hBi.mono HR.out.1.size)
        have d1 : wr2.cell? ⟨bd, 1, none⟩ = some (.slice p zs.length c) := below_keep hBw _ _ c1
        by_cases hlast : i < zs.length
        · have hli : (i : Int) < (zs.length : Int) := by omega
          obtain ⟨b, o, hpe, hbl, hc⟩ := RowE.at HD.out.1 i hlast
          have HP := Lib.hid hpe
          subst hpe
          obtain ⟨y0, y1, y2, y3, y4, y5⟩ := hc i hlast
          replace y0 := six_below hBw hbl y0
          replace y1 := six_below hBw hbl y1
          replace y2 := six_below hBw hbl y2
          replace y3 := six_below hBw hbl y3
          replace y4 := six_below hBw hbl y4
          replace y5 := six_below hBw hbl y5
          have hiL : i < (zs.map (·.1)).length := by simpa using hlast
          have hLi : (zs.map (·.1))[i] = zs[i].1 := by simp
          have HF := Lib.hid (And.intro hF (And.intro hBi (And.intro hBw (And.intro hc hbl))))
          clear hF hBi hBw hc hbl
          obtain ⟨x, hxx⟩ : ∃ x, x = zs[i] := ⟨_, rfl⟩
          rw [← hxx] at y0 y1 y2 y3 y4 y5
          have HX := Lib.hid (hLi.trans (by rw [← hxx]))
          clear hLi hxx
          obtain ⟨⟨e1, e2, e3, e4, e5, e6⟩, q1, q2, q3⟩ := x
          dsimp only at y0 y1 y2 y3 y4 y5
          go_upto_region 9 with (fail)
          obtain ⟨W, hW⟩ : ∃ W, W = wr2.alloc (.cells #[.string ⟨e1.toArray⟩, .string ⟨e2.toArray⟩, .int .u8 (e3 : Int), .slice q1 q2 q3, .int .i64 e5, .int .i64 e6] 67) := ⟨_, rfl⟩
          rw [← hW]
          have hBW : Below wr2.heap.size wr2 W := by rw [hW]; exact (Below.refl _ _).alloc (Nat.le_refl _) _
          have hbx : W.heap[wr2.heap.size]? = some (.cells #[.string ⟨e1.toArray⟩, .string ⟨e2.toArray⟩, .int .u8 (e3 : Int), .slice q1 q2 q3, .int .i64 e5, .int .i64 e6] 67 (0, 0)) := by rw [hW]; exact heap_new rfl
          have hltW : wr2.heap.size < W.heap.size := (Array.getElem?_eq_some_iff.1 hbx).1
          replace d1 := below_keep hBW _ _ d1
          obtain ⟨z0, z1, z2, z3, z4, z5⟩ := box6 hbx
          have HG := Lib.hid (And.intro hBW (And.intro (HF.out.2.1.trans (hBW.mono HF.out.2.1.size)) (HF.out.2.2.1.trans (hBW.mono HF.out.2.2.1.size))))
          clear hW hBW hbx hltW y0 y1 y2 y3 y4 y5
          by_cases hd : e3 ≠ 3
          · have hm : decide ((e3 : Int) = 3) = false := by simp; omega
            have hm2 : ((e3 : Int) == 3) = false := by simp; omega
            have hm3 : decide (e3 = 3) = false := by simpa using hd
            have hft : (fun p => decide (p.mode ≠ 3)) (zs.map (·.1))[i] = true := by rw [HX.out]; simpa using hd
            have HT := Lib.hid hft
            clear hft hd
            cases a with
            | none =>
              go_upto_region 12 with (fail)
              simp only [atI]
              have z0' := fun q : BW W => below_keep q.h _ _ z0
              have z1' := fun q : BW W => below_keep q.h _ _ z1
              have z2' := fun q : BW W => below_keep q.h _ _ z2
              have z3' := fun q : BW W => below_keep q.h _ _ z3
              have z4' := fun q : BW W => below_keep q.h _ _ z4
              have z5' := fun q : BW W => below_keep q.h _ _ z5
              clear z0 z1 z2 z3 z4 z5
              refine wp_region_quiet_below (by kernel_rfl) (by kernel_rfl) ?_
              repeat (go_big_quiet_step (fail))
              refine wpQuiet_nil ?_
              intro w5' hw'
              have hb5 : Below W.heap.size W w5' := by
                obtain ⟨q, rfl⟩ := hw'
                exact q.h
              have HW := Lib.hid (And.intro (HG.out.2.1.trans (hb5.mono HG.out.2.1.size)) (HF.out.1.first hiL HT.out))
              clear hw' hb5
              go_wp2
              go_roundw
              case rel => exact ⟨i + 1, some i, by simp, rfl, by omega, HW.out.2, HW.out.1⟩
              case measure => simp [natI]; omega
            | some k =>
              have hkL := HF.out.1.lt (by simpa using hi)
              have hkz : k < zs.length := by simpa using hkL
              have hki : (k : Int) < (zs.length : Int) := by omega
              have hk0 : ¬ (k : Int) < 0 := by omega
              have hLk : (zs.map (·.1))[k] = zs[k].1 := by simp
              obtain ⟨j0, j1, j2, j3, j4, j5⟩ := HF.out.2.2.2.1 k hkz
              replace j0 := fun q : BW W => below_keep q.h _ _ (six_below HG.out.2.2 HF.out.2.2.2.2 j0)
              replace j1 := fun q : BW W => below_keep q.h _ _ (six_below HG.out.2.2 HF.out.2.2.2.2 j1)
              replace j2 := fun q : BW W => below_keep q.h _ _ (six_below HG.out.2.2 HF.out.2.2.2.2 j2)
              replace j3 := fun q : BW W => below_keep q.h _ _ (six_below HG.out.2.2 HF.out.2.2.2.2 j3)
              replace j4 := fun q : BW W => below_keep q.h _ _ (six_below HG.out.2.2 HF.out.2.2.2.2 j4)
              replace j5 := fun q : BW W => below_keep q.h _ _ (six_below HG.out.2.2 HF.out.2.2.2.2 j5)
              have hless := fun q : BW W => (less_any (⟨e1, e2, e3, e4, e5, e6⟩, q1, q2, q3) zs[k] q.v).mono (R' := fun e w'' => e = .returned (.bool (lessB ⟨e1, e2, e3, e4, e5, e6⟩ zs[k].1)) ∧ ∃ q' : BW W, w'' = q'.v) fun e w'' hh => ⟨hh.1, ⟨w'', q.h.trans (hh.2.mono q.h.size)⟩, rfl⟩
              have hst : lessB ⟨e1, e2, e3, e4, e5, e6⟩ zs[k].1 = true → Found (zs.map (·.1)) (fun p => decide (p.mode ≠ 3)) (i + 1) (some i) := fun h => HF.out.1.take hiL hkL HT.out (by rw [HX.out, hLk]; exact h)
              have hsy : lessB ⟨e1, e2, e3, e4, e5, e6⟩ zs[k].1 = false → Found (zs.map (·.1)) (fun p => decide (p.mode ≠ 3)) (i + 1) (some k) := fun h => HF.out.1.stay hiL hkL HT.out (by rw [HX.out, hLk]; exact h)
              have HY := Lib.hid (And.intro hst hsy)
              clear hst hsy hLk
              obtain ⟨y, hy⟩ : ∃ y, y = zs[k] := ⟨_, rfl⟩
              rw [← hy] at j0 j1 j2 j3 j4 j5 hless HY
              clear hy
              obtain ⟨⟨g1, g2, g3, g4, g5, g6⟩, s1, s2, s3⟩ := y
              dsimp only at j0 j1 j2 j3 j4 j5 hless HY
              rw [lit_ev, lit_ev] at hless
              generalize lessB ⟨e1, e2, e3, e4, e5, e6⟩ ⟨g1, g2, g3, g4, g5, g6⟩ = r at hless HY
              go_upto_region 12 with (fail)
              simp only [atI]
              have z0' := fun q : BW W => below_keep q.h _ _ z0
              have z1' := fun q : BW W => below_keep q.h _ _ z1
              have z2' := fun q : BW W => below_keep q.h _ _ z2
              have z3' := fun q : BW W => below_keep q.h _ _ z3
              have z4' := fun q : BW W => below_keep q.h _ _ z4
              have z5' := fun q : BW W => below_keep q.h _ _ z5
              have d1' := fun q : BW W => below_keep q.h _ _ d1
              clear z0 z1 z2 z3 z4 z5 d1
              refine wp_region_quiet_below (by kernel_rfl) (by kernel_rfl) ?_
              repeat (go_big_quiet_step (exact hless _))
              cases r with
              | true =>
                refine wpQuiet_nil ?_
                intro w5' hw'
                have hb5 : Below W.heap.size W w5' := by
                  obtain ⟨q, rfl⟩ := hw'
                  exact q.h
                have HW := Lib.hid (And.intro (HG.out.2.1.trans (hb5.mono HG.out.2.1.size)) (HY.out.1 rfl))
                clear hw' hb5
                go_wp2
                go_roundw
                case rel => exact ⟨i + 1, some i, by simp, rfl, by omega, HW.out.2, HW.out.1⟩
                case measure => simp [natI]; omega
              | false =>
                refine wpQuiet_nil ?_
                intro w5' hw'
                have hb5 : Below W.heap.size W w5' := by
                  obtain ⟨q, rfl⟩ := hw'
                  exact q.h
                have HW := Lib.hid (And.intro (HG.out.2.1.trans (hb5.mono HG.out.2.1.size)) (HY.out.2 rfl))
                clear hw' hb5
                go_wp2
                go_roundw
                case rel => exact ⟨i + 1, some k, by simp, rfl, by omega, HW.out.2, HW.out.1⟩
                case measure => simp [natI]; omega
          · have hm : decide ((e3 : Int) = 3) = true := by simp; omega
            have hm2 : ((e3 : Int) == 3) = true := by simp; omega
            have hm3 : decide (e3 = 3) = true := by simpa using hd
            have hft : (fun p => decide (p.mode ≠ 3)) (zs.map (·.1))[i] = false := by rw [HX.out]; simpa using hd
            have HT := Lib.hid hft
            clear hft hd
            go_upto_region 12 with (fail)
            have z0' := fun q : BW W => below_keep q.h _ _ z0
            have z1' := fun q : BW W => below_keep q.h _ _ z1
            have z2' := fun q : BW W => below_keep q.h _ _ z2
            have z3' := fun q : BW W => below_keep q.h _ _ z3
            have z4' := fun q : BW W => below_keep q.h _ _ z4
            have z5' := fun q : BW W => below_keep q.h _ _ z5
            clear z0 z1 z2 z3 z4 z5
            refine wp_region_quiet_below (by kernel_rfl) (by kernel_rfl) ?_
            repeat (go_big_quiet_step (fail))
            refine wpQuiet_nil ?_
            intro w5' hw'
            have hb5 : Below W.heap.size W w5' := by
              obtain ⟨q, rfl⟩ := hw'
              exact q.h
            have HW := Lib.hid (And.intro (HG.out.2.1.trans (hb5.mono HG.out.2.1.size)) (HF.out.1.skip hiL HT.out))
            clear hw' hb5
            go_wp2
            go_roundw
            case rel => exact ⟨i + 1, a, by simp, rfl, by omega, HW.out.2, HW.out.1⟩
            case measure => simp [natI]; omega
        · have hli : ¬ (i : Int) < (zs.length : Int) := by omega
          obtain rfl : i = zs.length := by omega
          have hln : (zs.map (·.1)).length = zs.length := by simp
          rw [← hln] at hF
          cases a with
          | none =>
            have HE := Lib.hid (And.intro hF hBw)
            clear hF hBw hBi hln
            simp only [atI]
            go_wp2
            go_roundw
            case rel => exact ⟨2, rfl, .inr (.inr ⟨rfl, HR.out.2, HE.out.1⟩), HE.out.2⟩
            case measure => simp [natI]
          | some k =>
            have hk0 : (0 : Int) ≤ (k : Int) := by omega
            have HE := Lib.hid (And.intro (goes_found2 HR.out.2 hF) hBw)
            clear hF hBw hBi hln
            simp only [atI]
            go_wp2
            refine bodyPost_ret (v := .tuple #[.int .i64 (k : Int), .bool true]) (by simp [results, Tryz.results29, go_sem]) rfl ⟨some k, rfl, HE.out.1, HE.out.2⟩
    · have HE := Lib.hid (And.intro (goes_found2 hf0 hf1) hB)
      clear hB hf0 hf1
      go_wp2
      refine bodyPost_ret (v := .tuple #[.int .i64 0, .bool false]) (by simp [results, Tryz.results29, go_sem]) rfl ⟨none, rfl, HE.out.1, HE.out.2⟩
end Go.Proofs.YtojhledbfaninaaGreat
