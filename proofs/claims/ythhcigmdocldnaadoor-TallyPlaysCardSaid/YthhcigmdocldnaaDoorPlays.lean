/- TallyPlays: the walk. -/
import Derived.Test.YthhcigmdocldnaaDoorLike
import Derived.Test.YthhcigmdocldnaaDoorLawD
import Derived.Test.YthhcigmdocldnaaDoorLawE
import Derived.Test.YthhcigmdocldnaaDoorLawH
import Derived.Test.YthhcigmdocldnaaDoorRefH
import Derived.Deep.CutRange
namespace Go.Proofs.YthhcigmdocldnaaDoor
open Go Go.RowKit Go.Shelf Go.Sort

theorem refAddB_eq {names : Int} {l : Ent} {r : Res} : refAddB names (domsL l) r = addB names l r.1.1 r.1.2 r.2 := by
  rcases addB_cases names l r with ⟨h1, h2⟩ | ⟨h1, h3, h2⟩ | ⟨h1, h3, h2⟩
  · rw [h2]; unfold refAddB; rw [if_pos h1]
  · rw [h2]
    refine refAddB_full h1 fun h => ?_
    unfold roomB at h3
    rw [Bool.or_eq_false_iff, decide_eq_false_iff_not, decide_eq_false_iff_not] at h3
    exact h.elim h3.2 h3.1
  · rw [h2]
    refine refAddB_zero h1 ?_
    unfold roomB at h3
    rw [Bool.or_eq_true, decide_eq_true_iff, decide_eq_true_iff] at h3
    exact h3.symm
theorem refAcc_eq {names : Int} {l : Ent} {acc : List Res} {r : Res} : refAcc names (domsL l) acc r = accS names l acc r := by
  unfold refAcc accS
  rw [refAddB_eq]
theorem RefAt.kept {W W' : World} {base r k : Nat} {names : Int} {acc : List Res} (h : RefAt W base r names acc) (hg : W.grownBy W' (some k)) (hkr : k ≠ r) (hk : ∀ cur, W.heap[k]? ≠ some (.cells cur 56 (0, 0))) : RefAt W' base r names acc := by
  have hl := h.lt
  obtain ⟨v, hb, ho⟩ := h
  refine ⟨v, (hg.block r hl (fun e => hkr (Option.some.inj e).symm)).trans hb, ho.kept hg ?_⟩
  rcases ho.2 with ⟨rfl, _⟩ | ⟨g, cap, cur, rfl, _, hh, _⟩
  · exact .inl rfl
  · refine .inr fun e => ?_
    have : g = k := Option.some.inj e
    subst this
    exact hk cur hh

/-- A tally of the program and one of the document, that stand beside each other. -/
structure Pl (w₀ W : World) (b bm r : Nat) (names : Int) (l : Ent) (acc : List Res) : Prop where
  tal : Tal w₀ W b bm names l acc
  ref : RefAt W w₀.heap.size r names acc
  rb : r ≠ b
  rbm : r ≠ bm
  rge : w₀.heap.size ≤ r
theorem Pl.next {w₀ W W' : World} {b bm r : Nat} {names : Int} {l : Ent} {acc : List Res} (h : Pl w₀ W b bm r names l acc) (hb : Below W.heap.size W W') : Pl w₀ W' b bm r names l acc :=
  ⟨h.tal.next hb, h.ref.below hb, h.rb, h.rbm, h.rge⟩

theorem Pl.kept {w₀ W W' : World} {b bm r k : Nat} {names : Int} {l : Ent} {acc : List Res} (h : Pl w₀ W b bm r names l acc) (hg : W.grownBy W' (some k)) (h1 : k ≠ b) (h2 : k ≠ bm) (h3 : k ≠ r) (hk : ∀ cur, W.heap[k]? ≠ some (.cells cur 56 (0, 0))) : Pl w₀ W' b bm r names l acc :=
  ⟨h.tal.kept hg h1 h2, h.ref.kept hg h3 hk, h.rb, h.rbm, h.rge⟩
theorem RefAt.notRes {W : World} {base r : Nat} {names : Int} {acc : List Res} (h : RefAt W base r names acc) : ∀ cur, W.heap[r]? ≠ some (.cells cur 56 (0, 0)) := by
  intro cur e
  obtain ⟨v, hb, _⟩ := h
  have := hb.symm.trans e
  simp at this
/-- Two blocks that stand as they were. -/
structure K2 (w W : World) (p q : Nat) : Prop where
  a : W.heap[p]? = w.heap[p]?
  b : W.heap[q]? = w.heap[q]?
  size : w.heap.size ≤ W.heap.size
  la : p < w.heap.size
  lb : q < w.heap.size
theorem K2.below {w W W' : World} {p q : Nat} (h : K2 w W p q) (hb : Below W.heap.size W W') : K2 w W' p q :=
  ⟨(hb.block p (Nat.lt_of_lt_of_le h.la h.size)).trans h.a, (hb.block q (Nat.lt_of_lt_of_le h.lb h.size)).trans h.b, Nat.le_trans h.size hb.size, h.la, h.lb⟩
theorem K2.grown {w W W' : World} {p q k : Nat} (h : K2 w W p q) (hg : W.grownBy W' (some k)) (h1 : k ≠ p) (h2 : k ≠ q) : K2 w W' p q :=
  ⟨(hg.block p (Nat.lt_of_lt_of_le h.la h.size) (fun e => h1 (Option.some.inj e).symm)).trans h.a, (hg.block q (Nat.lt_of_lt_of_le h.lb h.size) (fun e => h2 (Option.some.inj e).symm)).trans h.b, Nat.le_trans h.size hg.size, h.la, h.lb⟩

/-- Booleans in memory, wherever. -/
structure ArgB (w₀ : World) (v : Value) (cs : List Bool) : Prop where
  at_ : (v = .slice none 0 0 ∧ cs = []) ∨ ∃ a cap, v = .slice (some a) cs.length cap ∧ cs.length ≤ cap ∧ ∀ i (h : i < cs.length), w₀.cell? (a.add i) = some (.bool cs[i])
def ElemB (w : World) (a : Addr) (i : Nat) (c : Bool) : Prop := ∃ b o s, a.add i = ⟨b, o, s⟩ ∧ w.cell? ⟨b, o, s⟩ = some (.bool c)
theorem ArgB.shape {w₀ : World} {v : Value} {cs : List Bool} (h : ArgB w₀ v cs) : ∃ p c, v = .slice p cs.length c ∧ ∀ i (hi : i < cs.length), ∃ a, p = some a ∧ cs.length ≤ c ∧ ∀ w, Below w₀.heap.size w₀ w → ElemB w a i cs[i] := by
  rcases h.at_ with ⟨rfl, rfl⟩ | ⟨a, cap, rfl, hcap, hc⟩
  · exact ⟨none, 0, rfl, fun i hi => by simp at hi⟩
  · refine ⟨some a, cap, rfl, fun i hi => ⟨a, rfl, hcap, fun w hw => ?_⟩⟩
    have h0 := hc i hi
    obtain ⟨b, o, s, e⟩ : ∃ b o s, a.add i = ⟨b, o, s⟩ := ⟨_, _, _, rfl⟩
    refine ⟨b, o, s, e, ?_⟩
    rw [e] at h0
    exact (hw.cell (p := ⟨b, o, s⟩) (cell_lt h0)).trans h0

set_option maxRecDepth 100000 in
set_option maxHeartbeats 4000000 in
theorem plays_any (w₀ : World) (names : Int) (v v2 : Value) (rs : List Res) (cs : List Bool) (hA : ArgR w₀ v rs) (hA2 : ArgB w₀ v2 cs) (hg : Glob w₀) (hm : MayT w₀) :
    Calls Tryd.prog 5 #[.int .i64 names, v, v2] w₀ fun e w' => e = .returned (.bool true) ∧ Below w₀.heap.size w₀ w' := by
  have hL := long_any2 w₀ v rs hA.at_
  obtain ⟨p, c, rfl, hel⟩ := hA.shape
  obtain ⟨p2, c2, rfl, hel2⟩ := hA2.shape
  have HA := Lib.hid (And.intro hA (And.intro hel (And.intro hg hm)))
  have HA2 := Lib.hid hel2
  clear hA hel hg hm hA2 hel2
  go_enter Tryd.func5, Tryd.ntmps5
  go_wp2_with fail
  refine hL.mono ?_
  rintro e w1 ⟨b, m, rfl, hb, rfl⟩
  have hB1 : Below w₀.heap.size w₀ (w₀.drewN m) := below_drewN (Below.refl _ w₀) m
  have hS1 : Sess w₀ (w₀.drewN m) := ⟨hB1, HA.out.2.2.1, HA.out.2.2.2⟩
  have hW := awake_any (w₀.drewN m) hS1.glob hS1.mayt
  clear hL hB1
  generalize w₀.drewN m = w1 at *
  cases b
  · obtain ⟨hlen, hsh⟩ := hb rfl
    have HL := Lib.hid hsh
    have HS := Lib.hid hS1
    clear hsh hb
    by_cases hn : 1 ≤ names ∧ names ≤ 8
    · obtain ⟨hn1, hn2⟩ := hn
      have hN := new_step hS1 names hn1 hn2
      clear hS1 hW
      go_wp2_with fail
      refine hN.mono ?_
      rintro e w2 ⟨rfl, hT, hB2⟩
      have hX := refNew_good names w2 w₀.heap.size hn1 hn2
      obtain ⟨b1, hb1⟩ : ∃ b, b = w1.heap.size + 1 := ⟨_, rfl⟩
      obtain ⟨bm1, hbm1⟩ : ∃ b, b = w1.heap.size := ⟨_, rfl⟩
      rw [← hb1, ← hbm1] at hT
      rw [← hb1]
      have HE := Lib.hid (And.intro hb1 hbm1)
      have HT := Lib.hid (And.intro (HS.out.next hB2) hT)
      clear hN hB2 hT hb1 hbm1
      go_wp2_with fail
      refine hX.mono ?_
      rintro e w3 ⟨rfl, hR, hB3⟩
      obtain ⟨r1, hr1⟩ : ∃ r, r = w2.heap.size := ⟨_, rfl⟩
      obtain ⟨hb1, hbm1⟩ := HE.out
      have hbl := HT.out.2.blt
      have hbml := HT.out.2.bmlt
      have hsz := HT.out.1.size
      have hP : Pl w₀ w3 b1 bm1 r1 names [] [] := ⟨HT.out.2.next hB3, by rw [hr1]; exact hR, by omega, by omega, by omega⟩
      rw [← hr1]
      have HP := Lib.hid (And.intro (HT.out.1.next hB3) hP)
      clear hX hR hB3 hP hbl hbml hsz HT hb1 hbm1 hr1 HS HE
      go_wp2_with fail
      go_loopw [11] (fun iv wr => ∃ (i : Nat) (l : Ent) (acc : List Res), iv = .int .i64 (i : Int) ∧ i ≤ rs.length ∧ acc.length ≤ i ∧ (∀ x ∈ acc, x ∈ rs) ∧ Sess w₀ wr ∧ Pl w₀ wr b1 bm1 r1 names l acc)
        (fun iv _ => rs.length - natOf iv)
      case atStart => exact ⟨0, [], [], rfl, Nat.zero_le _, Nat.le_refl _, fun x hx => by simp at hx, HP.out.1, HP.out.2⟩
      case round =>
        obtain ⟨i, l, acc, rfl, hi, hai, har, hS, hP⟩ := hrel
        by_cases hlast : i < rs.length
        · have hli : (i : Int) < (rs.length : Int) := by omega
          have HR := Lib.hid (And.intro hai (And.intro har (And.intro hS hP)))
          clear hai har hS hP
          go_upto_region 12 with (fail)
          go_cut [56] from 45 to 116 (fun s56 w' => ∃ hb, s56 = .bool hb ∧ w' = wr)
          case first =>
            by_cases hci : i < cs.length
            · have hci' : (i : Int) < (cs.length : Int) := by omega
              obtain ⟨a, rfl, hcc, hE⟩ := HA2.out i hci
              obtain ⟨Ab, Ao, As, ead, c0⟩ := hE wr HR.out.2.2.1.below
              generalize cs[i] = cb at c0
              go_wp2
              go_meet
              case rel => exact ⟨_, rfl, rfl⟩
            · have hci' : ¬ (i : Int) < (cs.length : Int) := by omega
              go_wp2
              go_meet
              case rel => exact ⟨_, rfl, rfl⟩
          case rest =>
            obtain ⟨hb, rfl, rfl⟩ := hcut
            go_upto_if 56 with (fail)
            go_cut [] from 45 to 116 (fun w' => ∃ l' acc', acc'.length ≤ i ∧ (∀ x ∈ acc', x ∈ rs) ∧ Sess w₀ w' ∧ Pl w₀ w' b1 bm1 r1 names l' acc')
            case first =>
              cases hb
              · go_wp2
                go_meet
                case rel => exact ⟨l, acc, HR.out⟩
              · have hP := HR.out.2.2.2
                have hC := clear_any b1 bm1 names l wc hP.tal.at_ (by have := hP.tal.lt; omega)
                have hrl := hP.ref.lt
                clear hP
                go_wp2_with fail
                refine hC.mono ?_
                rintro e w4 ⟨rfl, hg4, hT4⟩
                have hP := HR.out.2.2.2
                have hr4 := hP.ref.kept hg4 (fun e => hP.rbm e.symm) (fun cur => hP.tal.notRes cur _)
                obtain ⟨vL, hb4, hoL⟩ := hr4
                obtain ⟨pL, cL, rfl⟩ := own_shape hoL
                have x1 : w4.cell? ⟨r1, 1, none⟩ = some (.slice pL acc.length cL) := by simp [World.cell?, hb4]
                have f1 : w4.frozen? ⟨r1, 1, none⟩ = false := by simp [World.frozen?, hb4]
                have hT5 : TallyAt (w4.setCell ⟨r1, 1, none⟩ (.slice none 0 0)) b1 bm1 names [] := ⟨(Below.heap_setCell _ _ _ _ (fun e => hP.rb e.symm)).trans hT4.1, hT4.2.of_block (Below.heap_setCell _ _ _ _ (fun e => hP.rbm e.symm))⟩
                have hR5 : RefAt (w4.setCell ⟨r1, 1, none⟩ (.slice none 0 0)) w₀.heap.size r1 names [] := ⟨_, heap_setCell_self hb4, ⟨rfl, .inl ⟨rfl, rfl⟩⟩⟩
                have hS5 : Sess w₀ (w4.setCell ⟨r1, 1, none⟩ (.slice none 0 0)) := HR.out.2.2.1.to ((HR.out.2.2.1.below.grown hg4 HR.out.2.2.1.size (fun k e => by cases e; exact hP.tal.ge)).setCell (p := ⟨r1, 1, none⟩) hP.rge _)
                have HC := Lib.hid (show acc.length ≤ acc.length ∧ _ ∧ _ from ⟨Nat.le_refl _, hS5, (⟨⟨hT5, Inv.nil (by omega), hP.tal.ge, hP.tal.lt⟩, hR5, hP.rb, hP.rbm, hP.rge⟩ : Pl w₀ _ b1 bm1 r1 names [] [])⟩)
                clear hT5 hR5 hS5 hP hb4 hoL hg4 hT4 hC hrl
                go_wp2
                go_meet
                case rel => exact ⟨[], [], Nat.zero_le _, fun x hx => by simp at hx, HC.out.2.1, HC.out.2.2⟩
            case rest =>
              obtain ⟨l', acc', hai, har, hS, hP⟩ := hcut
              have hmem : rs[i] ∈ rs := List.getElem_mem hlast
              obtain ⟨q1, q2, q3⟩ := HA.out.1.lim rs[i] hmem
              have hsl := HL.out i hlast
              obtain ⟨a, rfl, hc, hE⟩ := HA.out.2.1 i hlast
              generalize rs[i] = r at *
              have hC := copyT_any b1 bm1 names l' wc hP.tal.at_
              have HQ := Lib.hid (And.intro hai (And.intro har (And.intro hmem (And.intro q1 (And.intro q2 (And.intro q3 (And.intro hsl hE)))))))
              have HPa := Lib.hid (And.intro hS hP)
              clear hai har hmem q1 q2 q3 hsl hE hS hP HR
              go_wp2_with fail
              refine hC.mono ?_
              rintro e w4 ⟨b2, bm2, rfl, hbm2, hb2, hT4, hB4⟩
              have hP4 := HPa.out.2.next hB4
              have hS4 := HPa.out.1.next hB4
              have hY := refCopy_any w4 w₀.heap.size r1 names acc' hP4.ref
              have HP4 := Lib.hid (And.intro hS4 (And.intro hP4 (And.intro (show Tal w₀ w4 b2 bm2 names l' acc' from ⟨hT4, HPa.out.2.tal.inv, Nat.le_trans HPa.out.1.size hbm2, hb2⟩) (And.intro (show b1 < bm2 from Nat.lt_of_lt_of_le HPa.out.2.tal.blt hbm2) (show r1 < bm2 from Nat.lt_of_lt_of_le HPa.out.2.ref.lt hbm2)))))
              clear hC hbm2 hb2 hT4 hB4 hP4 hS4
              go_wp2_with fail
              refine hY.mono ?_
              rintro e w5 ⟨rfl, hY5, hB5⟩
              have hS5 := HP4.out.1.next hB5
              have hP5 := HP4.out.2.1.next hB5
              have hT5 := HP4.out.2.2.1.next hB5
              obtain ⟨y1, hy1⟩ : ∃ y, y = w4.heap.size := ⟨_, rfl⟩
              have hb24 := HP4.out.2.2.1.blt
              have hbm24 := HP4.out.2.2.1.bmlt
              rw [← hy1] at hY5 ⊢
              have hP2 : Pl w₀ w5 b2 bm2 y1 names l' acc' := ⟨hT5, hY5, by omega, by omega, by rw [hy1]; exact HP4.out.1.size⟩
              have hy : bm2 < y1 := by omega
              obtain ⟨Ab, Ao, As, ead, c0, c1, c2⟩ := HQ.out.2.2.2.2.2.2.2 w5 hS5.below
              have HP5 := Lib.hid (And.intro hS5 (And.intro hP5 (And.intro hP2 hy)))
              clear hY hY5 hB5 hS5 hP5 hT5 hy1 hb24 hbm24 hP2 hy
              go_upto_region 17 with (fail)
              obtain ⟨w6, hw6⟩ : ∃ w6, w6 = w5.alloc (.cells #[.string ⟨r.1.1.toArray⟩, .int .u8 (r.1.2 : Int), .int .u8 (r.2 : Int)] 56) := ⟨_, rfl⟩
              obtain ⟨B, hBB⟩ : ∃ B, B = w5.heap.size := ⟨_, rfl⟩
              rw [← hw6, ← hBB]
              have hAb : Ab < w₀.heap.size := by
                have hq := HQ.out.2.2.2.2.2.2.2 w₀ (Below.refl _ _)
                obtain ⟨Ab', Ao', As', ead', d0, _⟩ := hq
                rw [ead] at ead'
                injection ead' with e1 e2 e3
                subst e1 e2 e3
                exact cell_lt d0
              have hB6 : Below w5.heap.size w5 w6 := by rw [hw6]; exact (Below.refl _ _).alloc (Nat.le_refl _) _
              have hbox : w6.heap[B]? = some (.cells #[.string ⟨r.1.1.toArray⟩, .int .u8 (r.1.2 : Int), .int .u8 (r.2 : Int)] 56 (0, 0)) := by rw [hw6, hBB]; exact ha_eq rfl
              have hlt5 : Ab < w5.heap.size := Nat.lt_of_lt_of_le hAb HP5.out.1.size
              have d0 := (hB6.cell (p := ⟨Ab, Ao, As⟩) hlt5).trans c0
              have d1 := (hB6.cell (p := ⟨Ab, Ao + 1, none⟩) hlt5).trans c1
              have d2 := (hB6.cell (p := ⟨Ab, Ao + 2, none⟩) hlt5).trans c2
              have hS6 : Sess w₀ w6.drew := (HP5.out.1.next hB6).to (below_drw (HP5.out.1.next hB6).below)
              have hP6 := (HP5.out.2.1.next hB6).next (below_drw (Below.refl _ _))
              have hQ6 := (HP5.out.2.2.1.next hB6).next (below_drw (Below.refl _ _))
              have hsz6 : w6.heap.size = w5.heap.size + 1 := by rw [hw6]; simp
              have k6 : K2 w6 w6.drew Ab B := ⟨rfl, rfl, Nat.le_refl _, by omega, by omega⟩
              have keepH : ∀ W', K2 w6 W' Ab B → W'.cell? ⟨Ab, Ao, As⟩ = some (.string ⟨r.1.1.toArray⟩) ∧ W'.cell? ⟨Ab, Ao + 1, none⟩ = some (.int .u8 (r.1.2 : Int)) ∧ W'.cell? ⟨Ab, Ao + 2, none⟩ = some (.int .u8 (r.2 : Int)) ∧ W'.cell? ⟨B, 0, none⟩ = some (.string ⟨r.1.1.toArray⟩) ∧ W'.cell? ⟨B, 1, none⟩ = some (.int .u8 (r.1.2 : Int)) ∧ W'.cell? ⟨B, 2, none⟩ = some (.int .u8 (r.2 : Int)) := fun W' h => by
                refine ⟨(World.cell?_of_block (a := ⟨Ab, Ao, As⟩) h.a).trans d0, (World.cell?_of_block (a := ⟨Ab, Ao + 1, none⟩) h.a).trans d1, (World.cell?_of_block (a := ⟨Ab, Ao + 2, none⟩) h.a).trans d2, ?_, ?_, ?_⟩ <;> simp [World.cell?, h.b, hbox]
              have hnb : bm1 ≠ Ab ∧ bm1 ≠ B ∧ r1 ≠ Ab ∧ r1 ≠ B := by
                have h1 := HP5.out.2.1.tal.ge
                have h2 := HP5.out.2.1.rge
                have h3 := HP5.out.2.1.tal.bmlt
                have h4 := HP5.out.2.1.ref.lt
                omega
              have hdis : bm1 ≠ b2 ∧ bm1 ≠ bm2 ∧ bm1 ≠ y1 ∧ r1 ≠ b2 ∧ r1 ≠ bm2 ∧ r1 ≠ y1 := by
                have h1 := HP4.out.2.2.2.1
                have h2 := HP4.out.2.2.2.2
                have h3 := HP5.out.2.2.2
                have h4 := HP5.out.2.1.tal.lt
                have h5 := HP5.out.2.2.1.tal.lt
                omega
              have hal : acc'.length ≤ 134 := by have := HQ.out.1; omega
              have hsm : ∀ x ∈ acc', x.1.1.length ≤ 1000000 := fun x hx => by
                obtain ⟨j, hj, rfl⟩ := List.getElem_of_mem (HQ.out.2.1 x hx)
                have := HL.out j hj
                omega
              have hrs : r.1.1.length ≤ 1000000 := by have := HQ.out.2.2.2.2.2.2.1; omega
              have hsm2 : ∀ x ∈ accS names l' acc' r, x.1.1.length ≤ 1000000 := fun x hx => by
                rcases accS_mem hx with h | rfl
                · exact hsm x h
                · exact hrs
              have hal2 : (accS names l' acc' r).length ≤ 135 := by have := accS_len names l' acc' r; omega
              have hAdd := add_step hS6 hP6.tal r HQ.out.2.2.2.1 HQ.out.2.2.2.2.1 HQ.out.2.2.2.2.2.1 (by omega)
              have hAdd2 : ∀ W, RefAt W w₀.heap.size r1 names acc' → w₀.heap.size ≤ W.heap.size → Calls Tryd.prog 23 #[.pointer (some ⟨r1, 0, none⟩), .agg #[.string ⟨r.1.1.toArray⟩, .int .u8 (r.1.2 : Int), .int .u8 (r.2 : Int)]] W fun e w' => e = .returned (.int .i64 (addB names l' r.1.1 r.1.2 r.2)) ∧ RefAt w' w₀.heap.size r1 names (accS names l' acc' r) ∧ W.grownBy w' (some r1) := fun W hR hs => by
                refine (refAdd_any W w₀.heap.size r1 names acc' r hR hs (by omega) hsm hrs).mono ?_
                rintro e w' ⟨hg, hall⟩
                obtain ⟨he, hR'⟩ := hall _ (asc_domsL l') hP6.tal.inv.doms
                rw [refAddB_eq] at he
                rw [refAcc_eq] at hR'
                exact ⟨he, hR', hg⟩
              have hMay : ∀ W, Sess w₀ W → Calls Tryd.prog 24 #[.agg #[.string ⟨r.1.1.toArray⟩, .int .u8 (r.1.2 : Int), .int .u8 (r.2 : Int)]] W fun e w' => e = .returned (.bool (okR r)) ∧ Below W.heap.size W w' := fun W hS =>
                tallyMay_any ⟨r.1.1.toArray⟩ r.1.2 (r.2 : Int) W HQ.out.2.2.2.1 hS.glob hS.mayt HQ.out.2.2.2.2.1 (by omega)
              have hMay2 : ∀ W, Calls Tryd.prog 25 #[.agg #[.string ⟨r.1.1.toArray⟩, .int .u8 (r.1.2 : Int), .int .u8 (r.2 : Int)]] W fun e w' => e = .returned (.bool (okR r)) ∧ Below W.heap.size W w' := fun W => refMay19_any r W hrs
              have hLike : ∀ W, Pl w₀ W b1 bm1 r1 names (addS names l' r.1.1 r.1.2 r.2) (accS names l' acc' r) → Calls Tryd.prog 26 #[.pointer (some ⟨b1, 0, none⟩), .pointer (some ⟨r1, 0, none⟩)] W fun e w' => e = .returned (.bool true) ∧ Below W.heap.size W w' := fun W h => like_any w₀ W b1 bm1 r1 _ names _ _ h.tal h.ref (by omega) hsm2
              have hLike2 : ∀ W, Pl w₀ W b2 bm2 y1 names l' acc' → Calls Tryd.prog 26 #[.pointer (some ⟨b2, 0, none⟩), .pointer (some ⟨y1, 0, none⟩)] W fun e w' => e = .returned (.bool true) ∧ Below W.heap.size W w' := fun W h => like_any w₀ W b2 bm2 y1 _ names _ _ h.tal h.ref (by omega) hsm
              have H6 := Lib.hid (And.intro hS6 (And.intro hP6 (And.intro hQ6 (And.intro hnb hdis))))
              have H7 := Lib.hid (And.intro hal2 (And.intro hsm2 hsm))
              clear hS6 hP6 hQ6 hnb hdis hbox d0 d1 d2 c0 c1 c2 hB6 hw6 hBB hsz6 hsm hrs hsm2 hal hal2 hlt5 hAb
              generalize addB names l' r.1.1 r.1.2 r.2 = z at hAdd hAdd2
              generalize okR r = ok at hMay hMay2
              go_region_held3 (fun W' => W'.cell? ⟨Ab, Ao, As⟩ = some (.string ⟨r.1.1.toArray⟩) ∧ W'.cell? ⟨Ab, Ao + 1, none⟩ = some (.int .u8 (r.1.2 : Int)) ∧ W'.cell? ⟨Ab, Ao + 2, none⟩ = some (.int .u8 (r.2 : Int)) ∧ W'.cell? ⟨B, 0, none⟩ = some (.string ⟨r.1.1.toArray⟩) ∧ W'.cell? ⟨B, 1, none⟩ = some (.int .u8 (r.1.2 : Int)) ∧ W'.cell? ⟨B, 2, none⟩ = some (.int .u8 (r.2 : Int)))
                ((first
                  | with_reducible exact keepH _ k6
                  | with_reducible exact keepH _ kf
                  | with_reducible exact keepH _ ke
                  | with_reducible exact keepH _ kd
                  | with_reducible exact keepH _ kc
                  | with_reducible exact keepH _ kb
                  | with_reducible exact keepH _ ka))
                ((first
                  | (go_at_call 14
                     refine hAdd.mono ?_
                     rintro e wa ⟨rfl, hSa, hTa, hga⟩
                     have ka := k6.grown hga H6.out.2.2.2.1.1 H6.out.2.2.2.1.2.1
                     have hRa := H6.out.2.1.ref.kept hga (fun e => H6.out.2.1.rbm e.symm) (fun cur => H6.out.2.1.tal.notRes cur _)
                     have hQa := H6.out.2.2.1.kept hga H6.out.2.2.2.2.1 H6.out.2.2.2.2.2.1 H6.out.2.2.2.2.2.2.1 (fun cur => H6.out.2.1.tal.notRes cur _))
                  | (go_at_call 23
                     refine (hAdd2 _ hRa hSa.size).mono ?_
                     rintro e wb ⟨rfl, hRb, hgb⟩
                     have kb := ka.grown hgb H6.out.2.2.2.1.2.2.1 H6.out.2.2.2.1.2.2.2
                     have hPb : Pl w₀ wb b1 bm1 r1 names _ _ := ⟨hTa.kept hgb H6.out.2.1.rb H6.out.2.1.rbm, hRb, H6.out.2.1.rb, H6.out.2.1.rbm, H6.out.2.1.rge⟩
                     have hQb := hQa.kept hgb H6.out.2.2.2.2.2.2.2.1 H6.out.2.2.2.2.2.2.2.2.1 H6.out.2.2.2.2.2.2.2.2.2 hRa.notRes
                     have hSb : Sess w₀ wb := hSa.to (hSa.below.grown hgb hSa.size (fun k e => by cases e; exact H6.out.2.1.rge)))
                  | (go_at_call 24
                     refine (hMay _ hSb).mono ?_
                     rintro e wc' ⟨rfl, hBc⟩
                     have kc := kb.below hBc)
                  | (go_at_call 25
                     refine (hMay2 _).mono ?_
                     rintro e wd ⟨rfl, hBd⟩
                     have kd := kc.below hBd)
                  | (go_at_call_of 26 (Value.pointer (some (Addr.mk b1 0 none)))
                     refine (hLike _ ((hPb.next hBc).next hBd)).mono ?_
                     rintro e we ⟨rfl, hBe⟩
                     have ke := kd.below hBe)
                  | (go_at_call_of 26 (Value.pointer (some (Addr.mk b2 0 none)))
                     refine (hLike2 _ (((hQb.next hBc).next hBd).next hBe)).mono ?_
                     rintro e wf ⟨rfl, hBf⟩
                     have kf := ke.below hBf)))
              have hPf := (((hPb.next hBc).next hBd).next hBe).next hBf
              have hQf := (((hQb.next hBc).next hBd).next hBe).next hBf
              have hSf := (((hSb.next hBc).next hBd).next hBe).next hBf
              have hC2 := clear_any b2 bm2 names l' wf hQf.tal.at_ (by have := hQf.tal.lt; omega)
              have H8 := Lib.hid (And.intro hPf (And.intro hQf hSf))
              clear hPf hQf hSf hPb hQb hSb hBc hBd hBe hBf hTa hSa hQa hRa hga hgb hRb ka kb kc kd ke kf k6 keepH hAdd hAdd2 hMay hMay2 hLike hLike2
              go_wp2_with fail
              refine hC2.mono ?_
              rintro e w7 ⟨rfl, hg7, hT7⟩
              have hbb : bm2 ≠ b1 ∧ bm2 ≠ bm1 ∧ bm2 ≠ r1 := by
                have h1 := HP4.out.2.2.2.1
                have h2 := HP4.out.2.2.2.2
                have h4 := HP5.out.2.1.tal.lt
                omega
              have hP7 := H8.out.1.kept hg7 hbb.1 hbb.2.1 hbb.2.2 (fun cur => H8.out.2.1.tal.notRes cur _)
              have hS7 : Sess w₀ w7 := H8.out.2.2.to (H8.out.2.2.below.grown hg7 H8.out.2.2.size (fun k e => by cases e; exact H8.out.2.1.tal.ge))
              have hC7 : Tal w₀ w7 b2 bm2 names [] [] := ⟨hT7, Inv.nil (by omega), H8.out.2.1.tal.ge, H8.out.2.1.tal.lt⟩
              have hA1 : ∀ W, Below w7.heap.size w7 W → Calls Tryd.prog 18 #[.pointer (some ⟨b2, 0, none⟩)] W fun e w' => e = .returned (.int .i64 0) ∧ Below W.heap.size W w' := fun W hb => all_step (hC7.next hb) (by simp)
              have hA3 : ∀ W, Below w7.heap.size w7 W → Calls Tryd.prog 18 #[.pointer (some ⟨b1, 0, none⟩)] W fun e w' => e = .returned (.int .i64 ((accS names l' acc' r).length : Int)) ∧ Below W.heap.size W w' := fun W hb => all_step (hP7.next hb).tal (by have := H7.out.1; omega)
              have hr7 := hP7.ref
              obtain ⟨vL, hb7, hoL⟩ := hr7
              obtain ⟨pL, cL, rfl⟩ := own_shape hoL
              have x1 : w7.cell? ⟨r1, 1, none⟩ = some (.slice pL (accS names l' acc' r).length cL) := by simp [World.cell?, hb7]
              have hrl := hP7.ref.lt
              have keepS : ∀ W', Below w7.heap.size w7 W' → Below w7.heap.size w7 W' ∧ W'.cell? ⟨r1, 1, none⟩ = some (.slice pL (accS names l' acc' r).length cL) := fun W' hb => ⟨hb, (hb.cell (p := ⟨r1, 1, none⟩) hrl).trans x1⟩
              have H9 := Lib.hid (And.intro hP7 hS7)
              clear hP7 hS7 hC7 hT7 hg7 hb7 hoL hrl x1 hC2 hbb
              generalize hal : (accS names l' acc' r).length = al at *
              have HAL := Lib.hid hal
              clear hal
              go_wp2_with fail
              go_region_held3 (fun W' => Below w7.heap.size w7 W' ∧ W'.cell? ⟨r1, 1, none⟩ = some (.slice pL al cL))
                ((refine keepS _ ?_; first
                  | with_reducible exact (And.left ‹Below w7.heap.size w7 _ ∧ _›).trans (Below.less hB9 (And.left ‹Below w7.heap.size w7 _ ∧ _›).size)
                  | with_reducible exact (And.left ‹Below w7.heap.size w7 _ ∧ _›).trans (Below.less hB8 (And.left ‹Below w7.heap.size w7 _ ∧ _›).size)
                  | exact below_drw (Below.refl _ _)))
                ((first
                  | (go_at_call_of 18 (Value.pointer (some (Addr.mk b2 0 none)))
                     refine (hA1 _ (And.left ‹Below w7.heap.size w7 _ ∧ _›)).mono ?_
                     rintro e w8 ⟨rfl, hB8⟩)
                  | (go_at_call_of 18 (Value.pointer (some (Addr.mk b1 0 none)))
                     refine (hA3 _ (And.left ‹Below w7.heap.size w7 _ ∧ _›)).mono ?_
                     rintro e w9 ⟨rfl, hB9⟩)))
              have hB79 := And.left ‹Below w7.heap.size w7 _ ∧ _›
              have H10 := Lib.hid (And.intro (H9.out.1.next hB79) (H9.out.2.next hB79))
              clear hB79 hB8 hB9 keepS hA1 hA3
              go_wp2
              go_roundw
              case rel =>
                refine ⟨i + 1, addS names l' r.1.1 r.1.2 r.2, accS names l' acc' r, by simp, by omega, ?_, ?_, H10.out.2, H10.out.1⟩
                · have h1 := accS_len names l' acc' r
                  have h2 := HQ.out.1
                  omega
                · intro x hx
                  rcases accS_mem hx with h1 | rfl
                  · exact HQ.out.2.1 x h1
                  · exact HQ.out.2.2.1
              case measure => simp [natOf]; omega
        · have hli : ¬ (i : Int) < (rs.length : Int) := by omega
          have hal : acc.length ≤ 134 := by omega
          have hsm : ∀ x ∈ acc, x.1.1.length ≤ 1000000 := fun x hx => by
            obtain ⟨j, hj, rfl⟩ := List.getElem_of_mem (har x hx)
            have := HL.out j hj
            omega
          have hLk := like_any w₀ wr b1 bm1 r1 _ names _ _ hP.tal hP.ref (by omega) hsm
          have HQ := Lib.hid hS
          clear hS hP har hai hi hal hsm
          go_wp2_with fail
          refine hLk.mono ?_
          rintro e w4 ⟨rfl, hB4⟩
          have hS4 := HQ.out.next hB4
          have hW := awake_any w4 hS4.glob hS4.mayt
          have HS4 := Lib.hid hS4
          clear hLk hB4 hS4
          go_wp2_with fail
          refine hW.mono ?_
          rintro e w5 ⟨rfl, hB5⟩
          have HB := Lib.hid (HS4.out.next hB5).below
          clear hB5 hW
          go_wp2
          refine bodyPost_ret (v := .bool true) (by simp [results, Tryd.results5, go_sem]) rfl ⟨rfl, HB.out⟩
    · have hbad : names < 1 ∨ 8 < names := by omega
      have hN := tallyNew_bad names w1 hbad
      have hX := refNew_bad names w1 hbad
      clear hS1 hn hbad
      go_wp2_with fail
      refine hN.mono ?_
      rintro e w2 ⟨rfl, rfl⟩
      clear hN
      go_wp2_with fail
      refine hX.mono ?_
      rintro e w2 ⟨rfl, rfl⟩
      clear hX
      go_wp2_with fail
      refine hW.mono ?_
      rintro e w5 ⟨rfl, hB5⟩
      have HB := Lib.hid (HS.out.next hB5).below
      clear hB5 hW
      go_wp2
      refine bodyPost_ret (v := .bool true) (by simp [results, Tryd.results5, go_sem]) rfl ⟨rfl, HB.out⟩
  · have HS := Lib.hid hS1
    clear hb hS1
    go_wp2_with fail
    refine hW.mono ?_
    rintro e w2 ⟨rfl, hB2⟩
    have HB := Lib.hid (HS.out.next hB2).below
    clear hB2 hW
    go_wp2
    refine bodyPost_ret (v := .bool true) (by simp [results, Tryd.results5, go_sem]) rfl ⟨rfl, HB.out⟩
end Go.Proofs.YthhcigmdocldnaaDoor
