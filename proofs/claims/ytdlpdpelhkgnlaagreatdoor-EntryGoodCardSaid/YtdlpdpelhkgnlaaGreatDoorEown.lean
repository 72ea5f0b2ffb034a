/- Own rows are read; the laws' helper ints. -/
import Derived.Test.YtdlpdpelhkgnlaaGreatDoorEenda
namespace Go.Proofs.YtdlpdpelhkgnlaaGreatDoor
open Go Go.RowKit Go.Shelf Go.Sort
attribute [local go_sem] bneI

theorem flat_at {α : Type} {k : Nat} {enc : α → List Value} (h : ∀ x, (enc x).length = k) : ∀ (xs : List α) (i : Nat) (hi : i < xs.length) (j : Nat) (u : Value), (enc xs[i])[j]? = some u → (xs.flatMap enc)[i * k + j]? = some u
  | [], i, hi, j, u, _ => by simp at hi
  | x :: xs, 0, _, j, u, hu => by
    have hj : j < (enc x).length := (List.getElem?_eq_some_iff.1 hu).1
    rw [List.flatMap_cons, Nat.zero_mul, Nat.zero_add, List.getElem?_append_left hj]
    exact hu
  | x :: xs, i + 1, hi, j, u, hu => by
    rw [List.flatMap_cons, List.getElem?_append_right (by rw [h, Nat.succ_mul]; omega), h, show (i + 1) * k + j - k = i * k + j by rw [Nat.succ_mul]; omega]
    exact flat_at h xs i (by simpa using hi) j u (by simpa using hu)
theorem own_rowK {α : Type} {k : Nat} {enc : α → List Value} (he : ∀ x, (enc x).length = k) {w : World} {base : Nat} {T : TypeId} {v : Value} {xs : List α} (h : w.ownsRow base T k v xs.length (xs.flatMap enc)) : RowK k enc w v xs := by
  rcases h.2 with ⟨rfl, h0⟩ | ⟨g, cap, cur, rfl, _, hc, hnc, _, hs, ht⟩
  · have : xs = [] := List.eq_nil_of_length_eq_zero h0
    subst this
    exact RowK.nil
  · refine ⟨some ⟨g, 0, none⟩, cap, rfl, hnc, fun _ => ⟨g, 0, rfl, fun i hi j u hu => ?_⟩⟩
    have h1 := flat_at he xs i hi j u hu
    rw [← ht, List.getElem?_take] at h1
    split at h1
    · simp only [World.cell?, hc, Nat.zero_add]
      rw [← Array.getElem?_toList, h1]
      rfl
    · cases h1
theorem OwnE.at {w : World} {base : Nat} {x : EntP} {sv fv jv : Value} (h : OwnE w base x sv fv jv) : EntAt w x sv fv jv := ⟨own_rowK (k := 2) (enc := rcE) (fun _ => rfl) h.rc, own_rowK (k := 2) (enc := faE) (fun _ => rfl) h.fa, own_rowK (k := 3) (enc := joE) (fun _ => rfl) h.jo⟩
def naE (n : Nat) : List Value := [natV n]
theorem flat_na : ∀ ws : List Nat, ws.flatMap naE = ws.map natV
  | [] => rfl
  | a :: l => by rw [List.flatMap_cons, flat_na l]; rfl
theorem own_nat {w : World} {base : Nat} {T : TypeId} {v : Value} {ws : List Nat} (h : w.ownsRow base T 1 v ws.length (ws.map natV)) : RowK 1 naE w v ws := by
  refine own_rowK (k := 1) (enc := naE) (base := base) (T := T) (fun _ => rfl) ?_
  rw [flat_na]
  exact h
set_option maxRecDepth 100000 in
set_option maxHeartbeats 4000000 in
theorem ints_any (xs ys : List Nat) (u v : Value) (w : World) (hx : RowK 1 naE w u xs) (hy : RowK 1 naE w v ys) (hn : xs.length ≤ 1000000) :
    Calls Tryz.prog 23 #[u, v] w fun e w' => e = .returned (.bool (decide (xs = ys))) ∧ Below w.heap.size w w' := by
  obtain ⟨p, c, rfl, -⟩ := hx.sh
  obtain ⟨q, d, rfl, -⟩ := hy.sh
  have HX := Lib.hid (And.intro hx hy)
  clear hx hy
  by_cases hl : xs.length = ys.length
  · rw [← hl]
    have HL := Lib.hid hl
    clear hl
    go_enter Tryz.func23, Tryz.ntmps23
    go_wp2_with fail
    go_loopw [5] (fun s5 wr => ∃ (i : Nat), s5 = .int .i64 (i : Int) ∧ i ≤ xs.length ∧ xs.take i = ys.take i ∧ Below w.heap.size w wr) (fun s5 _ => xs.length - natI s5)
    case atStart => exact ⟨0, rfl, Nat.zero_le _, rfl, Below.refl _ _⟩
    case round =>
      obtain ⟨i, rfl, hi, ht, hB⟩ := hrel
      have HR := Lib.hid (And.intro ht hB)
      clear ht hB
      by_cases hlast : i < xs.length
      · have hli : (i : Int) < (xs.length : Int) := by omega
        have hly : i < ys.length := by rw [← HL.out]; exact hlast
        obtain ⟨b, o, rfl, hc⟩ := (HX.out.1.below HR.out.2).at i hlast
        obtain ⟨b2, o2, rfl, hc2⟩ := (HX.out.2.below HR.out.2).at i hly
        have y0 : wr.cell? ⟨b, o + i * 1 + 0, none⟩ = some (natV xs[i]) := hc i hlast 0 _ rfl
        have y1 : wr.cell? ⟨b2, o2 + i * 1 + 0, none⟩ = some (natV ys[i]) := hc2 i hly 0 _ rfl
        clear hc hc2
        have hw1 : wrap64 ((i : Int) + 1) = (i : Int) + 1 := by unfold wrap64; omega
        have tx : xs.take (i + 1) = xs.take i ++ [xs[i]] := List.take_succ_eq_append_getElem hlast
        have ty : ys.take (i + 1) = ys.take i ++ [ys[i]] := List.take_succ_eq_append_getElem hly
        rw [Nat.mul_one, Nat.add_zero] at y0 y1
        unfold natV at y0 y1
        obtain ⟨a, ha⟩ : ∃ a, a = xs[i] := ⟨_, rfl⟩
        obtain ⟨a2, ha2⟩ : ∃ a, a = ys[i] := ⟨_, rfl⟩
        rw [← ha] at y0 tx
        rw [← ha2] at y1 ty
        by_cases he : a = a2
        · subst he
          have hnx : xs.take (i + 1) = ys.take (i + 1) := by rw [tx, ty, HR.out.1]
          have HN := Lib.hid (And.intro hnx hw1)
          clear hnx tx ty ha ha2
          go_upto_region 6 with (fail)
          go_quiet (fail)
          have hw1 := HN.out.2
          go_wp2
          go_roundw
          case rel => exact ⟨i + 1, by simp, by omega, HN.out.1, HR.out.2.trans ((below_drewN (Below.refl _ _) _).mono HR.out.2.size)⟩
          case measure => simp [natI]; omega
        · have hne1 : decide ((a : Int) = (a2 : Int)) = false := decide_eq_false (by omega)
          have hne2 : ((a : Int) == (a2 : Int)) = false := beq_eq_false_iff_ne.2 (by omega)
          have hne3 : decide (a = a2) = false := by simpa using he
          have hno : xs ≠ ys := by
            intro e
            subst e
            exact he (by rw [ha, ha2])
          have HN := Lib.hid hno
          clear hno tx ty ha ha2
          go_upto_region 6 with (fail)
          go_quiet (fail)
          go_wp2
          refine bodyPost_ret (v := .bool false) (by simp [results, Tryz.results23, go_sem]) rfl ⟨by rw [decide_eq_false HN.out], HR.out.2.trans ((below_drewN (Below.refl _ _) _).mono HR.out.2.size)⟩
      · have hli : ¬ (i : Int) < (xs.length : Int) := by omega
        have heq : xs = ys := by
          have h1 := HR.out.1
          rw [List.take_of_length_le (by omega), List.take_of_length_le (by rw [← HL.out]; omega)] at h1
          exact h1
        have HQ := Lib.hid heq
        clear heq
        go_wp2
        refine bodyPost_ret (v := .bool true) (by simp [results, Tryz.results23, go_sem]) rfl ⟨by rw [decide_eq_true HQ.out], HR.out.2⟩
  · have hl0 : ¬ (xs.length : Int) = (ys.length : Int) := by omega
    have hl1 : ((xs.length : Int) == (ys.length : Int)) = false := beq_eq_false_iff_ne.2 hl0
    have hl2 : decide ((xs.length : Int) = (ys.length : Int)) = false := decide_eq_false hl0
    have hl3 : decide (xs.length = ys.length) = false := decide_eq_false hl
    have hno : xs ≠ ys := fun e => hl (by rw [e])
    go_enter Tryz.func23, Tryz.ntmps23
    go_wp2
    refine bodyPost_ret (v := .bool false) (by simp [results, Tryz.results23, go_sem]) rfl ⟨by rw [decide_eq_false hno], Below.refl _ _⟩
end Go.Proofs.YtdlpdpelhkgnlaaGreatDoor
