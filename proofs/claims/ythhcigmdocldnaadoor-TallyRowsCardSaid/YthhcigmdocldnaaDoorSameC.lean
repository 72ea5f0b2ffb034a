/- Package tally's Same at whatever rows, wherever they lie. -/
import Derived.Test.YthhcigmdocldnaaDoorShelf
import Derived.Test.YthhcigmdocldnaaDoorSameB
namespace Go.Proofs.YthhcigmdocldnaaDoor
open Go Go.RowKit Go.Shelf Go.Sort

theorem rowIn_form {w : World} {n₀ : Nat} {fv : Value} {fl : List Int} (h : RowIn w n₀ fv fl.length (fl.map (Value.int .i64))) (hp : 0 < fl.length) : ∃ b o c, fv = .slice (some ⟨b, o, none⟩) fl.length c ∧ ∀ j, j < fl.length → w.cell? ⟨b, o + j, none⟩ = some (.int .i64 (fl.getD j 0)) := by
  rcases h with ⟨_, h0, _⟩ | ⟨⟨b, o, s⟩, c, rfl, _, hc⟩
  · omega
  · have hk : ∀ j (hj : j < fl.length), w.cell? ((⟨b, o, s⟩ : Addr).add j) = some (.int .i64 fl[j]) := fun j hj => hc j _ (by rw [List.getElem?_map, List.getElem?_eq_getElem hj]; rfl)
    have h0 := hk 0 hp
    have hs : s = none := by simpa [Addr.add] using World.cell?_spot h0
    subst hs
    refine ⟨b, o, c, rfl, fun j hj => ?_⟩
    have := hk j hj
    rw [addrk] at this
    rw [this]
    simp [List.getD_eq_getElem?_getD, hj]
theorem rowIn_shape {w : World} {n₀ : Nat} {fv : Value} {n : Nat} {l : List Value} (h : RowIn w n₀ fv n l) : ∃ p c, fv = .slice p n c := by
  rcases h with ⟨rfl, rfl, _⟩ | ⟨ad, c, rfl, _⟩
  · exact ⟨none, 0, rfl⟩
  · exact ⟨_, _, rfl⟩
theorem ints_any (w : World) (n₀ n₁ : Nat) (fv fv' : Value) (fl fl' : List Int) (h : RowIn w n₀ fv fl.length (fl.map (Value.int .i64))) (h' : RowIn w n₁ fv' fl'.length (fl'.map (Value.int .i64))) (hl : fl.length ≤ maxLen) (hl' : fl'.length ≤ maxLen) :
    Calls Tryd.prog 53 #[fv, fv'] w fun e w' => e = .returned (.bool (decide (fl = fl'))) ∧ Below w.heap.size w w' := by
  unfold maxLen at hl hl'
  by_cases hlen : fl.length = fl'.length
  · by_cases hp : 0 < fl.length
    · obtain ⟨b, o, c, rfl, hc⟩ := rowIn_form h hp
      obtain ⟨b', o', c', rfl, hc'⟩ := rowIn_form h' (by omega)
      refine (Tryd.slices_Equal_int b o fl.length c b' o' fl'.length c' fl fl' w (Nat.le_refl _) (Nat.le_refl _) (by omega) (by omega) hc hc').mono ?_
      rintro e w' ⟨rfl, q, rfl⟩
      refine ⟨?_, below_drewN (Below.refl _ _) _⟩
      rw [List.take_length, List.take_length]
      rw [show (fl == fl') = decide (fl = fl') from by by_cases e : fl = fl' <;> simp [e]]
    · have e0 : fl = [] := List.eq_nil_of_length_eq_zero (by omega)
      have e1 : fl' = [] := List.eq_nil_of_length_eq_zero (by omega)
      subst e0 e1
      obtain ⟨p, c, rfl⟩ := rowIn_shape h
      obtain ⟨p', c', rfl⟩ := rowIn_shape h'
      refine (Tryd.slices_Equal_int_empty p p' c 0 c' w (by omega)).mono ?_
      rintro e w' ⟨rfl, rfl⟩
      exact ⟨rfl, Below.refl _ _⟩
  · obtain ⟨p, c, rfl⟩ := rowIn_shape h
    obtain ⟨p', c', rfl⟩ := rowIn_shape h'
    refine (Tryd.slices_Equal_int_lens p p' fl.length c fl'.length c' w hlen).mono ?_
    rintro e w' ⟨rfl, rfl⟩
    exact ⟨by rw [decide_eq_false (fun e => hlen (by rw [e]))], Below.refl _ _⟩

set_option maxRecDepth 100000 in
set_option maxHeartbeats 1000000 in
theorem sameOneG (w : World) (d d' : Bytes) (t t' : Nat) (g g' : Int) (fl fl' : List Int) (fv fv' : Value) (h : RowIn w w.heap.size fv fl.length (fl.map (Value.int .i64))) (h' : RowIn w w.heap.size fv' fl'.length (fl'.map (Value.int .i64))) (hl : fl.length ≤ maxLen) (hl' : fl'.length ≤ maxLen) :
    Calls Tryd.prog 52 #[.agg #[.string ⟨d.toArray⟩, .int .u8 (t : Int), .int .i64 g, fv], .agg #[.string ⟨d'.toArray⟩, .int .u8 (t' : Int), .int .i64 g', fv']] w fun e w' => e = .returned (.bool (decide (((d, t), g :: fl) = ((d', t'), g' :: fl')))) ∧ Below w.heap.size w w' := by
  obtain ⟨fp, fc, rfl⟩ := rowIn_shape h
  obtain ⟨fp', fc', rfl⟩ := rowIn_shape h'
  obtain ⟨W, hW⟩ : ∃ W, W = (w.alloc (.cells #[.string ⟨d.toArray⟩, .int .u8 (t : Int), .int .i64 g, .slice fp fl.length fc] 41)).alloc (.cells #[.string ⟨d'.toArray⟩, .int .u8 (t' : Int), .int .i64 g', .slice fp' fl'.length fc'] 41) := ⟨_, rfl⟩
  have hB : Below w.heap.size w W := by rw [hW]; exact ((Below.refl _ w).alloc (Nat.le_refl _) _).alloc (by simp) _
  have hE := ints_any W w.heap.size w.heap.size _ _ fl fl' (h.below hB) (h'.below hB) hl hl'
  have HB := Lib.hid hB
  clear h h' hl hl' hB
  go_enter Tryd.func52, Tryd.ntmps52
  by_cases e1 : d = d'
  · subst e1
    have f : ((⟨d.toArray⟩ : ByteArray).toList == (⟨d.toArray⟩ : ByteArray).toList) = true := beq_self_eq_true _
    by_cases e2 : t = t'
    · subst e2
      by_cases e3 : g = g'
      · subst e3
        have hd : decide (((d, t), g :: fl) = ((d, t), g :: fl')) = decide (fl = fl') := by simp
        rw [hd]
        have HD := Lib.hid hd
        generalize (⟨d.toArray⟩ : ByteArray) = sd at *
        generalize fl.length = n1 at *
        generalize fl'.length = n2 at *
        generalize decide (fl = fl') = dd at *
        clear hd
        go_wp2_with fail
        rw [← hW]
        clear hW
        refine hE.mono ?_
        rintro e w' ⟨rfl, hB2⟩
        have HB2 := Lib.hid (HB.out.trans (Below.less hB2 HB.out.size))
        clear hE hB2
        go_wp2
        refine bodyPost_ret (v := .bool dd) (by simp [results, Tryd.results52, go_sem]) rfl ⟨rfl, HB2.out⟩
      · have hd : decide (((d, t), g :: fl) = ((d, t), g' :: fl')) = false := decide_eq_false (fun h => e3 (by injection h with _ h; injection h))
        rw [hd]
        have e3' : (g == g') = false := by simpa using e3
        have HW := Lib.hid hW
        generalize (⟨d.toArray⟩ : ByteArray) = sd at *
        clear hd hE hW e3
        go_wp2
        refine bodyPost_ret (v := .bool false) (by simp [results, Tryd.results52, go_sem]) rfl ⟨rfl, by rw [← HW.out]; exact HB.out⟩
    · have hd : decide (((d, t), g :: fl) = ((d, t'), g' :: fl')) = false := decide_eq_false (fun h => e2 (by injection h with h _; injection h))
      rw [hd]
      have e2' : ((t : Int) == (t' : Int)) = false := by simp; omega
      have HW := Lib.hid hW
      generalize (⟨d.toArray⟩ : ByteArray) = sd at *
      generalize (t : Int) = ti at *
      generalize (t' : Int) = tj at *
      clear hd hE hW e2
      go_wp2
      refine bodyPost_ret (v := .bool false) (by simp [results, Tryd.results52, go_sem]) rfl ⟨rfl, by rw [← HW.out]; exact HB.out⟩
  · have hd : decide (((d, t), g :: fl) = ((d', t'), g' :: fl')) = false := decide_eq_false (fun h => e1 (by injection h with h _; injection h))
    rw [hd]
    have f : ((⟨d.toArray⟩ : ByteArray).toList == (⟨d'.toArray⟩ : ByteArray).toList) = false := by
      have h5 : (⟨d.toArray⟩ : ByteArray).toList = d := by simp [ByteArray.toList_eq]
      have h6 : (⟨d'.toArray⟩ : ByteArray).toList = d' := by simp [ByteArray.toList_eq]
      rw [h5, h6]
      simpa using e1
    have HW := Lib.hid hW
    clear hd hE hW e1
    generalize (⟨d.toArray⟩ : ByteArray) = sa at *
    generalize (⟨d'.toArray⟩ : ByteArray) = sb at *
    go_wp2
    refine bodyPost_ret (v := .bool false) (by simp [results, Tryd.results52, go_sem]) rfl ⟨rfl, by rw [← HW.out]; exact HB.out⟩

set_option maxRecDepth 100000 in
set_option maxHeartbeats 1000000 in
theorem equalFuncG (w : World) (v u : Value) (xs ys : Ent) (h : RowsG w v xs) (h' : RowsG w u ys) (hxl : xs.length ≤ 1000000) (hf : ∀ x ∈ xs, x.2.length - 1 ≤ maxLen) (hf' : ∀ x ∈ ys, x.2.length - 1 ≤ maxLen) :
    Calls Tryd.prog 51 #[v, u, .func (.func 52) #[] #[]] w fun e w' => e = .returned (.bool (decide (xs = ys))) ∧ Below w.heap.size w w' := by
  obtain ⟨p, c, rfl, hp⟩ := h.shape
  obtain ⟨p', c', rfl, hp'⟩ := h'.shape
  have HH := Lib.hid (And.intro hp (And.intro hp' (And.intro hf hf')))
  clear h h' hp hp' hf hf'
  go_enter Tryd.func51, Tryd.ntmps51
  by_cases hll : xs.length = ys.length
  · obtain ⟨n, hn⟩ : ∃ n, n = xs.length := ⟨_, rfl⟩
    have hn2 : ys.length = n := by omega
    rw [hn2, ← hn]
    have HN := Lib.hid (And.intro hn hn2)
    have hnl : n ≤ 1000000 := by omega
    clear hll hn hn2 hxl
    go_wp2_with fail
    go_loopw [17] (fun iv wr => ∃ i : Nat, iv = .int .i64 (i : Int) ∧ i ≤ n ∧ (∀ j (h1 : j < xs.length) (h2 : j < ys.length), j < i → xs[j] = ys[j]) ∧ Below w.heap.size w wr)
      (fun iv _ => n - natOf iv)
    case atStart => exact ⟨0, rfl, Nat.zero_le _, fun _ _ _ h => absurd h (Nat.not_lt_zero _), Below.refl _ _⟩
    case round =>
      obtain ⟨i, rfl, hi, hal, hBr⟩ := hrel
      by_cases hlast : i < n
      · have hli : (i : Int) < (n : Int) := by omega
        have hx : i < xs.length := by have := HN.out.1; omega
        have hy : i < ys.length := by have := HN.out.2; omega
        obtain ⟨a, rfl, hca, hA⟩ := HH.out.1 i hx
        obtain ⟨a', rfl, hca', hA'⟩ := HH.out.2.1 i hy
        obtain ⟨b, o, s, fv, ead, hbl, x0, x1, x2, x3, hF, hxn⟩ := hA wr hBr
        obtain ⟨b', o', s', fv', ead', hbl', y0, y1, y2, y3, hF', hyn⟩ := hA' wr hBr
        have hfx := HH.out.2.2.1 xs[i] (List.getElem_mem hx)
        have hfy := HH.out.2.2.2 ys[i] (List.getElem_mem hy)
        have hneq : xs[i] ≠ ys[i] → xs ≠ ys := ne_at hx hy
        have hnext : xs[i] = ys[i] → ∀ j (h1 : j < xs.length) (h2 : j < ys.length), j < i + 1 → xs[j] = ys[j] := fun h j h1 h2 hj => by
          by_cases e : j = i
          · subst e; exact h
          · exact hal j h1 h2 (by omega)
        obtain ⟨fp, fc, hfv⟩ := rowIn_shape hF
        obtain ⟨fp', fc', hfv'⟩ := rowIn_shape hF'
        clear hal hA hA' 
        generalize xs[i] = q at *
        generalize ys[i] = q' at *
        obtain ⟨⟨d, t⟩, qc⟩ := q
        obtain ⟨⟨d', t'⟩, qc'⟩ := q'
        obtain ⟨g, fl, rfl⟩ : ∃ g fl, qc = g :: fl := by
          cases qc with
          | nil => exact absurd rfl hxn
          | cons a l => exact ⟨a, l, rfl⟩
        obtain ⟨g', fl', rfl⟩ : ∃ g fl, qc' = g :: fl := by
          cases qc' with
          | nil => exact absurd rfl hyn
          | cons a l => exact ⟨a, l, rfl⟩
        have hF2 : RowIn wr w.heap.size fv fl.length (fl.map (Value.int .i64)) := hF
        have hF2' : RowIn wr w.heap.size fv' fl'.length (fl'.map (Value.int .i64)) := hF'
        have x2' : wr.cell? ⟨b, o + 2, none⟩ = some (.int .i64 g) := x2
        have y2' : wr.cell? ⟨b', o' + 2, none⟩ = some (.int .i64 g') := y2
        have hfx' : fl.length ≤ maxLen := by simp at hfx; omega
        have hfy' : fl'.length ≤ maxLen := by simp at hfy; omega
        dsimp only at x0 x1 y0 y1
        subst hfv hfv'
        have hbw : b' < wr.heap.size := Nat.lt_of_lt_of_le hbl' hBr.size
        have n1 : ∀ ob, (wr.alloc ob).cell? ⟨b', o', s'⟩ = some (.string ⟨d'.toArray⟩) := fun ob => (World.cell?_of_block (a := ⟨b', o', s'⟩) (ha_ne (Nat.ne_of_lt hbw))).trans y0
        have n2 : ∀ ob, (wr.alloc ob).cell? ⟨b', o' + 1, none⟩ = some (.int .u8 (t' : Int)) := fun ob => (World.cell?_of_block (a := ⟨b', o' + 1, none⟩) (ha_ne (Nat.ne_of_lt hbw))).trans y1
        have n3 : ∀ ob, (wr.alloc ob).cell? ⟨b', o' + 2, none⟩ = some (.int .i64 g') := fun ob => (World.cell?_of_block (a := ⟨b', o' + 2, none⟩) (ha_ne (Nat.ne_of_lt hbw))).trans y2'
        have n4 := fun ob => (World.cell?_of_block (a := ⟨b', o' + 3, none⟩) (ha_ne (w := wr) (o := ob) (Nat.ne_of_lt hbw))).trans y3
        obtain ⟨W, hW⟩ : ∃ W, W = (wr.alloc (.cells #[.string ⟨d.toArray⟩, .int .u8 (t : Int), .int .i64 g, .slice fp ((g :: fl).length - 1) fc] 41)).alloc (.cells #[.string ⟨d'.toArray⟩, .int .u8 (t' : Int), .int .i64 g', .slice fp' ((g' :: fl').length - 1) fc'] 41) := ⟨_, rfl⟩
        have hB : Below wr.heap.size wr W := by rw [hW]; exact ((Below.refl _ wr).alloc (Nat.le_refl _) _).alloc (by simp) _
        have hwW : w.heap.size ≤ W.heap.size := Nat.le_trans hBr.size hB.size
        have hS := sameOneG W d d' t t' g g' fl fl' _ _ ((hF2.below (Below.less hB hBr.size)).mono hwW) ((hF2'.below (Below.less hB hBr.size)).mono hwW) hfx' hfy'
        have HR := Lib.hid (And.intro hneq (And.intro hnext (hBr.trans (Below.less hB hBr.size))))
        clear hneq hnext hBr hB hwW hF hF2 hF' hF2' hfx hfy hfx' hfy' y0 y1 y2 y2' y3 x2 hxn hyn hbl hbl' hbw
        simp only [List.length_cons, Nat.add_sub_cancel] at *
        generalize hdd : decide (((d, t), g :: fl) = ((d', t'), g' :: fl')) = dd at hS
        have HD := Lib.hid hdd
        clear hdd
        go_wp2_with fail
        rw [← hW]
        clear hW n1 n2 n3 n4 x0 x1 x2' x3
        refine hS.mono ?_
        rintro e w6 ⟨rfl, hB6⟩
        have HB6 := Lib.hid (HR.out.2.2.trans (Below.less hB6 HR.out.2.2.size))
        clear hS hB6
        cases dd
        · have HE := Lib.hid (HR.out.1 (of_decide_eq_false HD.out))
          go_wp2
          refine bodyPost_ret (v := .bool false) (by simp [results, Tryd.results51, go_sem]) rfl ⟨by rw [decide_eq_false HE.out], HB6.out⟩
        · have HE := Lib.hid (HR.out.2.1 (of_decide_eq_true HD.out))
          go_wp2
          go_roundw
          case rel => exact ⟨i + 1, by simp, by omega, HE.out, HB6.out⟩
          case measure => simp [natOf]; omega
      · have hli : ¬ (i : Int) < (n : Int) := by omega
        obtain rfl : i = n := by omega
        have heq : xs = ys := List.ext_getElem (by have := HN.out; omega) (fun j h1 h2 => hal j h1 h2 (by have := HN.out; omega))
        have HE := Lib.hid (And.intro heq hBr)
        clear heq hal hBr
        go_wp2
        refine bodyPost_ret (v := .bool true) (by simp [results, Tryd.results51, go_sem]) rfl ⟨by rw [decide_eq_true HE.out.1], HE.out.2⟩
  · have hl2 : ¬ (xs.length : Int) = (ys.length : Int) := by omega
    have hd : decide ((xs.length : Int) = (ys.length : Int)) = false := decide_eq_false hl2
    have HE := Lib.hid (show xs ≠ ys from fun e => hll (by rw [e]))
    clear hll hl2
    go_wp2
    refine bodyPost_ret (v := .bool false) (by simp [results, Tryd.results51, go_sem]) rfl ⟨by rw [decide_eq_false HE.out], Below.refl _ _⟩

set_option maxRecDepth 100000 in
theorem sameTG_any (w : World) (v u : Value) (xs ys : Ent) (h : RowsG w v xs) (h' : RowsG w u ys) (hxl : xs.length ≤ 1000000) (hf : ∀ x ∈ xs, x.2.length - 1 ≤ maxLen) (hf' : ∀ x ∈ ys, x.2.length - 1 ≤ maxLen) :
    Calls Tryd.prog 28 #[v, u] w fun e w' => e = .returned (.bool (decide (xs = ys))) ∧ Below w.heap.size w w' := by
  have hE := equalFuncG w v u xs ys h h' hxl hf hf'
  clear h h' hxl hf hf'
  generalize decide (xs = ys) = dd at *
  go_enter Tryd.func28, Tryd.ntmps28
  go_wp2_with fail
  refine hE.mono ?_
  rintro e w' ⟨rfl, hB⟩
  have HB := Lib.hid hB
  clear hE hB
  go_wp2
  refine bodyPost_ret (v := .bool dd) (by simp [results, Tryd.results28, go_sem]) rfl ⟨rfl, HB.out⟩
end Go.Proofs.YthhcigmdocldnaaDoor
