/- The document's bare, Pattern, May of a policy, May of an entry. -/
import Derived.Test.YtojhledbfaninaaGreatCrefD
import Derived.Test.YtojhledbfaninaaGreatCrefid
namespace Go.Proofs.YtojhledbfaninaaGreat
open Go Go.RowKit Go.Shelf Go.Sort
attribute [local go_sem] bneI

theorem take2 (s : ByteArray) : s.extract 0 2 = ⟨(s.data.toList.take 2).toArray⟩ := by
  apply ByteArray.ext
  apply Array.toList_inj.1
  simp [List.extract_eq_take_drop]
theorem pre2 (l : Bytes) : [42, 46].isPrefixOf l = true ↔ l.take 2 = [42, 46] := by
  rw [List.isPrefixOf_iff_prefix, List.prefix_iff_eq_take]
  exact ⟨fun h => h.symm, fun h => h.symm⟩
theorem bare_yes {s : ByteArray} (h : s.extract 0 2 = ⟨#[42, 46]⟩) : bareB s.data.toList = s.data.toList.drop 2 := by
  have h2 : s.data.toList.take 2 = [42, 46] := by
    rw [take2] at h
    simpa using congrArg (fun b : ByteArray => b.data.toList) h
  unfold bareB
  rw [if_pos ((pre2 _).2 h2)]
theorem bare_no {s : ByteArray} (h : ¬ (1 < s.size ∧ s.extract 0 2 = ⟨#[42, 46]⟩)) : bareB s.data.toList = s.data.toList := by
  unfold bareB
  rw [if_neg]
  intro hp
  have h2 := (pre2 _).1 hp
  refine h ⟨?_, by rw [take2, h2]⟩
  have := congrArg List.length h2
  have e : s.data.toList.length = s.size := by simp
  simp only [List.length_take, List.length_cons, List.length_nil, e] at this
  omega
theorem drop2 (s : ByteArray) : s.extract 2 s.size = ⟨(s.data.toList.drop 2).toArray⟩ := by
  have h := extract_str s 2 s.size
  rw [List.take_of_length_le (by simp)] at h
  injection h

set_option maxRecDepth 100000 in
theorem refBare_any (s : ByteArray) (w : World) (hs : s.size ≤ 1000000) : Calls Tryz.prog 75 #[.string s] w fun e w' => (∃ b, e = .returned (.tuple #[.string ⟨(bareB s.data.toList).toArray⟩, .bool b])) ∧ w = w' := by
  by_cases h1 : 1 < s.size
  · have h1i : (1 : Int) < (s.size : Int) := by omega
    have h2i : (2 : Int) ≤ (s.size : Int) := by omega
    by_cases h : s.extract 0 2 = ⟨#[42, 46]⟩
    · have hb := bare_yes h
      rw [hb, ← drop2]
      have hq : ((s.extract 0 2).toList == [42, 46]) = true := by rw [ByteArray.toList_eq, h]; rfl
      clear h hb
      go_enter Tryz.func75, Tryz.ntmps75
      go_wp2
      refine bodyPost_ret (v := .tuple #[.string (s.extract 2 s.size), .bool true]) (by simp [results, Tryz.results75, go_sem]) rfl (by first | exact ⟨⟨true, rfl⟩, rfl⟩ | exact ⟨.inr rfl, rfl⟩ | exact ⟨.inl rfl, rfl⟩)
    · have hb := bare_no (s := s) (fun hh => h hh.2)
      rw [hb]
      have hq : ((s.extract 0 2).toList == [42, 46]) = false := by
        rw [ByteArray.toList_eq, beq_eq_false_iff_ne]
        exact fun e => h (by apply ByteArray.ext; apply Array.toList_inj.1; exact e)
      have he : (⟨s.data.toList.toArray⟩ : ByteArray) = s := by simp
      rw [he]
      clear h hb he
      go_enter Tryz.func75, Tryz.ntmps75
      go_wp2
      refine bodyPost_ret (v := .tuple #[.string s, .bool false]) (by simp [results, Tryz.results75, go_sem]) rfl (by first | exact ⟨⟨false, rfl⟩, rfl⟩ | exact ⟨.inl rfl, rfl⟩ | exact ⟨.inr rfl, rfl⟩)
  · have h1i : ¬ (1 : Int) < (s.size : Int) := by omega
    have hb := bare_no (s := s) (fun hh => h1 hh.1)
    rw [hb]
    have he : (⟨s.data.toList.toArray⟩ : ByteArray) = s := by simp
    rw [he]
    clear hb he
    go_enter Tryz.func75, Tryz.ntmps75
    go_wp2
    refine bodyPost_ret (v := .tuple #[.string s, .bool false]) (by simp [results, Tryz.results75, go_sem]) rfl (by first | exact ⟨⟨false, rfl⟩, rfl⟩ | exact ⟨.inl rfl, rfl⟩ | exact ⟨.inr rfl, rfl⟩)

set_option maxRecDepth 100000 in
theorem refPattern_any (s : ByteArray) (w : World) (hs : s.size ≤ 1000000) :
    Calls Tryz.prog 65 #[.string s] w fun e w' => e = .returned (.bool (patB s.data.toList)) ∧ Below w.heap.size w w' := by
  have hT := refBare_any s w hs
  have hM := refMay_any ⟨(bareB s.data.toList).toArray⟩ w (by
    have h1 := bare_len s.data.toList
    have h2 : s.data.toList.length = s.size := by simp
    show (bareB s.data.toList).toArray.size ≤ 1000000
    rw [List.size_toArray]
    omega)
  have e2 : (⟨(bareB s.data.toList).toArray⟩ : ByteArray).data.toList = bareB s.data.toList := rfl
  rw [e2] at hM
  have hP : patB s.data.toList = mayB (bareB s.data.toList) := rfl
  rw [hP]
  generalize bareB s.data.toList = r at hT hM ⊢
  clear e2 hP
  go_enter Tryz.func65, Tryz.ntmps65
  go_wp2_with fail
  refine hT.mono ?_
  rintro e w' ⟨⟨b, rfl⟩, rfl⟩
  go_wp2_with fail
  refine hM.mono ?_
  rintro e w2 ⟨rfl, hb⟩
  go_wp2
  refine bodyPost_ret (v := .bool (mayB r)) (by simp [results, Tryz.results65, go_sem]) rfl ⟨rfl, hb⟩

/-- An entry whose texts are of a size that the document's functions are walked at. -/
def FitR (p : PE) : Prop := p.dom.length ≤ 1000000 ∧ p.id.length ≤ maxLen ∧ ∀ u ∈ p.mx, u.length ≤ 1000000
set_option maxRecDepth 100000 in
set_option maxHeartbeats 2000000 in
theorem refPolMay_any (m : Nat) (h : SH) (mx : List Bytes) (age : Int) (B : Nat → Prop) (w : World) (hm : MxAt w B h mx) (hs : ∀ u ∈ mx, u.length ≤ 1000000) :
    Calls Tryz.prog 48 #[pcl m h age] w fun e w' => e = .returned (.bool (polB m mx age)) ∧ Below w.heap.size w w' := by
  have hl : h.2.1 = mx.length := hm.1
  have hsh := hm.shape
  obtain ⟨p, n, c⟩ := h
  dsimp only at hl
  subst hl
  clear hm
  unfold pcl shV
  dsimp only
  obtain ⟨W, hW⟩ : ∃ W, W = w.alloc (.cells #[.int .u8 (m : Int), .slice p mx.length c, .int .i64 age] 42) := ⟨_, rfl⟩
  have hB : Below w.heap.size w W := by rw [hW]; exact (Below.refl _ w).alloc (Nat.le_refl _) _
  have hbox : W.heap[w.heap.size]? = some (.cells #[.int .u8 (m : Int), .slice p mx.length c, .int .i64 age] 42 (0, 0)) := by rw [hW]; exact ha_eq rfl
  have c0 : W.cell? ⟨w.heap.size, 0, none⟩ = some (.int .u8 (m : Int)) := by simp [World.cell?, hbox]
  have c1 : W.cell? ⟨w.heap.size, 1, none⟩ = some (.slice p mx.length c) := by simp [World.cell?, hbox]
  have c2 : W.cell? ⟨w.heap.size, 2, none⟩ = some (.int .i64 age) := by simp [World.cell?, hbox]
  have HB := Lib.hid (And.intro hB (And.intro hsh hs))
  clear hB hbox hsh hs
  by_cases h1 : m < 1
  · have hf : polB m mx age = false := by simp [polB]; omega
    rw [hf]
    have h1i : (m : Int) < 1 := by omega
    clear hf
    go_enter Tryz.func48, Tryz.ntmps48
    go_wp2_with fail
    rw [← hW]
    go_wp2
    refine bodyPost_ret (v := .bool false) (by simp [results, Tryz.results48, go_sem]) rfl ⟨rfl, HB.out.1⟩
  by_cases h3 : 3 < m
  · have hf : polB m mx age = false := by simp [polB]; omega
    rw [hf]
    have h1i : ¬ (m : Int) < 1 := by omega
    have h3i : (3 : Int) < (m : Int) := by omega
    clear hf
    go_enter Tryz.func48, Tryz.ntmps48
    go_wp2_with fail
    rw [← hW]
    go_wp2
    refine bodyPost_ret (v := .bool false) (by simp [results, Tryz.results48, go_sem]) rfl ⟨rfl, HB.out.1⟩
  have h1i : ¬ (m : Int) < 1 := by omega
  have h3i : ¬ (3 : Int) < (m : Int) := by omega
  by_cases h4 : age < 0
  · have hf : polB m mx age = false := by simp [polB]; omega
    rw [hf]
    clear hf
    go_enter Tryz.func48, Tryz.ntmps48
    go_wp2_with fail
    rw [← hW]
    go_wp2
    refine bodyPost_ret (v := .bool false) (by simp [results, Tryz.results48, go_sem]) rfl ⟨rfl, HB.out.1⟩
  by_cases h5 : 31557600 < age
  · have hf : polB m mx age = false := by simp [polB]; omega
    rw [hf]
    clear hf
    go_enter Tryz.func48, Tryz.ntmps48
    go_wp2_with fail
    rw [← hW]
    go_wp2
    refine bodyPost_ret (v := .bool false) (by simp [results, Tryz.results48, go_sem]) rfl ⟨rfl, HB.out.1⟩
  by_cases h6 : 8 < mx.length
  · have hf : polB m mx age = false := by simp [polB]; omega
    rw [hf]
    have h6i : (8 : Int) < (mx.length : Int) := by omega
    clear hf
    go_enter Tryz.func48, Tryz.ntmps48
    go_wp2_with fail
    rw [← hW]
    go_wp2
    refine bodyPost_ret (v := .bool false) (by simp [results, Tryz.results48, go_sem]) rfl ⟨rfl, HB.out.1⟩
  have h6i : ¬ (8 : Int) < (mx.length : Int) := by omega
  have hp : polB m mx age = ((decide (m = 1) || !mx.isEmpty) && mx.all patB) := by
    simp [polB, show 1 ≤ m by omega, show m ≤ 3 by omega, show 0 ≤ age by omega, show age ≤ 31557600 by omega, show mx.length ≤ 8 by omega]
  by_cases h78 : m ≠ 1 ∧ mx.length = 0
  · have h7i : decide ((m : Int) = 1) = false := by simp; omega
    have h7j : ((m : Int) == 1) = false := by simp; omega
    have h8i : ((mx.length : Int) == 0) = true := by simp; exact List.length_eq_zero_iff.1 h78.2
    have hf : polB m mx age = false := by rw [hp, decide_eq_false h78.1, List.length_eq_zero_iff.1 h78.2]; rfl
    rw [hf]
    clear hf hp h78
    go_enter Tryz.func48, Tryz.ntmps48
    go_wp2_with fail
    rw [← hW]
    go_wp2
    refine bodyPost_ret (v := .bool false) (by simp [results, Tryz.results48, go_sem]) rfl ⟨rfl, HB.out.1⟩
  have hp2 : polB m mx age = mx.all patB := by
    rw [hp]
    by_cases h7 : m = 1
    · simp [h7]
    · have h8 : mx ≠ [] := fun e => h78 ⟨h7, by rw [e]; rfl⟩
      cases mx with
      | nil => exact absurd rfl h8
      | cons x l => simp
  have hg : (decide ((m : Int) = 1) = true ∧ ((m : Int) == 1) = true) ∨ (decide ((m : Int) = 1) = false ∧ ((m : Int) == 1) = false ∧ ((mx.length : Int) == 0) = false) := by
    by_cases h7 : m = 1
    · exact .inl ⟨by simp; omega, by simp; omega⟩
    · refine .inr ⟨by simp; omega, by simp; omega, ?_⟩
      have : mx.length ≠ 0 := fun e => h78 ⟨h7, e⟩
      simp
      exact fun e => this (by rw [e]; rfl)
  rw [hp2]
  clear hp hp2 h78
  go_enter Tryz.func48, Tryz.ntmps48
  rcases hg with ⟨h7i, h7j⟩ | ⟨h7i, h7j, h8i⟩
  all_goals
    go_wp2_with fail
    rw [← hW]
    go_wp2_with fail
    go_loopw [3] (fun iv wr => ∃ i : Nat, iv = .int .i64 (i : Int) ∧ i ≤ mx.length ∧ (mx.take i).all patB = true ∧ Below W.heap.size W wr) (fun iv _ => mx.length - natI iv)
    case atStart => exact ⟨0, rfl, Nat.zero_le _, rfl, Below.refl _ _⟩
    case round =>
      obtain ⟨i, rfl, hi, hd, hBr⟩ := hrel
      have c1r := (hBr.cell (cell_lt c1)).trans c1
      have hwr : Below w.heap.size w wr := HB.out.1.trans (hBr.mono HB.out.1.size)
      by_cases hlast : i < mx.length
      · have hli : (i : Int) < (mx.length : Int) := by omega
        rcases HB.out.2.1 with ⟨rfl, _⟩ | ⟨-, b, o, c', e, -, hlt, hc⟩
        · simp at hlast
        injection e with e1 e2
        subst e1
        have hci := (hwr.cell (p := ⟨b, o + i, none⟩) hlt).trans (hc i mx[i] (List.getElem?_eq_getElem hlast))
        have hst := any_take patB mx i hlast
        rw [hd, Bool.true_and] at hst
        have hN := fun (W' : World) => refPattern_any ⟨(mx[i]).toArray⟩ W' (by simpa [ByteArray.size] using HB.out.2.2 _ (List.getElem_mem hlast))
        have e3 : (⟨(mx[i]).toArray⟩ : ByteArray).data.toList = mx[i] := rfl
        rw [e3] at hN
        have hnot : patB mx[i] = false → mx.all patB = false := fun h => by
          rw [List.all_eq_false]
          exact ⟨mx[i], List.getElem_mem hlast, by simp [h]⟩
        unfold str at hci
        have HC := Lib.hid (And.intro hBr (And.intro hst (And.intro hnot hwr)))
        clear hBr hst hnot hd e3 hc hwr e2
        generalize patB mx[i] = r at hN HC
        go_wp2_with fail
        refine (hN _).mono ?_
        rintro e w2 ⟨rfl, hb2⟩
        cases r
        · go_wp2
          refine bodyPost_ret (v := .bool false) (by simp [results, Tryz.results48, go_sem]) rfl ⟨by first | rw [HC.out.2.2.1 rfl] | rw [HC.out.2.2.1 trivial], HC.out.2.2.2.trans (hb2.mono HC.out.2.2.2.size)⟩
        · have HD := Lib.hid (HC.out.1.trans (hb2.mono HC.out.1.size))
          clear hb2
          go_wp2
          go_roundw
          case rel => exact ⟨i + 1, by simp, by omega, HC.out.2.1, HD.out⟩
          case measure => simp [natI]; omega
      · have hli : ¬ (i : Int) < (mx.length : Int) := by omega
        obtain rfl : i = mx.length := by omega
        rw [List.take_length] at hd
        have HC := Lib.hid (And.intro hd hwr)
        clear hd hBr hwr
        go_wp2
        refine bodyPost_ret (v := .bool true) (by simp [results, Tryz.results48, go_sem]) rfl ⟨by rw [HC.out.1], HC.out.2⟩

set_option maxRecDepth 100000 in
set_option maxHeartbeats 1000000 in
theorem refMayE_any (x : EM) (B : Nat → Prop) (w : World) (hm : MxAt w B x.2 x.1.mx) (hs : FitR x.1) :
    Calls Tryz.prog 27 #[evp x] w fun e w' => e = .returned (.bool (mayE x.1)) ∧ Below w.heap.size w w' := by
  obtain ⟨⟨d, i, m, mx, age, unt⟩, p, n, c⟩ := x
  dsimp only at hm
  obtain ⟨hd, hi, hu⟩ := hs
  dsimp only at hd hi hu
  rw [lit_ev]
  have h1 := fun (W : World) (hb : Below w.heap.size w W) => refMay_any ⟨d.toArray⟩ W (by simpa [ByteArray.size] using hd)
  have h2 := fun (W : World) => refId_any ⟨i.toArray⟩ W (by simpa [ByteArray.size] using hi)
  have h3 := fun (W : World) (hb : Below w.heap.size w W) => refPolMay_any m (p, n, c) mx age B W (hm.below hb) hu
  have e1 : (⟨d.toArray⟩ : ByteArray).data.toList = d := rfl
  have e2 : (⟨i.toArray⟩ : ByteArray).data.toList = i := rfl
  rw [e1] at h1
  rw [e2] at h2
  unfold pcl shV at h3
  dsimp only at h3
  have hE : mayE ⟨d, i, m, mx, age, unt⟩ = (mayB d && idB i && polB m mx age && decide (0 ≤ unt) && decide (unt ≤ 1099543185376)) := rfl
  dsimp only
  rw [hE]
  clear hm hd hi hu e1 e2 hE
  generalize mayB d = r1 at h1 ⊢
  generalize idB i = r2 at h2 ⊢
  generalize polB m mx age = r3 at h3 ⊢
  obtain ⟨W, hW⟩ : ∃ W, W = w.alloc (.cells #[.string ⟨d.toArray⟩, .string ⟨i.toArray⟩, .int .u8 (m : Int), .slice p n c, .int .i64 age, .int .i64 unt] 67) := ⟨_, rfl⟩
  have hB : Below w.heap.size w W := by rw [hW]; exact (Below.refl _ w).alloc (Nat.le_refl _) _
  have hbox : W.heap[w.heap.size]? = some (.cells #[.string ⟨d.toArray⟩, .string ⟨i.toArray⟩, .int .u8 (m : Int), .slice p n c, .int .i64 age, .int .i64 unt] 67 (0, 0)) := by rw [hW]; exact ha_eq rfl
  have hlt : w.heap.size < W.heap.size := by rw [hW]; simp
  obtain ⟨c0, c1, c2, c3, c4, c5⟩ := box6 hbox
  have hW1 := h1 W hB
  clear h1
  go_enter Tryz.func27, Tryz.ntmps27
  go_wp2_with fail
  rw [← hW]
  have HB := Lib.hid (And.intro hB (And.intro hbox hlt))
  clear hB hbox hW hlt
  refine hW1.mono ?_
  rintro e w1 ⟨rfl, hb1⟩
  have hB1 := HB.out.1.trans (hb1.mono HB.out.1.size)
  have hbox1 := (hb1.block _ HB.out.2.2).trans HB.out.2.1
  have hlt1 := Nat.lt_of_lt_of_le HB.out.2.2 hb1.size
  clear c0 c1 c2 c3 c4 c5 hW1 HB hb1
  obtain ⟨c0, c1, c2, c3, c4, c5⟩ := box6 hbox1
  cases r1
  · have HB := Lib.hid hB1
    clear hB1
    go_wp2
    refine bodyPost_ret (v := .bool false) (by simp [results, Tryz.results27, go_sem]) rfl ⟨rfl, HB.out⟩
  · have hW2 := h2 w1
    have HB := Lib.hid (And.intro hB1 (And.intro hbox1 hlt1))
    clear hB1 hbox1 hlt1 h2
    go_wp2_with fail
    refine hW2.mono ?_
    rintro e w2 ⟨rfl, hb2⟩
    have hB1 := HB.out.1.trans (hb2.mono HB.out.1.size)
    have hbox1 := (hb2.block _ HB.out.2.2).trans HB.out.2.1
    have hlt1 := Nat.lt_of_lt_of_le HB.out.2.2 hb2.size
    clear c0 c1 c2 c3 c4 c5 hW2 HB hb2
    obtain ⟨c0, c1, c2, c3, c4, c5⟩ := box6 hbox1
    cases r2
    · have HB := Lib.hid hB1
      clear hB1
      go_wp2
      refine bodyPost_ret (v := .bool false) (by simp [results, Tryz.results27, go_sem]) rfl ⟨rfl, HB.out⟩
    · have hW3 := h3 w2 hB1
      have HB := Lib.hid (And.intro hB1 (And.intro hbox1 hlt1))
      clear hB1 hbox1 hlt1 h3
      go_wp2_with fail
      refine hW3.mono ?_
      rintro e w3 ⟨rfl, hb3⟩
      have hB1 := HB.out.1.trans (hb3.mono HB.out.1.size)
      have hbox1 := (hb3.block _ HB.out.2.2).trans HB.out.2.1
      clear c0 c1 c2 c3 c4 c5 hW3 HB hb3
      obtain ⟨c0, c1, c2, c3, c4, c5⟩ := box6 hbox1
      have HB := Lib.hid hB1
      clear hB1
      cases r3
      · go_wp2
        refine bodyPost_ret (v := .bool false) (by simp [results, Tryz.results27, go_sem]) rfl ⟨rfl, HB.out⟩
      · by_cases h0 : 0 ≤ unt
        · by_cases h4 : unt ≤ 1099543185376
          · go_wp2
            refine bodyPost_ret (v := .bool true) (by simp [results, Tryz.results27, go_sem] <;> (intros; omega)) rfl ⟨by simp [h0, h4], HB.out⟩
          · go_wp2
            refine bodyPost_ret (v := .bool false) (by simp [results, Tryz.results27, go_sem] <;> (intros; omega)) rfl ⟨by simp; omega, HB.out⟩
        · go_wp2
          refine bodyPost_ret (v := .bool false) (by simp [results, Tryz.results27, go_sem] <;> (intros; omega)) rfl ⟨by simp; omega, HB.out⟩

end Go.Proofs.YtojhledbfaninaaGreat
