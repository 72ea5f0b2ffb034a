/- Pattern, policy.May, cache.May: what may be. -/
import Derived.Test.YtojhledbfaninaaCmem
namespace Go.Proofs.Ytojhledbfaninaa
open Go Go.RowKit Go.Shelf Go.Sort

theorem trim_bare (l : Bytes) : Lib.trimPrefix l [42, 46] = bareB l := by
  unfold bareB Lib.trimPrefix
  first | rfl | (split <;> simp_all)
theorem bare_len (l : Bytes) : (bareB l).length ≤ l.length := by
  unfold bareB
  split
  · simp
  · exact Nat.le_refl _
theorem bare_le (s : ByteArray) (h : s.size ≤ maxLen) : (⟨(bareB s.data.toList).toArray⟩ : ByteArray).size ≤ maxLen := by
  have h1 := bare_len s.data.toList
  have h2 : s.data.toList.length = s.size := by simp
  show (bareB s.data.toList).toArray.size ≤ maxLen
  rw [List.size_toArray]
  omega
set_option maxRecDepth 100000 in
theorem pattern_any (s : ByteArray) (w : World) (hs : s.size ≤ maxLen) (hg : Glob w) :
    Calls Try.prog 58 #[.string s] w fun e w' => e = .returned (.bool (patB s.data.toList)) ∧ Below w.heap.size w w' := by
  have hT := Try.strings_TrimPrefix s ⟨#[42, 46]⟩ w
  have e1 : (⟨#[42, 46]⟩ : ByteArray).data.toList = [42, 46] := rfl
  rw [e1, trim_bare] at hT
  have hM := nameMay_any ⟨(bareB s.data.toList).toArray⟩ w (bare_le s hs) hg
  have e2 : (⟨(bareB s.data.toList).toArray⟩ : ByteArray).data.toList = bareB s.data.toList := rfl
  rw [e2] at hM
  have hP : patB s.data.toList = mayB (bareB s.data.toList) := rfl
  rw [hP]
  generalize bareB s.data.toList = r at hT hM ⊢
  clear e1 e2 hP
  go_enter Try.func58, Try.ntmps58
  go_wp2_with fail
  refine hT.mono ?_
  rintro e w' ⟨rfl, rfl⟩
  go_wp2_with fail
  refine hM.mono ?_
  rintro e w2 ⟨rfl, hb⟩
  go_wp2
  refine bodyPost_ret (v := .bool (mayB r)) (by simp [results, Try.results58, go_sem]) rfl ⟨rfl, hb⟩
set_option maxRecDepth 100000 in
theorem notPattern_any (s : ByteArray) (w : World) (hs : s.size ≤ maxLen) (hg : Glob w) :
    Calls Try.prog 57 #[.string s] w fun e w' => e = .returned (.bool (!patB s.data.toList)) ∧ Below w.heap.size w w' := by
  have hM := pattern_any s w hs hg
  generalize patB s.data.toList = r at hM ⊢
  go_enter Try.func57, Try.ntmps57
  go_wp2_with fail
  refine hM.mono ?_
  rintro e w2 ⟨rfl, hb⟩
  go_wp2
  refine bodyPost_ret (v := .bool !r) (by simp [results, Try.results57, go_sem]) rfl ⟨rfl, hb⟩
theorem MxAt.shape {W : World} {B : Nat → Prop} {h : SH} {mx : List Bytes} (hm : MxAt W B h mx) :
    (mx = [] ∧ ∃ p c, h = (p, 0, c)) ∨ (mx ≠ [] ∧ ∃ b o c, h = (some ⟨b, o, none⟩, mx.length, c) ∧ B b ∧ b < W.heap.size ∧ ∀ j u, mx[j]? = some u → W.cell? ⟨b, o + j, none⟩ = some (str u)) := by
  obtain ⟨p, n, c⟩ := h
  obtain ⟨h2, h3, h4⟩ := hm
  dsimp only at h2 h3 h4
  by_cases hn : mx = []
  · subst hn
    simp at h2
    exact .inl ⟨rfl, p, c, by rw [h2]⟩
  · right
    refine ⟨hn, ?_⟩
    cases p with
    | none => have := h3 rfl; injection this with _ this; injection this with this; rw [h2] at this; exact absurd (List.eq_nil_of_length_eq_zero this) hn
    | some a =>
      obtain ⟨hB, hc⟩ := h4 a rfl
      obtain ⟨u0, hu0⟩ : ∃ u, mx[0]? = some u := by
        cases mx with
        | nil => exact absurd rfl hn
        | cons x l => exact ⟨x, rfl⟩
      have h0 := hc 0 u0 hu0
      have hsp := World.cell?_spot h0
      have hlt := cell_lt h0
      rw [add_block] at hlt
      obtain ⟨b, o, s⟩ := a
      obtain rfl : s = none := by
        cases s with
        | none => rfl
        | some s => simp [Addr.add] at hsp
      exact ⟨b, o, c, by rw [h2], hB hn, hlt, fun j u hj => by have := hc j u hj; rwa [addrk] at this⟩

theorem enters_not : ∀ args w, (callFunc 57 args).run Try.prog w = .ok (.enter 57 args) w :=
  enters_of Try.func57 (by kernel_rfl) rfl
theorem any_take (f : Bytes → Bool) (l : List Bytes) (k : Nat) (h : k < l.length) : (l.take (k + 1)).all f = ((l.take k).all f && f l[k]) := by
  rw [List.take_succ_eq_append_getElem h, List.all_append]; simp

/-- Which text is none, if any. -/
def IdxPost (r : Bool) (e : Ending) : Prop := ∃ k : Int, e = .returned (.int .i64 k) ∧ (r = true → k = -1) ∧ (r = false → 0 ≤ k)
set_option maxRecDepth 100000 in
set_option maxHeartbeats 1000000 in
theorem indexPat_any (h : SH) (mx : List Bytes) (B : Nat → Prop) (w : World) (hm : MxAt w B h mx) (hn : mx.length ≤ maxLen) (hs : ∀ u ∈ mx, u.length ≤ maxLen) (hg : Glob w) :
    Calls Try.prog 72 #[shV h, .func (.func 57) #[] #[]] w fun e w' => IdxPost (mx.all patB) e ∧ Below w.heap.size w w' := by
  unfold maxLen at hn
  rcases hm.shape with ⟨rfl, p, c, rfl⟩ | ⟨hne, b, o, c, rfl, -, hb, hc⟩
  · unfold shV
    go_enter Try.func72, Try.ntmps72
    go_wp2
    go_loopw [5, 8] (fun _ s8 wr => s8 = .int .i64 0 ∧ wr = w) (fun _ _ _ => 0)
    case atStart => exact ⟨rfl, rfl⟩
    case round =>
      obtain ⟨rfl, rfl⟩ := hrel
      go_wp2
      refine bodyPost_ret (v := .int .i64 (-1)) (by simp [results, Try.results72, go_sem]) rfl ⟨⟨-1, rfl, fun _ => rfl, fun h => by simp at h⟩, Below.refl _ _⟩
  · unfold shV
    dsimp only
    have HC := Lib.hid (And.intro hc (And.intro hs hg))
    clear hc hs hg hm
    go_enter Try.func72, Try.ntmps72
    go_wp2
    go_loopw [5, 8] (fun _ s8 wr => ∃ i : Nat, s8 = .int .i64 (i : Int) ∧ i ≤ mx.length ∧ (mx.take i).all patB = true ∧ Below w.heap.size w wr) (fun _ s8 _ => mx.length - natI s8)
    case atStart => exact ⟨0, rfl, Nat.zero_le _, rfl, Below.refl _ _⟩
    case round =>
      obtain ⟨i, rfl, hi, hall, hB⟩ := hrel
      by_cases hlast : i < mx.length
      · have hli : (i : Int) < (mx.length : Int) := by omega
        have hci := (hB.cell (p := ⟨b, o + i, none⟩) hb).trans (HC.out.1 i mx[i] (List.getElem?_eq_getElem hlast))
        have hst := any_take patB mx i hlast
        rw [hall, Bool.true_and] at hst
        have hN := notPattern_any ⟨(mx[i]).toArray⟩ wr (by simpa [ByteArray.size] using HC.out.2.1 _ (List.getElem_mem hlast)) (HC.out.2.2.below hB (by obtain ⟨m, hm⟩ := HC.out.2.2; exact cell_lt hm))
        have e2 : (⟨(mx[i]).toArray⟩ : ByteArray).data.toList = mx[i] := rfl
        rw [e2] at hN
        have hnot : patB mx[i] = false → mx.all patB = false := fun h => by
          rw [List.all_eq_false]
          exact ⟨mx[i], List.getElem_mem hlast, by simp [h]⟩
        unfold str at hci
        have HB := Lib.hid (And.intro hB (And.intro hst hnot))
        clear hB hst hnot hall e2
        generalize patB mx[i] = r at hN HB
        go_wp2_with fail
        refine hN.mono ?_
        rintro e w2 ⟨rfl, hb2⟩
        cases r
        · go_wp2
          refine bodyPost_ret (v := .int .i64 (i : Int)) (by simp [results, Try.results72, go_sem]) rfl ⟨⟨i, rfl, fun h => (by rw [HB.out.2.2 (by simp)] at h; cases h), fun _ => by omega⟩, HB.out.1.trans (hb2.mono HB.out.1.size)⟩
        · go_wp2
          go_roundw
          case rel => exact ⟨i + 1, by simp, by omega, HB.out.2.1, HB.out.1.trans (hb2.mono HB.out.1.size)⟩
          case measure => simp [natI]; omega
      · have hli : ¬ (i : Int) < (mx.length : Int) := by omega
        obtain rfl : i = mx.length := by omega
        rw [List.take_length] at hall
        have HB := Lib.hid (And.intro hB hall)
        clear hB hall
        go_wp2
        refine bodyPost_ret (v := .int .i64 (-1)) (by simp [results, Try.results72, go_sem]) rfl ⟨⟨-1, rfl, fun _ => rfl, fun h => (by rw [HB.out.2] at h; cases h)⟩, HB.out.1⟩
set_option maxRecDepth 100000 in
theorem containsPat_any (h : SH) (mx : List Bytes) (B : Nat → Prop) (w : World) (hm : MxAt w B h mx) (hn : mx.length ≤ maxLen) (hs : ∀ u ∈ mx, u.length ≤ maxLen) (hg : Glob w) :
    Calls Try.prog 56 #[shV h, .func (.func 57) #[] #[]] w fun e w' => e = .returned (.bool (!mx.all patB)) ∧ Below w.heap.size w w' := by
  have hI := indexPat_any h mx B w hm hn hs hg
  unfold shV at hI ⊢
  clear hm hs hg
  generalize mx.all patB = r at hI ⊢
  go_enter Try.func56, Try.ntmps56
  go_wp2_with fail
  refine hI.mono ?_
  rintro e w2 ⟨⟨k, rfl, h1, h2⟩, hb⟩
  cases r
  · have hk : (0 : Int) ≤ k := h2 rfl
    clear h1 h2
    go_wp2
    refine bodyPost_ret (v := .bool true) (by simp [results, Try.results56, go_sem]) rfl ⟨rfl, hb⟩
  · obtain rfl : k = -1 := h1 rfl
    clear h1 h2
    go_wp2
    refine bodyPost_ret (v := .bool false) (by simp [results, Try.results56, go_sem]) rfl ⟨rfl, hb⟩

theorem bneI (a b : Int) : (a != b) = !decide (a = b) := by
  by_cases h : a = b <;> simp [h]
attribute [local go_sem] bneI

set_option maxRecDepth 100000 in
set_option maxHeartbeats 1000000 in
theorem polMay_any (m : Nat) (h : SH) (mx : List Bytes) (age : Int) (B : Nat → Prop) (w : World) (hm : MxAt w B h mx) (hs : ∀ u ∈ mx, u.length ≤ maxLen) (hg : Glob w) :
    Calls Try.prog 36 #[pcl m h age] w fun e w' => e = .returned (.bool (polB m mx age)) ∧ Below w.heap.size w w' := by
  have hl : h.2.1 = mx.length := hm.1
  have hC := fun (W : World) (hb : Below w.heap.size w W) (hn : mx.length ≤ maxLen) => containsPat_any h mx B W (hm.below hb) hn hs (hg.below hb (by obtain ⟨m, hm⟩ := hg; exact cell_lt hm))
  obtain ⟨p, n, c⟩ := h
  dsimp only at hl
  subst hl
  clear hm hs hg
  unfold pcl shV
  unfold shV at hC
  dsimp only at hC ⊢
  obtain ⟨W, hW⟩ : ∃ W, W = w.alloc (.cells #[.int .u8 (m : Int), .slice p mx.length c, .int .i64 age] 25) := ⟨_, rfl⟩
  have hB : Below w.heap.size w W := by rw [hW]; exact (Below.refl _ w).alloc (Nat.le_refl _) _
  have hbox : W.heap[w.heap.size]? = some (.cells #[.int .u8 (m : Int), .slice p mx.length c, .int .i64 age] 25 (0, 0)) := by rw [hW]; exact ha_eq rfl
  have c0 : W.cell? ⟨w.heap.size, 0, none⟩ = some (.int .u8 (m : Int)) := by simp [World.cell?, hbox]
  have c1 : W.cell? ⟨w.heap.size, 1, none⟩ = some (.slice p mx.length c) := by simp [World.cell?, hbox]
  have c2 : W.cell? ⟨w.heap.size, 2, none⟩ = some (.int .i64 age) := by simp [World.cell?, hbox]
  have hCW := hC W hB
  clear hC hbox
  have HB := Lib.hid hB
  clear hB
  by_cases h1 : m < 1
  · have hf : polB m mx age = false := by simp [polB]; omega
    rw [hf]
    have h1i : (m : Int) < 1 := by omega
    clear hCW hf
    go_enter Try.func36, Try.ntmps36
    go_wp2_with fail
    rw [← hW]
    go_wp2
    refine bodyPost_ret (v := .bool false) (by simp [results, Try.results36, go_sem]) rfl ⟨rfl, HB.out⟩
  by_cases h3 : 3 < m
  · have hf : polB m mx age = false := by simp [polB]; omega
    rw [hf]
    have h1i : ¬ (m : Int) < 1 := by omega
    have h3i : (3 : Int) < (m : Int) := by omega
    clear hCW hf
    go_enter Try.func36, Try.ntmps36
    go_wp2_with fail
    rw [← hW]
    go_wp2
    refine bodyPost_ret (v := .bool false) (by simp [results, Try.results36, go_sem]) rfl ⟨rfl, HB.out⟩
  have h1i : ¬ (m : Int) < 1 := by omega
  have h3i : ¬ (3 : Int) < (m : Int) := by omega
  by_cases h4 : age < 0
  · have hf : polB m mx age = false := by simp [polB]; omega
    rw [hf]
    clear hCW hf
    go_enter Try.func36, Try.ntmps36
    go_wp2_with fail
    rw [← hW]
    go_wp2
    refine bodyPost_ret (v := .bool false) (by simp [results, Try.results36, go_sem]) rfl ⟨rfl, HB.out⟩
  by_cases h5 : 31557600 < age
  · have hf : polB m mx age = false := by simp [polB]; omega
    rw [hf]
    clear hCW hf
    go_enter Try.func36, Try.ntmps36
    go_wp2_with fail
    rw [← hW]
    go_wp2
    refine bodyPost_ret (v := .bool false) (by simp [results, Try.results36, go_sem]) rfl ⟨rfl, HB.out⟩
  by_cases h6 : 8 < mx.length
  · have hf : polB m mx age = false := by simp [polB]; omega
    rw [hf]
    have h6i : (8 : Int) < (mx.length : Int) := by omega
    clear hCW hf
    go_enter Try.func36, Try.ntmps36
    go_wp2_with fail
    rw [← hW]
    go_wp2
    refine bodyPost_ret (v := .bool false) (by simp [results, Try.results36, go_sem]) rfl ⟨rfl, HB.out⟩
  have h6i : ¬ (8 : Int) < (mx.length : Int) := by omega
  have hK := hCW (by unfold maxLen; omega)
  clear hCW
  have hp : polB m mx age = ((decide (m = 1) || !mx.isEmpty) && mx.all patB) := by
    simp [polB, show 1 ≤ m by omega, show m ≤ 3 by omega, show 0 ≤ age by omega, show age ≤ 31557600 by omega, show mx.length ≤ 8 by omega]
  rw [hp]
  clear hp
  have h0e : mx.isEmpty = decide (mx.length = 0) := by cases mx <;> simp
  rw [h0e]
  clear h0e
  generalize mx.length = n at *
  generalize mx.all patB = r at hK ⊢
  by_cases h7 : m = 1
  · have h7i : decide ((m : Int) = 1) = true := by simp; omega
    have H7 := Lib.hid h7
    clear h7
    go_enter Try.func36, Try.ntmps36
    go_wp2_with fail
    rw [← hW]
    go_wp2_with fail
    refine hK.mono ?_
    rintro e w2 ⟨rfl, hb2⟩
    go_wp2
    refine bodyPost_ret (v := .bool r) (by simp [results, Try.results36, go_sem]) rfl ⟨by simp [H7.out], HB.out.trans (hb2.mono HB.out.size)⟩
  · have h7i : decide ((m : Int) = 1) = false := by simp; omega
    by_cases h8 : n = 0
    · subst h8
      clear hK
      go_enter Try.func36, Try.ntmps36
      go_wp2_with fail
      rw [← hW]
      go_wp2
      refine bodyPost_ret (v := .bool false) (by simp [results, Try.results36, go_sem]) rfl ⟨by simp [h7], HB.out⟩
    · have h8i : ((n : Int) == 0) = false := by simp; omega
      go_enter Try.func36, Try.ntmps36
      go_wp2_with fail
      rw [← hW]
      go_wp2_with fail
      refine hK.mono ?_
      rintro e w2 ⟨rfl, hb2⟩
      go_wp2
      refine bodyPost_ret (v := .bool r) (by simp [results, Try.results36, go_sem]) rfl ⟨by simp [h8], HB.out.trans (hb2.mono HB.out.size)⟩
end Go.Proofs.Ytojhledbfaninaa
