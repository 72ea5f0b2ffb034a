/- Parts of the proof, joined: Email, Eix, Eml, Edom. -/
import Derived.Test.YtlpngibdplnieaaGreatDoorMb
import Derived.Deep.CutRange
import Derived.Test.YtlpngibdplnieaaGreatDoorMa
import Derived.Sort.OwnSorted
import Derived.Lib.OwnBridge
/- addr.May, Same, Path, lines, Mail. -/
namespace Go.Proofs.YtlpngibdplnieaaGreatDoor
open Go Go.RowKit Go.Shelf Go.Sort
attribute [local go_sem] bneI

theorem cut_yes {s : Bytes} (h : (Lib.cut s [13, 10]).2.2 = true) : (Lib.cut s [13, 10]).2.1.length + 2 ≤ s.length ∧ (Lib.cut s [13, 10]).1.length ≤ s.length := by
  unfold Lib.cut at h ⊢
  split at h
  · rename_i h0
    rw [if_pos h0]
    have := Lib.index_room s [13, 10] h0
    simp at this ⊢
    omega
  · cases h
theorem linesF_fuel : ∀ (n : Nat) (s : Bytes), s.length ≤ n → linesF n s = linesF s.length s
  | 0, s, h => by
    have : s = [] := List.eq_nil_of_length_eq_zero (by omega)
    subst this; rfl
  | n + 1, [], _ => by
    unfold linesF
    have : Lib.cut ([] : Bytes) [13, 10] = ([], [], false) := by decide
    rw [this]
    rfl
  | n + 1, c :: r, h => by
    show linesF (n + 1) (c :: r) = linesF (r.length + 1) (c :: r)
    unfold linesF
    cases hc : Lib.cut (c :: r) [13, 10] with
    | mk l x =>
      obtain ⟨q, f⟩ := x
      cases f with
      | false => rfl
      | true =>
        have hy := cut_yes (s := c :: r) (by rw [hc])
        rw [hc] at hy
        simp only [List.length_cons] at hy h
        dsimp only
        rw [linesF_fuel n q (by omega), linesF_fuel r.length q (by omega)]
theorem linesB_cut {s l r : Bytes} (h : Lib.cut s [13, 10] = (l, r, true)) : linesB s = (l :: (linesB r).1, (linesB r).2) := by
  have hy := cut_yes (s := s) (by rw [h])
  rw [h] at hy
  dsimp only at hy
  unfold linesB
  obtain ⟨n, hn⟩ : ∃ n, s.length = n + 1 := ⟨s.length - 1, by omega⟩
  rw [hn]
  conv => lhs; unfold linesF
  rw [h]
  dsimp only
  rw [linesF_fuel n r (by omega)]
theorem linesB_no {s l r : Bytes} (h : Lib.cut s [13, 10] = (l, r, false)) : linesB s = ([], s) := by
  unfold linesB
  cases hs : s.length with
  | zero => rfl
  | succ n =>
    unfold linesF
    rw [h]
theorem textB_cut {s l r : Bytes} (h : Lib.cut s [13, 10] = (l, r, true)) : textB s = (lineOk l && textB r) := by
  unfold textB
  rw [linesB_cut h]
  simp [Bool.and_assoc]
theorem textB_no {s l r : Bytes} (h : Lib.cut s [13, 10] = (l, r, false)) (hs : s ≠ []) : textB s = false := by
  unfold textB
  rw [linesB_no h]
  simp [hs]

set_option maxRecDepth 100000 in
set_option maxHeartbeats 1000000 in
theorem addrMay_any (s : Bytes) (w : World) (hs : s.length ≤ 1000000) (hE : Env w) : Calls Tryz.prog 75 #[.string ⟨s.toArray⟩] w fun e w' => e = .returned (.bool (addrB s)) ∧ Below w.heap.size w w' := by
  have hP := parse_any s w hs hE
  clear hs hE
  go_enter Tryz.func75, Tryz.ntmps75
  go_wp2_with fail
  refine hP.mono ?_
  rintro e w1 ⟨⟨l, d, hp, -, rfl⟩ | ⟨hp, rfl⟩, hb⟩
  · have HB := Lib.hid (And.intro hp hb)
    clear hp hb hP
    go_wp2
    refine bodyPost_ret (v := .bool true) (by simp [results, Tryz.results75, go_sem]) rfl ⟨?_, HB.out.2⟩
    unfold addrB
    rw [HB.out.1]; rfl
  · have HB := Lib.hid (And.intro hp hb)
    clear hp hb hP
    go_wp2
    refine bodyPost_ret (v := .bool false) (by simp [results, Tryz.results75, go_sem]) rfl ⟨?_, HB.out.2⟩
    unfold addrB
    rw [HB.out.1]; rfl
theorem str_eq (a b : Bytes) : ((⟨a.toArray⟩ : ByteArray) == ⟨b.toArray⟩) = decide (a = b) := by
  rw [Bool.eq_iff_iff, MapKept.bytes_beq, decide_eq_true_eq]
  constructor
  · intro h; injection h with h; exact (by simpa using congrArg Array.toList h)
  · rintro rfl; rfl
set_option maxRecDepth 100000 in
set_option maxHeartbeats 1000000 in
theorem addrSame_any (a b : Bytes) (w : World) (ha : a.length ≤ 1000000) (hb : b.length ≤ 1000000) (hE : Env w) : Calls Tryz.prog 78 #[.string ⟨a.toArray⟩, .string ⟨b.toArray⟩] w fun e w' => e = .returned (.bool (sameA a b)) ∧ Below w.heap.size w w' := by
  have hP := parse_any a w ha hE
  have hQ := fun W hE => parse_any b W hb hE
  have HE := Lib.hid hE
  clear ha hb hE
  go_enter Tryz.func78, Tryz.ntmps78
  go_wp2_with fail
  refine hP.mono ?_
  rintro e w1 ⟨hp1, hb1⟩
  have hQ1 := hQ w1 (HE.out.keep hb1)
  have HB := Lib.hid hb1
  clear hP hQ hb1
  rcases hp1 with ⟨l1, d1, hp1, -, rfl⟩ | ⟨hp1, rfl⟩
  · have H1 := Lib.hid hp1
    clear hp1
    go_wp2_with fail
    refine hQ1.mono ?_
    rintro e w2 ⟨⟨l2, d2, hp2, -, rfl⟩ | ⟨hp2, rfl⟩, hb2⟩
    · have hs : sameA a b = (decide (l1 = l2) && decide (d1 = d2)) := by
        unfold sameA
        rw [H1.out, hp2]
        simp
      have H2 := Lib.hid (And.intro hs (HB.out.trans (hb2.mono HB.out.size)))
      clear hp2 hb2 hs hQ1
      by_cases hl : l1 = l2
      · subst hl
        by_cases hd : d1 = d2
        · subst hd
          go_wp2
          refine bodyPost_ret (v := .bool true) (by simp [results, Tryz.results78, go_sem]) rfl ⟨by rw [H2.out.1]; simp, H2.out.2⟩
        · go_wp2
          refine bodyPost_ret (v := .bool false) (by simp [results, Tryz.results78, go_sem, hd]) rfl ⟨by rw [H2.out.1, show decide (d1 = d2) = false from decide_eq_false hd]; simp, H2.out.2⟩
      · go_wp2
        refine bodyPost_ret (v := .bool false) (by simp [results, Tryz.results78, go_sem]) rfl ⟨by rw [H2.out.1, decide_eq_false hl]; rfl, H2.out.2⟩
    · have H2 := Lib.hid (And.intro hp2 (HB.out.trans (hb2.mono HB.out.size)))
      clear hp2 hb2 hQ1
      go_wp2
      refine bodyPost_ret (v := .bool false) (by simp [results, Tryz.results78, go_sem]) rfl ⟨?_, H2.out.2⟩
      unfold sameA
      rw [H2.out.1]; simp
  · have H1 := Lib.hid hp1
    clear hp1
    go_wp2_with fail
    refine hQ1.mono ?_
    rintro e w2 ⟨hp2, hb2⟩
    obtain ⟨v1, v2, v3, rfl⟩ : ∃ v1 v2 v3, e = .returned (.tuple #[v1, v2, v3]) := by
      rcases hp2 with ⟨l2, d2, _, -, rfl⟩ | ⟨_, rfl⟩
      · exact ⟨_, _, _, rfl⟩
      · exact ⟨_, _, _, rfl⟩
    have H2 := Lib.hid (HB.out.trans (hb2.mono HB.out.size))
    clear hp2 hb2 hQ1
    go_wp2
    refine bodyPost_ret (v := .bool false) (by simp [results, Tryz.results78, go_sem]) rfl ⟨?_, H2.out⟩
    unfold sameA
    rw [H1.out]; simp

/-- Path: is there one? -/
def PathPost (s : Bytes) (e : Ending) : Prop := ∃ p : ByteArray, e = .returned (.string p) ∧ p.toList.isEmpty = !pathB s
set_option maxRecDepth 100000 in
set_option maxHeartbeats 1000000 in
theorem path_any (s : Bytes) (w : World) (hs : s.length ≤ 1000000) (hE : Env w) : Calls Tryz.prog 70 #[.string ⟨s.toArray⟩] w fun e w' => PathPost s e ∧ Below w.heap.size w w' := by
  have hM := addrMay_any s w hs hE
  have hsz : (⟨s.toArray⟩ : ByteArray).size ≤ 1000000 := hs
  have htl : (⟨s.toArray⟩ : ByteArray).toList = s := ByteArray.toList_eq _
  clear hE
  by_cases h0 : s = []
  · have hp : pathB s = true := by unfold pathB; rw [h0]; rfl
    subst h0
    have HP := Lib.hid hp
    clear hp hM hs hsz htl
    go_enter Tryz.func70, Tryz.ntmps70
    go_wp2
    refine bodyPost_ret (v := .string ((⟨#[60]⟩ : ByteArray) ++ (⟨#[]⟩ : ByteArray) ++ (⟨#[62]⟩ : ByteArray))) (by simp [results, Tryz.results70, go_sem]) rfl ⟨⟨_, rfl, ?_⟩, Below.refl _ _⟩
    rw [HP.out, ByteArray.toList_eq]; rfl
  · have hp : pathB s = addrB s := by unfold pathB; simp [h0]
    have he : (⟨s.toArray⟩ : ByteArray).toList.isEmpty = false := by rw [htl]; simpa using h0
    have h1 : s.isEmpty = false := by simpa using h0
    cases hr : addrB s with
    | true =>
      rw [hr] at hM hp
      have HP := Lib.hid hp
      clear hp hr htl he
      go_enter Tryz.func70, Tryz.ntmps70
      go_wp2_with fail
      refine hM.mono ?_
      rintro e w1 ⟨rfl, hb⟩
      have HB := Lib.hid hb
      clear hb hM
      go_wp2
      refine bodyPost_ret (v := .string ((⟨#[60]⟩ : ByteArray) ++ (⟨s.toArray⟩ : ByteArray) ++ (⟨#[62]⟩ : ByteArray))) (by simp [results, Tryz.results70, go_sem]) rfl ⟨⟨_, rfl, ?_⟩, HB.out⟩
      rw [HP.out, ByteArray.toList_eq]; simp
    | false =>
      rw [hr] at hM hp
      have HP := Lib.hid hp
      clear hp hr htl he
      go_enter Tryz.func70, Tryz.ntmps70
      go_wp2_with fail
      refine hM.mono ?_
      rintro e w1 ⟨rfl, hb⟩
      have HB := Lib.hid hb
      clear hb hM
      go_wp2
      refine bodyPost_ret (v := .string ⟨#[]⟩) (by simp [results, Tryz.results70, go_sem]) rfl ⟨⟨_, rfl, ?_⟩, HB.out⟩
      rw [HP.out, ByteArray.toList_eq]; rfl

/-! ### Lines -/
def lineC (c : UInt8) : Bool := c == 9 || (32 ≤ c && c ≤ 126)
theorem lineC_int (c : UInt8) : lineC c = (decide ((c.toNat : Int) = 9) || (decide (32 ≤ (c.toNat : Int)) && decide ((c.toNat : Int) ≤ 126))) := by
  unfold lineC
  congr 1
  · exact eqI c 9 (by decide)
  · congr 1 <;> exact decide_eq_decide.2 (by rw [UInt8.le_iff_toNat_le]; simp; omega)
set_option maxRecDepth 100000 in
set_option maxHeartbeats 1000000 in
theorem lines1_any (c : UInt8) (w : World) : Calls Tryz.prog 123 (#[.int .u8 (c.toNat : Int)] ++ #[]) w fun e w' => e = .returned (.bool (lineC c)) ∧ w' = w := by
  have hl := lineC_int c
  generalize lineC c = r at hl
  generalize c.toNat = n at hl
  have hk : ((n : Int) = 9 ∧ r = true) ∨ (¬ (n : Int) = 9 ∧ (n : Int) < 32 ∧ r = false) ∨ (¬ (n : Int) = 9 ∧ 32 ≤ (n : Int) ∧ (n : Int) ≤ 126 ∧ r = true) ∨ (¬ (n : Int) = 9 ∧ 32 ≤ (n : Int) ∧ 126 < (n : Int) ∧ r = false) := by
    rw [hl]
    simp only [Bool.or_eq_true, Bool.and_eq_true, decide_eq_true_eq, Bool.or_eq_false_iff, Bool.and_eq_false_iff, decide_eq_false_iff_not]
    omega
  clear hl
  rcases hk with ⟨h1, rfl⟩ | ⟨h0, h1, rfl⟩ | ⟨h0, h1, h2, rfl⟩ | ⟨h0, h1, h2, rfl⟩
  · have h3 : ((n : Int) == 9) = true := by rw [h1]; rfl
    have h4 : decide ((n : Int) = 9) = true := by rw [h1]; rfl
    clear h1
    go_enter Tryz.func123, Tryz.ntmps123
    go_wp2
    refine bodyPost_ret (v := .bool true) (by simp [results, Tryz.results123, go_sem]) rfl ⟨rfl, rfl⟩
  all_goals
    have h3 : ((n : Int) == 9) = false := by simpa using h0
    have h4 : decide ((n : Int) = 9) = false := by simpa using h0
    clear h0
  · have h5 : ¬ (32 : Int) ≤ n := by omega
    go_enter Tryz.func123, Tryz.ntmps123
    go_wp2
    refine bodyPost_ret (v := .bool false) (by simp [results, Tryz.results123, go_sem]) rfl ⟨rfl, rfl⟩
  · go_enter Tryz.func123, Tryz.ntmps123
    go_wp2
    refine bodyPost_ret (v := .bool true) (by simp [results, Tryz.results123, go_sem]) rfl ⟨rfl, rfl⟩
  · have h5 : ¬ (n : Int) ≤ 126 := by omega
    go_enter Tryz.func123, Tryz.ntmps123
    go_wp2
    refine bodyPost_ret (v := .bool false) (by simp [results, Tryz.results123, go_sem]) rfl ⟨rfl, rfl⟩
/-- each over a predicate that keeps nothing in mind. -/
theorem eachP_any (s : Bytes) (F : FuncId) (hE : ∀ args w, (callFunc F args).run Tryz.prog w = .ok (.enter F args) w) (f : UInt8 → Bool) (w : World) (hs : s.length ≤ maxLen)
    (hF : ∀ (c : UInt8) (W : World), Calls Tryz.prog F (#[.int .u8 (c.toNat : Int)] ++ #[]) W fun e W' => e = .returned (.bool (f c)) ∧ W' = W) :
    Calls Tryz.prog 72 #[.string ⟨s.toArray⟩, .func (.func F) #[] #[]] w fun e w' => e = .returned (.bool (s.all f)) ∧ w' = w := by
  refine (each_any s F hE #[] (fun _ c => f c) (fun _ W => W = w) w hs (fun pre c W h => (hF c W).mono fun e w' hh => ⟨hh.1, hh.2.trans h⟩) rfl).mono ?_
  rintro e w' ⟨t, rfl, h | h⟩
  · obtain ⟨rfl, -, hall⟩ := h
    refine ⟨?_, rfl⟩
    rw [show s.all f = true from List.all_eq_true.2 fun c hc => by
      obtain ⟨j, hj, rfl⟩ := List.getElem_of_mem hc
      exact hall j hj]
  · obtain ⟨rfl, j, hj, hf⟩ := h
    refine ⟨?_, rfl⟩
    rw [show s.all f = false from by
      rw [List.all_eq_false]
      exact ⟨s[j], List.getElem_mem hj, by rw [show f s[j] = false from hf]; simp⟩]
def strLen : Value → Nat | .string b => b.size | _ => 0
set_option maxRecDepth 100000 in
set_option maxHeartbeats 2000000 in
theorem lines_any (s : Bytes) (w : World) (hs : s.length ≤ 1000000) (hE : Env w) : Calls Tryz.prog 71 #[.string ⟨s.toArray⟩] w fun e w' => e = .returned (.bool (textB s)) ∧ Below w.heap.size w w' := by
  have HE := Lib.hid (And.intro hE hs)
  clear hE hs
  go_enter Tryz.func71, Tryz.ntmps71
  go_wp2_with fail
  go_loopw [0] (fun s0 wr => ∃ r : Bytes, s0 = .string ⟨r.toArray⟩ ∧ textB s = textB r ∧ r.length ≤ s.length ∧ Below w.heap.size w wr) (fun s0 _ => strLen s0)
  case atStart => exact ⟨s, rfl, rfl, Nat.le_refl _, Below.refl _ _⟩
  case round =>
    obtain ⟨r, rfl, ht, hl, hB⟩ := hrel
    by_cases h0 : r = []
    · have htr : textB s = true := by rw [ht, h0]; rfl
      subst h0
      have HB := Lib.hid (And.intro htr hB)
      clear ht hl hB htr
      go_wp2
      refine bodyPost_ret (v := .bool true) (by simp [results, Tryz.results71, go_sem]) rfl ⟨by rw [HB.out.1], HB.out.2⟩
    · have hrl : r.length ≤ 1000000 := by have := HE.out.2; omega
      obtain ⟨m, hm⟩ := (HE.out.1.keep hB).glob
      have hC := Tryz.strings_Cut ⟨r.toArray⟩ ⟨#[13, 10]⟩ m wr (by show r.length < _; omega) hm
      have e1 : (⟨r.toArray⟩ : ByteArray).data.toList = r := rfl
      have e3 : (⟨#[13, 10]⟩ : ByteArray).data.toList = [13, 10] := rfl
      rw [e1, e3] at hC
      have h1 : r.isEmpty = false := by simpa using h0
      cases hc : Lib.cut r [13, 10] with
      | mk l x =>
        obtain ⟨q, f⟩ := x
        rw [hc] at hC
        dsimp only at hC
        cases f with
        | false =>
          have htf : textB s = false := by rw [ht]; exact textB_no hc h0
          have HB := Lib.hid (And.intro htf hB)
          clear ht hl hB htf e1 e3 hm hc hrl
          go_wp2_with fail
          refine hC.mono ?_
          rintro e w1 ⟨rfl, n, rfl⟩
          clear hC
          go_wp2
          refine bodyPost_ret (v := .bool false) (by simp [results, Tryz.results71, go_sem]) rfl ⟨by rw [HB.out.1], HB.out.2.trans ((below_drewN (Below.refl _ _) n).mono HB.out.2.size)⟩
        | true =>
          have htt : textB s = (lineOk l && textB q) := by rw [ht]; exact textB_cut hc
          have hy := cut_yes (s := r) (by rw [hc])
          rw [hc] at hy
          dsimp only at hy
          have hll : l.length ≤ 1000000 := by omega
          have hEa := fun W => eachP_any l 123 (enters_of Tryz.func123 (by kernel_rfl) rfl) lineC W (by unfold maxLen; omega) (fun c W => lines1_any c W)
          have hok : lineOk l = (decide (l.length + 2 ≤ 512) && l.all lineC) := rfl
          have HB := Lib.hid (And.intro htt (And.intro hB (And.intro hy hl)))
          clear ht hl hB htt e1 e3 hm hc hrl hy
          go_wp2_with fail
          refine hC.mono ?_
          rintro e w1 ⟨rfl, n, rfl⟩
          clear hC
          by_cases h512 : l.length + 2 ≤ 512
          · have h5 : ¬ (512 : Int) < (l.length : Int) + 2 := by omega
            rw [decide_eq_true h512, Bool.true_and] at hok
            clear h512
            go_wp2_with fail
            refine (hEa _).mono ?_
            rintro e w1 ⟨rfl, rfl⟩
            clear hEa
            cases hal : l.all lineC with
            | false =>
              rw [hal] at hok
              have HO := Lib.hid hok
              clear hok hal
              go_wp2
              refine bodyPost_ret (v := .bool false) (by simp [results, Tryz.results71, go_sem]) rfl ⟨by rw [HB.out.1, HO.out]; rfl, HB.out.2.1.trans ((below_drewN (Below.refl _ _) n).mono HB.out.2.1.size)⟩
            | true =>
              rw [hal] at hok
              have HO := Lib.hid hok
              clear hok hal
              go_wp2
              go_roundw
              case rel => exact ⟨q, rfl, by rw [HB.out.1, HO.out, Bool.true_and], by have := HB.out.2.2.1.1; have := HB.out.2.2.2; omega, HB.out.2.1.trans ((below_drewN (Below.refl _ _) n).mono HB.out.2.1.size)⟩
              case measure =>
                have := HB.out.2.2.1.1
                show q.length < r.length
                omega
          · have h5 : (512 : Int) < (l.length : Int) + 2 := by omega
            rw [decide_eq_false h512, Bool.false_and] at hok
            have HO := Lib.hid hok
            clear h512 hok hEa
            go_wp2
            refine bodyPost_ret (v := .bool false) (by simp [results, Tryz.results71, go_sem]) rfl ⟨by rw [HB.out.1, HO.out]; rfl, HB.out.2.1.trans ((below_drewN (Below.refl _ _) n).mono HB.out.2.1.size)⟩
end Go.Proofs.YtlpngibdplnieaaGreatDoor

/- slices.IndexFunc, ContainsFunc over rows of structs, at whatever predicate. -/
namespace Go.Proofs.YtlpngibdplnieaaGreatDoor
open Go Go.RowKit Go.Shelf Go.Sort
attribute [local go_sem] bneI

abbrev RcP := Bytes × Bool
def rcE (x : RcP) : List Value := [.string ⟨x.1.toArray⟩, .bool x.2]
abbrev FaP := Nat × Bytes
def faE (x : FaP) : List Value := [.int .u8 (x.1 : Int), .string ⟨x.2.toArray⟩]
structure JoP where
  dom : Bytes
  tries : Int
  due : Int
  deriving DecidableEq
def joE (x : JoP) : List Value := [.string ⟨x.dom.toArray⟩, .int .i64 x.tries, .int .i64 x.due]
/-- What IndexFunc answers. -/
def IxPost {α : Type} (f : α → Bool) (xs : List α) (e : Ending) : Prop := (e = .returned (.int .i64 (-1)) ∧ ∀ (j : Nat) (hj : j < xs.length), f xs[j] = false) ∨ ∃ (i : Nat) (hi : i < xs.length), e = .returned (.int .i64 (i : Int)) ∧ f xs[i] = true ∧ ∀ (j : Nat) (hj : j < xs.length), j < i → f xs[j] = false
theorem IxPost.int {α : Type} {f : α → Bool} {xs : List α} {e : Ending} (h : IxPost f xs e) : ∃ k : Int, e = .returned (.int .i64 k) ∧ xs.any f = decide (0 ≤ k) := by
  rcases h with ⟨rfl, h⟩ | ⟨i, hi, rfl, h, _⟩
  · refine ⟨-1, rfl, ?_⟩
    rw [List.any_eq_false.2]
    · rfl
    · intro x hx
      obtain ⟨j, hj, rfl⟩ := List.getElem_of_mem hx
      rw [h j hj]; simp
  · refine ⟨i, rfl, ?_⟩
    rw [List.any_eq_true.2 ⟨xs[i], List.getElem_mem hi, h⟩]
    simp

/-! ### Rcpt -/
set_option maxRecDepth 100000 in
set_option maxHeartbeats 1000000 in
theorem ixRcpt_any (F : FuncId) (hE : ∀ args w, (callFunc F args).run Tryz.prog w = .ok (.enter F args) w) (caps : Array Value) (f : RcP → Bool) (xs : List RcP) (v : Value) (w : World) (hr : RowK 2 rcE w v xs) (hn : xs.length ≤ 1000000)
    (hF : ∀ x ∈ xs, ∀ W, Below w.heap.size w W → Calls Tryz.prog F (#[.agg (rcE x).toArray] ++ caps) W fun e W' => e = .returned (.bool (f x)) ∧ Below W.heap.size W W') :
    Calls Tryz.prog 124 #[v, .func (.func F) #[] caps] w fun e w' => IxPost f xs e ∧ Below w.heap.size w w' := by
  obtain ⟨p, c, rfl, -⟩ := hr.sh
  have HF := Lib.hid (And.intro hF hr)
  clear hF hr
  go_enter Tryz.func124, Tryz.ntmps124
  go_wp2_with fail
  go_loopw [8] (fun iv wr => ∃ i : Nat, iv = .int .i64 (i : Int) ∧ i ≤ xs.length ∧ (∀ (j : Nat) (hj : j < xs.length), j < i → f xs[j] = false) ∧ Below w.heap.size w wr) (fun iv _ => xs.length - natI iv)
  case atStart => exact ⟨0, rfl, Nat.zero_le _, fun j hj h => absurd h (Nat.not_lt_zero _), Below.refl _ _⟩
  case round =>
    obtain ⟨i, rfl, hi, hno, hB⟩ := hrel
    by_cases hlast : i < xs.length
    · have hli : (i : Int) < (xs.length : Int) := by omega
      obtain ⟨b, o, rfl, hc⟩ := (HF.out.2.below hB).at i hlast
      have hc' := hc i hlast
      have y0 : wr.cell? ⟨b, o + i * 2, none⟩ = some (.string ⟨xs[i].1.toArray⟩) := hc' 0 _ rfl
      have y1 : wr.cell? ⟨b, o + i * 2 + 1, none⟩ = some (.bool xs[i].2) := hc' 1 _ rfl
      have hcl := HF.out.1 xs[i] (List.getElem_mem hlast) wr hB
      have HR := Lib.hid (And.intro hno hB)
      clear hc hc' hno hB
      obtain ⟨x, hx⟩ : ∃ x, x = xs[i] := ⟨_, rfl⟩
      rw [← hx] at y0 y1 hcl
      have hfx : ∀ r : Bool, f x = r → f xs[i] = r := fun r h => by rw [← hx]; exact h
      have HX := Lib.hid hfx
      clear hx hfx
      unfold rcE at hcl
      obtain ⟨t1, t2⟩ := x
      dsimp only at y0 y1 hcl
      have hrun : Sem.run Tryz.prog (callFunc F (#[.agg #[.string ⟨t1.toArray⟩, .bool t2]] ++ caps)) wr = .ok (.enter F (#[.agg #[.string ⟨t1.toArray⟩, .bool t2]] ++ caps)) wr := hE _ _
      go_wp2_with fail
      refine hcl.mono ?_
      rintro e w1 ⟨rfl, hb⟩
      have HB := Lib.hid (HR.out.2.trans (hb.mono HR.out.2.size))
      clear hrun hcl hb y0 y1
      cases hf : f (t1, t2) with
      | true =>
        have HN := Lib.hid (HX.out _ hf)
        clear hf
        go_wp2
        refine bodyPost_ret (v := .int .i64 (i : Int)) (by simp [results, Tryz.results124, go_sem]) rfl ⟨.inr ⟨i, hlast, rfl, HN.out, fun j hj h => HR.out.1 j hj h⟩, HB.out⟩
      | false =>
        have HN := Lib.hid (HX.out _ hf)
        clear hf
        go_wp2
        go_roundw
        case rel => exact ⟨i + 1, by simp, by omega, fun j hj h => by
          by_cases e : j = i
          · subst e; exact HN.out
          · exact HR.out.1 j hj (by omega), HB.out⟩
        case measure => simp [natI]; omega
    · have hli : ¬ (i : Int) < (xs.length : Int) := by omega
      have hil : xs.length ≤ i := by omega
      have HN := Lib.hid (And.intro hno (And.intro hB hil))
      clear hno hB hil
      go_wp2
      refine bodyPost_ret (v := .int .i64 (-1)) (by simp [results, Tryz.results124, go_sem]) rfl ⟨.inl ⟨rfl, fun j hj => HN.out.1 j hj (by have := HN.out.2.2; omega)⟩, HN.out.2.1⟩
set_option maxRecDepth 100000 in
theorem hasRcpt_any (F : FuncId) (hE : ∀ args w, (callFunc F args).run Tryz.prog w = .ok (.enter F args) w) (caps : Array Value) (f : RcP → Bool) (xs : List RcP) (v : Value) (w : World) (hr : RowK 2 rcE w v xs) (hn : xs.length ≤ 1000000)
    (hF : ∀ x ∈ xs, ∀ W, Below w.heap.size w W → Calls Tryz.prog F (#[.agg (rcE x).toArray] ++ caps) W fun e W' => e = .returned (.bool (f x)) ∧ Below W.heap.size W W') :
    Calls Tryz.prog 76 #[v, .func (.func F) #[] caps] w fun e w' => e = .returned (.bool (xs.any f)) ∧ Below w.heap.size w w' := by
  have hI := ixRcpt_any F hE caps f xs v w hr hn hF
  clear hF hr
  go_enter Tryz.func76, Tryz.ntmps76
  go_wp2_with fail
  refine hI.mono ?_
  rintro e w1 ⟨hP, hb⟩
  obtain ⟨k, rfl, hk⟩ := hP.int
  have HB := Lib.hid (And.intro hk hb)
  clear hk hb hP hI
  go_wp2
  refine bodyPost_ret (v := .bool (decide (0 ≤ k))) (by simp [results, Tryz.results76, go_sem]) rfl ⟨by rw [HB.out.1], HB.out.2⟩

/-! ### Fate -/
set_option maxRecDepth 100000 in
set_option maxHeartbeats 1000000 in
theorem ixFate_any (F : FuncId) (hE : ∀ args w, (callFunc F args).run Tryz.prog w = .ok (.enter F args) w) (caps : Array Value) (f : FaP → Bool) (xs : List FaP) (v : Value) (w : World) (hr : RowK 2 faE w v xs) (hn : xs.length ≤ 1000000)
    (hF : ∀ x ∈ xs, ∀ W, Below w.heap.size w W → Calls Tryz.prog F (#[.agg (faE x).toArray] ++ caps) W fun e W' => e = .returned (.bool (f x)) ∧ Below W.heap.size W W') :
    Calls Tryz.prog 115 #[v, .func (.func F) #[] caps] w fun e w' => IxPost f xs e ∧ Below w.heap.size w w' := by
  obtain ⟨p, c, rfl, -⟩ := hr.sh
  have HF := Lib.hid (And.intro hF hr)
  clear hF hr
  go_enter Tryz.func115, Tryz.ntmps115
  go_wp2_with fail
  go_loopw [8] (fun iv wr => ∃ i : Nat, iv = .int .i64 (i : Int) ∧ i ≤ xs.length ∧ (∀ (j : Nat) (hj : j < xs.length), j < i → f xs[j] = false) ∧ Below w.heap.size w wr) (fun iv _ => xs.length - natI iv)
  case atStart => exact ⟨0, rfl, Nat.zero_le _, fun j hj h => absurd h (Nat.not_lt_zero _), Below.refl _ _⟩
  case round =>
    obtain ⟨i, rfl, hi, hno, hB⟩ := hrel
    by_cases hlast : i < xs.length
    · have hli : (i : Int) < (xs.length : Int) := by omega
      obtain ⟨b, o, rfl, hc⟩ := (HF.out.2.below hB).at i hlast
      have hc' := hc i hlast
      have y0 : wr.cell? ⟨b, o + i * 2, none⟩ = some (.int .u8 (xs[i].1 : Int)) := hc' 0 _ rfl
      have y1 : wr.cell? ⟨b, o + i * 2 + 1, none⟩ = some (.string ⟨xs[i].2.toArray⟩) := hc' 1 _ rfl
      have hcl := HF.out.1 xs[i] (List.getElem_mem hlast) wr hB
      have HR := Lib.hid (And.intro hno hB)
      clear hc hc' hno hB
      obtain ⟨x, hx⟩ : ∃ x, x = xs[i] := ⟨_, rfl⟩
      rw [← hx] at y0 y1 hcl
      have hfx : ∀ r : Bool, f x = r → f xs[i] = r := fun r h => by rw [← hx]; exact h
      have HX := Lib.hid hfx
      clear hx hfx
      unfold faE at hcl
      obtain ⟨t1, t2⟩ := x
      dsimp only at y0 y1 hcl
      have hrun : Sem.run Tryz.prog (callFunc F (#[.agg #[.int .u8 (t1 : Int), .string ⟨t2.toArray⟩]] ++ caps)) wr = .ok (.enter F (#[.agg #[.int .u8 (t1 : Int), .string ⟨t2.toArray⟩]] ++ caps)) wr := hE _ _
      go_wp2_with fail
      refine hcl.mono ?_
      rintro e w1 ⟨rfl, hb⟩
      have HB := Lib.hid (HR.out.2.trans (hb.mono HR.out.2.size))
      clear hrun hcl hb y0 y1
      cases hf : f (t1, t2) with
      | true =>
        have HN := Lib.hid (HX.out _ hf)
        clear hf
        go_wp2
        refine bodyPost_ret (v := .int .i64 (i : Int)) (by simp [results, Tryz.results115, go_sem]) rfl ⟨.inr ⟨i, hlast, rfl, HN.out, fun j hj h => HR.out.1 j hj h⟩, HB.out⟩
      | false =>
        have HN := Lib.hid (HX.out _ hf)
        clear hf
        go_wp2
        go_roundw
        case rel => exact ⟨i + 1, by simp, by omega, fun j hj h => by
          by_cases e : j = i
          · subst e; exact HN.out
          · exact HR.out.1 j hj (by omega), HB.out⟩
        case measure => simp [natI]; omega
    · have hli : ¬ (i : Int) < (xs.length : Int) := by omega
      have hil : xs.length ≤ i := by omega
      have HN := Lib.hid (And.intro hno (And.intro hB hil))
      clear hno hB hil
      go_wp2
      refine bodyPost_ret (v := .int .i64 (-1)) (by simp [results, Tryz.results115, go_sem]) rfl ⟨.inl ⟨rfl, fun j hj => HN.out.1 j hj (by have := HN.out.2.2; omega)⟩, HN.out.2.1⟩
set_option maxRecDepth 100000 in
theorem hasFate_any (F : FuncId) (hE : ∀ args w, (callFunc F args).run Tryz.prog w = .ok (.enter F args) w) (caps : Array Value) (f : FaP → Bool) (xs : List FaP) (v : Value) (w : World) (hr : RowK 2 faE w v xs) (hn : xs.length ≤ 1000000)
    (hF : ∀ x ∈ xs, ∀ W, Below w.heap.size w W → Calls Tryz.prog F (#[.agg (faE x).toArray] ++ caps) W fun e W' => e = .returned (.bool (f x)) ∧ Below W.heap.size W W') :
    Calls Tryz.prog 55 #[v, .func (.func F) #[] caps] w fun e w' => e = .returned (.bool (xs.any f)) ∧ Below w.heap.size w w' := by
  have hI := ixFate_any F hE caps f xs v w hr hn hF
  clear hF hr
  go_enter Tryz.func55, Tryz.ntmps55
  go_wp2_with fail
  refine hI.mono ?_
  rintro e w1 ⟨hP, hb⟩
  obtain ⟨k, rfl, hk⟩ := hP.int
  have HB := Lib.hid (And.intro hk hb)
  clear hk hb hP hI
  go_wp2
  refine bodyPost_ret (v := .bool (decide (0 ≤ k))) (by simp [results, Tryz.results55, go_sem]) rfl ⟨by rw [HB.out.1], HB.out.2⟩

/-! ### Job -/
set_option maxRecDepth 100000 in
set_option maxHeartbeats 1000000 in
theorem ixJob_any (F : FuncId) (hE : ∀ args w, (callFunc F args).run Tryz.prog w = .ok (.enter F args) w) (caps : Array Value) (f : JoP → Bool) (xs : List JoP) (v : Value) (w : World) (hr : RowK 3 joE w v xs) (hn : xs.length ≤ 1000000)
    (hF : ∀ x ∈ xs, ∀ W, Below w.heap.size w W → Calls Tryz.prog F (#[.agg (joE x).toArray] ++ caps) W fun e W' => e = .returned (.bool (f x)) ∧ Below W.heap.size W W') :
    Calls Tryz.prog 68 #[v, .func (.func F) #[] caps] w fun e w' => IxPost f xs e ∧ Below w.heap.size w w' := by
  obtain ⟨p, c, rfl, -⟩ := hr.sh
  have HF := Lib.hid (And.intro hF hr)
  clear hF hr
  go_enter Tryz.func68, Tryz.ntmps68
  go_wp2_with fail
  go_loopw [8] (fun iv wr => ∃ i : Nat, iv = .int .i64 (i : Int) ∧ i ≤ xs.length ∧ (∀ (j : Nat) (hj : j < xs.length), j < i → f xs[j] = false) ∧ Below w.heap.size w wr) (fun iv _ => xs.length - natI iv)
  case atStart => exact ⟨0, rfl, Nat.zero_le _, fun j hj h => absurd h (Nat.not_lt_zero _), Below.refl _ _⟩
  case round =>
    obtain ⟨i, rfl, hi, hno, hB⟩ := hrel
    by_cases hlast : i < xs.length
    · have hli : (i : Int) < (xs.length : Int) := by omega
      obtain ⟨b, o, rfl, hc⟩ := (HF.out.2.below hB).at i hlast
      have hc' := hc i hlast
      have y0 : wr.cell? ⟨b, o + i * 3, none⟩ = some (.string ⟨xs[i].dom.toArray⟩) := hc' 0 _ rfl
      have y1 : wr.cell? ⟨b, o + i * 3 + 1, none⟩ = some (.int .i64 xs[i].tries) := hc' 1 _ rfl
      have y2 : wr.cell? ⟨b, o + i * 3 + 2, none⟩ = some (.int .i64 xs[i].due) := hc' 2 _ rfl
      have hcl := HF.out.1 xs[i] (List.getElem_mem hlast) wr hB
      have HR := Lib.hid (And.intro hno hB)
      clear hc hc' hno hB
      obtain ⟨x, hx⟩ : ∃ x, x = xs[i] := ⟨_, rfl⟩
      rw [← hx] at y0 y1 y2 hcl
      have hfx : ∀ r : Bool, f x = r → f xs[i] = r := fun r h => by rw [← hx]; exact h
      have HX := Lib.hid hfx
      clear hx hfx
      unfold joE at hcl
      obtain ⟨t1, t2, t3⟩ := x
      dsimp only at y0 y1 y2 hcl
      have hrun : Sem.run Tryz.prog (callFunc F (#[.agg #[.string ⟨t1.toArray⟩, .int .i64 t2, .int .i64 t3]] ++ caps)) wr = .ok (.enter F (#[.agg #[.string ⟨t1.toArray⟩, .int .i64 t2, .int .i64 t3]] ++ caps)) wr := hE _ _
      go_wp2_with fail
      refine hcl.mono ?_
      rintro e w1 ⟨rfl, hb⟩
      have HB := Lib.hid (HR.out.2.trans (hb.mono HR.out.2.size))
      clear hrun hcl hb y0 y1 y2
      cases hf : f ⟨t1, t2, t3⟩ with
      | true =>
        have HN := Lib.hid (HX.out _ hf)
        clear hf
        go_wp2
        refine bodyPost_ret (v := .int .i64 (i : Int)) (by simp [results, Tryz.results68, go_sem]) rfl ⟨.inr ⟨i, hlast, rfl, HN.out, fun j hj h => HR.out.1 j hj h⟩, HB.out⟩
      | false =>
        have HN := Lib.hid (HX.out _ hf)
        clear hf
        go_wp2
        go_roundw
        case rel => exact ⟨i + 1, by simp, by omega, fun j hj h => by
          by_cases e : j = i
          · subst e; exact HN.out
          · exact HR.out.1 j hj (by omega), HB.out⟩
        case measure => simp [natI]; omega
    · have hli : ¬ (i : Int) < (xs.length : Int) := by omega
      have hil : xs.length ≤ i := by omega
      have HN := Lib.hid (And.intro hno (And.intro hB hil))
      clear hno hB hil
      go_wp2
      refine bodyPost_ret (v := .int .i64 (-1)) (by simp [results, Tryz.results68, go_sem]) rfl ⟨.inl ⟨rfl, fun j hj => HN.out.1 j hj (by have := HN.out.2.2; omega)⟩, HN.out.2.1⟩
end Go.Proofs.YtlpngibdplnieaaGreatDoor

/- addr.Mail. -/
namespace Go.Proofs.YtlpngibdplnieaaGreatDoor
open Go Go.RowKit Go.Shelf Go.Sort
attribute [local go_sem] bneI

def envC (c : UInt8) : Bool := letB c || c == 45
set_option maxRecDepth 100000 in
theorem mail1_any (c : UInt8) (w : World) : Calls Tryz.prog 73 (#[.int .u8 (c.toNat : Int)] ++ #[]) w fun e w' => e = .returned (.bool (envC c)) ∧ w' = w := by
  have hL := letter_any c w
  have he : envC c = (letB c || decide ((c.toNat : Int) = 45)) := by
    unfold envC
    congr 1
    exact eqI c 45 (by decide)
  rw [he]
  clear he
  generalize letB c = lt at *
  generalize c.toNat = n at *
  go_enter Tryz.func73, Tryz.ntmps73
  go_wp2_with fail
  refine hL.mono ?_
  rintro e w1 ⟨rfl, rfl⟩
  clear hL
  cases lt
  · by_cases h : (n : Int) = 45
    · have h1 : ((n : Int) == 45) = true := by rw [h]; rfl
      have h2 : decide ((n : Int) = 45) = true := by rw [h]; rfl
      have H := Lib.hid h2
      clear h
      go_wp2
      refine bodyPost_ret (v := .bool true) (by simp [results, Tryz.results73, go_sem]) rfl ⟨by rw [H.out]; rfl, rfl⟩
    · have h1 : ((n : Int) == 45) = false := by simpa using h
      have h2 : decide ((n : Int) = 45) = false := by simpa using h
      have H := Lib.hid h2
      clear h
      go_wp2
      refine bodyPost_ret (v := .bool false) (by simp [results, Tryz.results73, go_sem]) rfl ⟨by rw [H.out]; rfl, rfl⟩
  · go_wp2
    refine bodyPost_ret (v := .bool true) (by simp [results, Tryz.results73, go_sem]) rfl ⟨by simp, rfl⟩
set_option maxRecDepth 100000 in
theorem mail2_any (x : RcP) (r : Bytes) (b : Nat) (w : World) (hx : x.1.length ≤ 1000000) (hr : r.length ≤ 1000000) (hE : Env w) (hb : w.cell? ⟨b, 0, none⟩ = some (.string ⟨r.toArray⟩)) :
    Calls Tryz.prog 77 (#[.agg (rcE x).toArray] ++ #[.pointer (some ⟨b, 0, none⟩)]) w fun e w' => e = .returned (.bool (sameA x.1 r)) ∧ Below w.heap.size w w' := by
  have hS := fun W hE => addrSame_any x.1 r W hx hr hE
  obtain ⟨t, nv⟩ := x
  unfold rcE
  dsimp only at hS ⊢
  obtain ⟨W1, hW1⟩ : ∃ W1, W1 = (w.alloc (.cells #[.string ⟨t.toArray⟩, .bool nv] 57)) := ⟨_, rfl⟩
  have hB1 : Below w.heap.size w W1 := by rw [hW1]; exact (Below.refl _ w).alloc (Nat.le_refl _) _
  have hb1 : W1.heap[w.heap.size]? = some (.cells #[.string ⟨t.toArray⟩, .bool nv] 57 (0, 0)) := by rw [hW1]; exact ha_eq rfl
  have x0 : W1.cell? ⟨w.heap.size, 0, none⟩ = some (.string ⟨t.toArray⟩) := by simp [World.cell?, hb1]
  have y0 := (hB1.cell (p := ⟨b, 0, none⟩) (cell_lt hb)).trans hb
  have hS1 := hS W1 (hE.keep hB1)
  have HB := Lib.hid hB1
  clear hS hB1 hb1 hb hE
  go_enter Tryz.func77, Tryz.ntmps77
  go_upto_region 1 with (fail)
  rw [← hW1]
  clear hW1
  go_wp2_with fail
  refine hS1.mono ?_
  rintro e w1 ⟨rfl, hb⟩
  have HB2 := Lib.hid (HB.out.trans (hb.mono HB.out.size))
  clear hb hS1
  go_wp2
  refine bodyPost_ret (v := .bool (sameA t r)) (by simp [results, Tryz.results77, go_sem]) rfl ⟨rfl, HB2.out⟩
theorem rcptsB_snoc : ∀ (l ahead : List Bytes) (x : Bytes), rcptsB ahead (l ++ [x]) = (rcptsB ahead l && (addrB x && !((ahead ++ l).any fun y => sameA y x)))
  | [], ahead, x => by simp [rcptsB]
  | r :: l, ahead, x => by
    show rcptsB ahead (r :: (l ++ [x])) = _
    unfold rcptsB
    rw [rcptsB_snoc l (ahead ++ [r]) x]
    simp [Bool.and_assoc]
theorem rcpts_succ (rs : List RcP) (i : Nat) (hi : i < rs.length) : rcptsB [] ((rs.map (·.1)).take (i + 1)) = (rcptsB [] ((rs.map (·.1)).take i) && (addrB rs[i].1 && !((rs.take i).any fun x => sameA x.1 rs[i].1))) := by
  have h : (rs.map (·.1)).take (i + 1) = (rs.map (·.1)).take i ++ [rs[i].1] := by
    rw [List.take_succ_eq_append_getElem (by simpa using hi)]
    simp
  rw [h, rcptsB_snoc, List.nil_append, ← List.map_take, List.any_map]
  rfl
/-- The texts of a mail are not long. -/
structure ShortM (m : MailP) : Prop where
  sender : m.sender.length ≤ 1000000
  envid : m.envid.length ≤ 1000000
  text : m.text.length ≤ 1000000
  rcpts : m.rcpts.length ≤ 1000000
  tos : ∀ r ∈ m.rcpts, r.1.length ≤ 1000000
def mailC (m : MailP) (sv : Value) : List Value := [.string ⟨m.sender.toArray⟩, sv, .bool m.req, .string ⟨m.envid.toArray⟩, .string ⟨m.text.toArray⟩]
def mailV (m : MailP) (sv : Value) : Value := .agg (mailC m sv).toArray
theorem slice_pre (b o n c i : Nat) (hi : i ≤ c) (hc : 0 < c) (W : World) : (Instr.sliceAt 22 (.slice (some ⟨b, o, none⟩) n c) none (some (.int .i64 (i : Int))) none).run Tryz.prog W = .ok (.slice (some ⟨b, o, none⟩) i c) W := by
  have hu : Tryz.prog.underlying 22 = some (.slice (Tryz.prog.elem 22)) := by kernel_rfl
  have he : Tryz.prog.elem 22 = 57 := by kernel_rfl
  obtain ⟨inf, hinf⟩ : ∃ i, Tryz.prog.info? 57 = some i := Option.isSome_iff_exists.1 (by kernel_rfl)
  have hs : inf.size = 2 := by
    have h : (Tryz.prog.info? 57).map (fun i => i.size) = some 2 := by kernel_rfl
    rw [hinf] at h
    simpa using h
  rw [run_sliceAt_slice _ _ _ _ _ _ hu, run_slice_h _ _ _ _ _ hu _ _ (by omega) (by omega)]
  simp [he, sizeOf, typeInfo, hinf, hs, sliced, Result.andThen, show ¬ c = 0 by omega, Addr.add]
theorem mbox {W : World} {b : Nat} {v0 v1 v2 v3 v4 : Value} {t : TypeId} (h : W.heap[b]? = some (.cells #[v0, v1, v2, v3, v4] t (0, 0))) :
    W.cell? ⟨b, 0, none⟩ = some v0 ∧ W.cell? ⟨b, 1, none⟩ = some v1 ∧ W.cell? ⟨b, 2, none⟩ = some v2 ∧ W.cell? ⟨b, 3, none⟩ = some v3 ∧ W.cell? ⟨b, 4, none⟩ = some v4 := by
  refine ⟨?_, ?_, ?_, ?_, ?_⟩ <;> simp [World.cell?, h]
/-- What stands before the recipients are looked at. -/
def baseB (m : MailP) : Bool := pathB m.sender && decide (0 < m.rcpts.length) && decide (m.envid.length ≤ 32) && textB m.text && envB m.envid
theorem mailB_eq (m : MailP) (rcpts most : Nat) (h : ¬ (most < m.text.length ∨ rcpts < m.rcpts.length)) : mailB m rcpts most = if (baseB m && rcptsB [] (m.rcpts.map (·.1))) = true then 0 else 4 := by
  unfold mailB baseB
  rw [if_neg h]

set_option maxRecDepth 100000 in
set_option maxHeartbeats 8000000 in
theorem mail_any (m : MailP) (sv : Value) (r most : Nat) (w : World) (hr : RowK 2 rcE w sv m.rcpts) (hs : ShortM m) (hE : Env w) :
    Calls Tryz.prog 27 #[mailV m sv, .int .i64 (r : Int), .int .i64 (most : Int)] w fun e w' => e = .returned (.int .i64 (mailB m r most : Int)) ∧ Below w.heap.size w w' := by
  obtain ⟨p, c, rfl, -⟩ := hr.sh
  obtain ⟨W1, hW1⟩ : ∃ W1, W1 = (w.alloc (.cells (mailC m (.slice p m.rcpts.length c)).toArray 24)) := ⟨_, rfl⟩
  have hB1 : Below w.heap.size w W1 := by rw [hW1]; exact (Below.refl _ w).alloc (Nat.le_refl _) _
  have hb1 : W1.heap[w.heap.size]? = some (.cells (mailC m (.slice p m.rcpts.length c)).toArray 24 (0, 0)) := by rw [hW1]; exact ha_eq rfl
  have HA := Lib.hid (And.intro (hr.below hB1) (And.intro hs (And.intro (hE.keep hB1) (And.intro hB1 hb1))))
  unfold mailV
  unfold mailC at hW1 hb1 ⊢
  obtain ⟨x0, x1, x2, x3, x4⟩ := mbox hb1
  clear hr hs hE hB1 hb1
  have hl3 : (⟨m.envid.toArray⟩ : ByteArray).size = m.envid.length := rfl
  have hl4 : (⟨m.text.toArray⟩ : ByteArray).size = m.text.length := rfl
  by_cases hbig : most < m.text.length ∨ r < m.rcpts.length
  · have hm : mailB m r most = 40 := by unfold mailB; rw [if_pos hbig]
    rw [hm]
    clear hm
    by_cases h1 : (most : Int) < (m.text.length : Int)
    · clear hbig
      go_enter Tryz.func27, Tryz.ntmps27
      go_upto_region 1 with (fail)
      rw [← hW1]
      clear hW1
      go_wp2
      refine bodyPost_ret (v := .int .i64 40) (by simp [results, Tryz.results27, go_sem]) rfl ⟨rfl, HA.out.2.2.2.1⟩
    · have h2 : (r : Int) < (m.rcpts.length : Int) := by omega
      clear hbig
      go_enter Tryz.func27, Tryz.ntmps27
      go_upto_region 1 with (fail)
      rw [← hW1]
      clear hW1
      go_wp2
      refine bodyPost_ret (v := .int .i64 40) (by simp [results, Tryz.results27, go_sem]) rfl ⟨rfl, HA.out.2.2.2.1⟩
  · have hm := mailB_eq m r most hbig
    have h1 : ¬ (most : Int) < (m.text.length : Int) := by omega
    have h2 : ¬ (r : Int) < (m.rcpts.length : Int) := by omega
    have HM := Lib.hid hm
    have hPa := fun W hE => path_any m.sender W HA.out.2.1.sender hE
    have hLi := fun W hE => lines_any m.text W HA.out.2.1.text hE
    have hEn := fun W => eachP_any m.envid 73 (enters_of Tryz.func73 (by kernel_rfl) rfl) envC W (by have := HA.out.2.1.envid; unfold maxLen; omega) (fun c W => mail1_any c W)
    clear hbig hm
    go_enter Tryz.func27, Tryz.ntmps27
    go_upto_region 1 with (fail)
    rw [← hW1]
    clear hW1
    go_upto_region 3 with (fail)
    clear h1 h2
    go_cut [7] from 22 to 47 (fun s7 w' => s7 = .bool (baseB m) ∧ Below W1.heap.size W1 w')
    case first =>
      go_wp2_with fail
      refine (hPa W1 HA.out.2.2.1).mono ?_
      rintro e w2 ⟨⟨ps, rfl, hpe⟩, hb2⟩
      have hk2 := fun (a : Addr) v (h : W1.cell? a = some v) => (hb2.cell (p := a) (cell_lt h)).trans h
      replace x1 := hk2 _ _ x1
      replace x3 := hk2 _ _ x3
      replace x4 := hk2 _ _ x4
      cases hpb : pathB m.sender with
      | false =>
        rw [hpb] at hpe
        have hbase : baseB m = false := by unfold baseB; rw [hpb]; rfl
        have HB := Lib.hid (And.intro hbase hb2)
        clear hbase hb2 hk2 hpb hPa hLi hEn
        go_wp2
        go_meet
        case rel => exact ⟨by rw [HB.out.1], HB.out.2⟩
      | true =>
        rw [hpb] at hpe
        by_cases hz : (0 : Int) < (m.rcpts.length : Int)
        · by_cases h32 : (m.envid.length : Int) ≤ 32
          · have hLi2 := hLi w2 (HA.out.2.2.1.keep hb2)
            have hbase : baseB m = (textB m.text && envB m.envid) := by
              unfold baseB
              rw [hpb, decide_eq_true (by omega : 0 < m.rcpts.length), decide_eq_true (by omega : m.envid.length ≤ 32)]
              rfl
            have HB := Lib.hid (And.intro hbase hb2)
            clear hbase hb2 hk2 hpb hPa hLi
            go_wp2_with fail
            refine hLi2.mono ?_
            rintro e w3 ⟨rfl, hb3⟩
            have hk3 := fun (a : Addr) v (h : w2.cell? a = some v) => (hb3.cell (p := a) (cell_lt h)).trans h
            replace x3 := hk3 _ _ x3
            have HB3 := Lib.hid (HB.out.2.trans (hb3.mono HB.out.2.size))
            clear hb3 hk3 hLi2
            cases htb : textB m.text with
            | false =>
              have HT := Lib.hid htb
              clear htb hEn
              go_wp2
              go_meet
              case rel => exact ⟨by rw [HB.out.1, HT.out]; rfl, HB3.out⟩
            | true =>
              have HT := Lib.hid htb
              clear htb
              go_wp2_with fail
              refine (hEn w3).mono ?_
              rintro e w4 ⟨rfl, rfl⟩
              clear hEn
              go_wp2
              go_meet
              case rel => exact ⟨by rw [HB.out.1, HT.out]; rfl, HB3.out⟩
          · have hbase : baseB m = false := by
              unfold baseB
              rw [decide_eq_false (by omega : ¬ m.envid.length ≤ 32)]
              simp
            have HB := Lib.hid (And.intro hbase hb2)
            clear hbase hb2 hk2 hpb hPa hLi hEn
            go_wp2
            go_meet
            case rel => exact ⟨by rw [HB.out.1], HB.out.2⟩
        · have hbase : baseB m = false := by
            unfold baseB
            rw [decide_eq_false (by omega : ¬ 0 < m.rcpts.length)]
            simp
          have HB := Lib.hid (And.intro hbase hb2)
          clear hbase hb2 hk2 hpb hPa hLi hEn
          go_wp2
          go_meet
          case rel => exact ⟨by rw [HB.out.1], HB.out.2⟩
    case rest =>
      obtain ⟨rfl, hb12⟩ := hcut
      generalize hww : wc = w2 at *
      clear hww hPa hLi hEn x0 x2 x3 x4 hl3 hl4
      have hk2 := fun (a : Addr) v (h : W1.cell? a = some v) => (hb12.cell (p := a) (cell_lt h)).trans h
      replace x1 := hk2 _ _ x1
      have hwl : w.heap.size < w2.heap.size := cell_lt x1
      have H2 := Lib.hid (And.intro (HA.out.1.below hb12) (And.intro (HA.out.2.2.1.keep hb12) (And.intro (HA.out.2.2.2.1.trans (hb12.mono HA.out.2.2.2.1.size)) (And.intro x1 HA.out.2.1.rcpts))))
      have hn6 : m.rcpts.length ≤ 1000000 := HA.out.2.1.rcpts
      clear hk2 hb12 hwl
      go_wp2_with fail
      go_loopw [7, 51] (fun s7 s51 wr => ∃ i : Nat, s51 = .int .i64 (i : Int) ∧ i ≤ m.rcpts.length ∧ s7 = .bool (baseB m && rcptsB [] ((m.rcpts.map (·.1)).take i)) ∧ Below w2.heap.size w2 wr) (fun _ s51 _ => m.rcpts.length - natI s51)
      case atStart => exact ⟨0, rfl, Nat.zero_le _, by simp [rcptsB], Below.refl _ _⟩
      case round =>
        obtain ⟨i, rfl, hi, rfl, hB⟩ := hrel
        generalize hww : wr = wr1 at *
        clear hww
        have hBw : Below W1.heap.size w2 wr1 → True := fun _ => trivial
        clear hBw
        by_cases hlast : i < m.rcpts.length
        · have hli : (i : Int) < (m.rcpts.length : Int) := by omega
          obtain ⟨b, o, rfl, hc⟩ := (H2.out.1.below hB).at i hlast
          have hc' := hc i hlast
          have y0 : wr1.cell? ⟨b, o + i * 2, none⟩ = some (.string ⟨m.rcpts[i].1.toArray⟩) := hc' 0 _ rfl
          have y1 : wr1.cell? ⟨b, o + i * 2 + 1, none⟩ = some (.bool m.rcpts[i].2) := hc' 1 _ rfl
          have hsn := rcpts_succ m.rcpts i hlast
          have hto := HA.out.2.1.tos _ (List.getElem_mem hlast)
          have htos := fun x (hx : x ∈ m.rcpts.take i) => HA.out.2.1.tos x (List.mem_of_mem_take hx)
          have hrow := (H2.out.1.below hB).take i (by omega)
          have hlen := (H2.out.1.below hB).len
          have HR := Lib.hid (And.intro hB (And.intro hsn (And.intro hto (And.intro htos hrow))))
          have hcc : m.rcpts.length ≤ c := hlen.2
          have hsl := fun W => slice_pre b o m.rcpts.length c i (by omega) (by omega) W
          have z1 := (hB.cell (p := ⟨w.heap.size, 1, none⟩) (cell_lt x1)).trans x1
          clear hc hc' hsn hto htos hrow hlen hB hcc
          obtain ⟨x, hx⟩ : ∃ x, x = m.rcpts[i] := ⟨_, rfl⟩
          rw [← hx] at y0 y1 HR
          clear hx
          obtain ⟨t, nv⟩ := x
          dsimp only at y0 y1 HR
          obtain ⟨ok, hok⟩ : ∃ ok, ok = (baseB m && rcptsB [] ((m.rcpts.map (·.1)).take i)) := ⟨_, rfl⟩
          rw [← hok]
          have HO := Lib.hid hok
          clear hok
          go_upto_region 7 with (fail)
          generalize hw3 : World.alloc _ _ = w3
          have hb3 : Below wr1.heap.size wr1 w3 := by rw [← hw3]; exact (Below.refl _ _).alloc (Nat.le_refl _) _
          have hbx : w3.heap[wr1.heap.size]? = some (.cells #[.string ⟨t.toArray⟩, .bool nv] 57 (0, 0)) := by rw [← hw3]; exact ha_eq rfl
          have u0 : w3.cell? ⟨wr1.heap.size, 0, none⟩ = some (.string ⟨t.toArray⟩) := by simp [World.cell?, hbx]
          replace z1 := (hb3.cell (p := ⟨w.heap.size, 1, none⟩) (cell_lt z1)).trans z1
          have hw23 : Below w2.heap.size w2 w3 := HR.out.1.trans (hb3.mono HR.out.1.size)
          have H3 := Lib.hid (And.intro hb3 hw23)
          clear hw3 hb3 hbx y0 y1 hw23
          cases ok with
          | false =>
            have hnx : (baseB m && rcptsB [] ((m.rcpts.map (·.1)).take (i + 1))) = false := by
              rw [HR.out.2.1, ← Bool.and_assoc, ← HO.out]; rfl
            have HN := Lib.hid hnx
            clear hnx hsl
            go_wp2
            go_roundw
            case rel => exact ⟨i + 1, by simp, by omega, by rw [HN.out], H3.out.2⟩
            case measure => simp [natI]; omega
          | true =>
            have hMa := addrMay_any t w3 HR.out.2.2.1 (H2.out.2.1.keep H3.out.2)
            go_wp2_with fail
            refine hMa.mono ?_
            rintro e w4 ⟨rfl, hb4⟩
            replace z1 := (hb4.cell (p := ⟨w.heap.size, 1, none⟩) (cell_lt z1)).trans z1
            replace u0 := (hb4.cell (p := ⟨wr1.heap.size, 0, none⟩) (cell_lt u0)).trans u0
            have H4 := Lib.hid (H3.out.2.trans (hb4.mono H3.out.2.size))
            have H34 := Lib.hid (H3.out.1.trans (hb4.mono H3.out.1.size))
            clear hb4 hMa
            cases ham : addrB t with
            | false =>
              have hnx : (baseB m && rcptsB [] ((m.rcpts.map (·.1)).take (i + 1))) = false := by
                rw [HR.out.2.1, ham]; simp
              have HN := Lib.hid hnx
              clear hnx hsl ham
              go_wp2
              go_roundw
              case rel => exact ⟨i + 1, by simp, by omega, by rw [HN.out], H4.out⟩
              case measure => simp [natI]; omega
            | true =>
              have hCo := hasRcpt_any 77 (enters_of Tryz.func77 (by kernel_rfl) rfl) #[.pointer (some ⟨wr1.heap.size, 0, none⟩)] (fun x => sameA x.1 t) (m.rcpts.take i) (.slice (some ⟨b, o, none⟩) i c) w4 (HR.out.2.2.2.2.below H34.out) (by have := H2.out.2.2.2.2; simp; omega)
                (fun x hx W hb => mail2_any x t wr1.heap.size W (HR.out.2.2.2.1 x hx) HR.out.2.2.1 (H2.out.2.1.keep (H4.out.trans (hb.mono H4.out.size))) ((hb.cell (p := ⟨wr1.heap.size, 0, none⟩) (cell_lt u0)).trans u0))
              have hnx : (baseB m && rcptsB [] ((m.rcpts.map (·.1)).take (i + 1))) = !((m.rcpts.take i).any fun x => sameA x.1 t) := by
                rw [HR.out.2.1, ham, ← Bool.and_assoc, ← HO.out]
                simp
              have HN := Lib.hid hnx
              clear hnx ham u0
              go_wp2_with fail
              refine hCo.mono ?_
              rintro e w5 ⟨rfl, hb5⟩
              have H5 := Lib.hid (H4.out.trans (hb5.mono H4.out.size))
              clear hCo hb5 hsl z1
              generalize ((m.rcpts.take i).any fun x => sameA x.1 t) = q at *
              go_wp2
              go_roundw
              case rel => exact ⟨i + 1, by simp, by omega, by rw [HN.out], H5.out⟩
              case measure => simp [natI]; omega
        · have hli : ¬ (i : Int) < (m.rcpts.length : Int) := by omega
          have hfull : (m.rcpts.map (·.1)).take i = m.rcpts.map (·.1) := List.take_of_length_le (by simp; omega)
          rw [hfull]
          clear hfull
          have hBf := H2.out.2.2.1.trans (hB.mono H2.out.2.2.1.size)
          have HB := Lib.hid hBf
          clear hB hBf
          cases hfin : (baseB m && rcptsB [] (m.rcpts.map (·.1))) with
          | true =>
            have HF := Lib.hid hfin
            clear hfin
            go_wp2
            refine bodyPost_ret (v := .int .i64 0) (by simp [results, Tryz.results27, go_sem]) rfl ⟨by rw [HM.out, if_pos HF.out]; rfl, HB.out⟩
          | false =>
            have HF := Lib.hid hfin
            clear hfin
            go_wp2
            refine bodyPost_ret (v := .int .i64 4) (by simp [results, Tryz.results27, go_sem]) rfl ⟨by rw [HM.out, if_neg (by rw [HF.out]; simp)]; rfl, HB.out⟩
end Go.Proofs.YtlpngibdplnieaaGreatDoor

/- addr.Domains. -/
namespace Go.Proofs.YtlpngibdplnieaaGreatDoor
open Go Go.RowKit Go.Shelf Go.Sort
attribute [local go_sem] bneI

/-- A halt for the walk. -/
structure Bx (p : Prop) : Prop where
  h : p
theorem grownBy_of_below {w w' : World} (h : Below w.heap.size w w') (row : Option Nat) : w.grownBy w' row := ⟨h.os, h.tape, h.output, h.size, fun k hk _ => h.block k hk⟩
theorem cell_list {w : World} {cs : List Value} {t : TypeId} {k : Nat} (hk : k = w.heap.size) : ∀ j u, cs[j]? = some u → (w.alloc (.cells cs.toArray t)).cell? ((⟨k, 0, none⟩ : Addr).add j) = some u := by
  subst hk
  intro j u hj
  rw [addr0]
  have : (w.alloc (.cells cs.toArray t)).heap[w.heap.size]? = some (.cells cs.toArray t (0, 0)) := ha_eq rfl
  unfold World.cell?
  rw [this]
  simpa using hj
theorem cmp_lt : ∀ a b : Bytes, cmpB a b < 0 ↔ a < b
  | [], [] => by simp [cmpB, Lib.compareBytes]
  | [], _ :: _ => by simp [cmpB, Lib.compareBytes]
  | _ :: _, [] => by simp [cmpB, Lib.compareBytes]
  | a :: r, b :: q => by
    have ih := cmp_lt r q
    unfold cmpB at ih ⊢
    rw [List.cons_lt_cons_iff]
    show (if a < b then (-1 : Int) else if b < a then 1 else Lib.compareBytes r q) < 0 ↔ _
    by_cases h1 : a < b
    · simp [h1]
    · rw [if_neg h1]
      by_cases h2 : b < a
      · rw [if_pos h2]
        have : ¬ a = b := fun e => by subst e; exact h1 h2
        simp [h1, this]
      · rw [if_neg h2]
        have : a = b := by
          apply UInt8.toNat_inj.1
          rw [UInt8.lt_iff_toNat_lt] at h1 h2
          omega
        simp [this, ih]
theorem sorted_in (ss : List Bytes) : SortedIn (ltOf cmpB) 0 (ss.mergeSort fun x y => decide (x ≤ y)).toArray.size (ss.mergeSort fun x y => decide (x ≤ y)).toArray := by
  have hp := List.pairwise_mergeSort (le := fun x y : Bytes => decide (x ≤ y)) (fun a b c h1 h2 => by simp only [decide_eq_true_eq] at *; exact List.le_trans h1 h2) (fun a b => by simp only [Bool.or_eq_true, decide_eq_true_eq]; exact List.le_total a b) ss
  generalize (ss.mergeSort fun x y => decide (x ≤ y)) = ts at *
  rw [List.pairwise_iff_getElem] at hp
  intro i j _ hij hj
  have hj' : j < ts.length := by simpa using hj
  have hi' : i < ts.length := by omega
  have h := hp i j hi' hj' hij
  simp only [decide_eq_true_eq] at h
  have e1 : ts.toArray[j]! = ts[j] := by simp [hj']
  have e2 : ts.toArray[i]! = ts[i] := by simp [hi']
  rw [e1, e2]
  unfold ltOf
  rw [decide_eq_false_iff_not, cmp_lt]
  exact List.not_lt.2 h
/-- The domains of recipients, as they stand. -/
def domsOf (rs : List RcP) : List Bytes := rs.filterMap fun r => (parseB r.1).map (·.2)
/-- A list with one more, ascending. -/
def insB (d : Bytes) : List Bytes → List Bytes
  | [] => [d]
  | x :: l => if d = x then x :: l else if cmpB d x < 0 then d :: x :: l else x :: insB d l
def domsM (rs : List RcP) : List Bytes := (domsOf rs).foldr insB []
theorem insB_mem (d y : Bytes) : ∀ l, y ∈ insB d l ↔ y = d ∨ y ∈ l
  | [] => by simp [insB]
  | x :: l => by
    unfold insB
    split
    · rename_i h
      subst h
      simp
    · split
      · simp
      · rw [List.mem_cons, insB_mem d y l, List.mem_cons]
        constructor
        · rintro (h | h | h) <;> simp [h]
        · rintro (h | h | h) <;> simp [h]
theorem insB_asc (d : Bytes) : ∀ l, Asc cmpB l → Asc cmpB (insB d l)
  | [], _ => by simp [insB, Asc]
  | x :: l, h => by
    have hx := List.pairwise_cons.1 h
    unfold insB
    split
    · exact h
    · rename_i hne
      split
      · rename_i hlt
        refine List.pairwise_cons.2 ⟨fun y hy => ?_, h⟩
        rcases List.mem_cons.1 hy with rfl | hy
        · exact hlt
        · exact ordB.trans _ _ _ hlt (hx.1 y hy)
      · rename_i hge
        refine List.pairwise_cons.2 ⟨fun y hy => ?_, insB_asc d l hx.2⟩
        rw [insB_mem] at hy
        rcases hy with rfl | hy
        · have h1 := ordB.swap y x
          have h2 : cmpB y x ≠ 0 := fun e => hne (ordB.eq _ _ e)
          omega
        · exact hx.1 y hy
theorem domsM_asc (rs : List RcP) : Asc cmpB (domsM rs) := by
  unfold domsM
  induction domsOf rs with
  | nil => exact List.Pairwise.nil
  | cons d l ih => exact insB_asc d _ ih
theorem domsM_mem (rs : List RcP) (y : Bytes) : y ∈ domsM rs ↔ y ∈ domsOf rs := by
  unfold domsM
  induction domsOf rs with
  | nil => rfl
  | cons d l ih => rw [List.foldr_cons, insB_mem, ih, List.mem_cons]
theorem infoS : (Tryz.prog.info? 9).map (fun i => (i.zero, i.size, i.bytes)) = some (some (.string ⟨#[]⟩), 1, 16) := by kernel_rfl
theorem own_shape {w : World} {base : Nat} {e : TypeId} {size : Nat} {v : Value} {n : Nat} {xs : List Value} (h : w.ownsRow base e size v n xs) : ∃ p c, v = .slice p n c := by
  rcases h.2 with ⟨rfl, rfl⟩ | ⟨g, cap, cur, rfl, _⟩
  · exact ⟨none, 0, rfl⟩
  · exact ⟨_, _, rfl⟩
/-- What Domains hands back: its own row. -/
def DomPost (w : World) (rs : List RcP) (e : Ending) (w' : World) : Prop := ∃ v, e = .returned v ∧ w'.ownsRow (w.heap.size + 1) 9 1 v (domsM rs).length ((domsM rs).map str)
theorem domsOf_succ (rs : List RcP) (i : Nat) (hi : i < rs.length) : domsOf (rs.take (i + 1)) = domsOf (rs.take i) ++ ((parseB rs[i].1).map (·.2)).toList := by
  unfold domsOf
  rw [List.take_succ_eq_append_getElem hi, List.filterMap_append]
  cases h : parseB rs[i].1 <;> simp [h]
theorem domsOf_le (rs : List RcP) : (domsOf rs).length ≤ rs.length := by
  unfold domsOf
  exact List.length_filterMap_le _ _
set_option maxRecDepth 100000 in
set_option maxHeartbeats 4000000 in
theorem domains_any (m : MailP) (sv : Value) (w : World) (hr : RowK 2 rcE w sv m.rcpts) (hs : ShortM m) (hE : Env w) :
    Calls Tryz.prog 58 #[mailV m sv] w fun e w' => DomPost w m.rcpts e w' ∧ Below w.heap.size w w' := by
  obtain ⟨p, c, rfl, -⟩ := hr.sh
  obtain ⟨W1, hW1⟩ : ∃ W1, W1 = (w.alloc (.cells (mailC m (.slice p m.rcpts.length c)).toArray 24)) := ⟨_, rfl⟩
  have hB1 : Below w.heap.size w W1 := by rw [hW1]; exact (Below.refl _ w).alloc (Nat.le_refl _) _
  have hb1 : W1.heap[w.heap.size]? = some (.cells (mailC m (.slice p m.rcpts.length c)).toArray 24 (0, 0)) := by rw [hW1]; exact ha_eq rfl
  have hsz : W1.heap.size = w.heap.size + 1 := by rw [hW1]; simp
  have HA := Lib.hid (And.intro (hr.below hB1) (And.intro hs (And.intro (hE.keep hB1) (And.intro hB1 hsz))))
  clear hsz
  have hn6 : m.rcpts.length ≤ 1000000 := hs.rcpts
  unfold mailV
  unfold mailC at hW1 hb1 ⊢
  obtain ⟨-, x1, -, -, -⟩ := mbox hb1
  clear hr hs hE hB1 hb1
  obtain ⟨i0, hi0, hz0, hz1, hz2⟩ := info_parts infoS
  go_enter Tryz.func58, Tryz.ntmps58
  go_upto_region 1 with (fail)
  rw [← hW1]
  clear hW1
  go_wp2_with fail
  go_loopw [3, 12] (fun v s12 wr => ∃ (i : Nat) (ds : List Bytes), s12 = .int .i64 (i : Int) ∧ i ≤ m.rcpts.length ∧ ds = domsOf (m.rcpts.take i) ∧ ds.length ≤ i ∧ wr.ownsRow W1.heap.size 9 1 v ds.length (ds.map str) ∧ Below w.heap.size w wr ∧ Below W1.heap.size W1 wr) (fun _ s12 _ => m.rcpts.length - natI s12)
  case atStart => exact ⟨0, [], rfl, Nat.zero_le _, rfl, Nat.le_refl _, ⟨rfl, .inl ⟨rfl, rfl⟩⟩, HA.out.2.2.2.1, Below.refl _ _⟩
  case round =>
    obtain ⟨i, ds, rfl, hi, hds, hdl, ho, hB, hB1⟩ := hrel
    by_cases hlast : i < m.rcpts.length
    · have hli : (i : Int) < (m.rcpts.length : Int) := by omega
      obtain ⟨b, o, rfl, hc⟩ := (HA.out.1.below hB1).at i hlast
      have hc' := hc i hlast
      have y0 : wr.cell? ⟨b, o + i * 2, none⟩ = some (.string ⟨m.rcpts[i].1.toArray⟩) := hc' 0 _ rfl
      have y1 : wr.cell? ⟨b, o + i * 2 + 1, none⟩ = some (.bool m.rcpts[i].2) := hc' 1 _ rfl
      have hsn := domsOf_succ m.rcpts i hlast
      have hto := HA.out.2.1.tos _ (List.getElem_mem hlast)
      have HR := Lib.hid (And.intro ho (And.intro hB (And.intro hB1 (And.intro hsn (And.intro hto (And.intro hds hdl))))))
      clear hc hc' hsn hto ho hB hB1 hds hdl
      obtain ⟨x, hx⟩ : ∃ x, x = m.rcpts[i] := ⟨_, rfl⟩
      rw [← hx] at y0 y1 HR
      clear hx
      obtain ⟨t, nv⟩ := x
      dsimp only at y0 y1 HR
      go_upto_region 5 with (fail)
      generalize hw3 : World.alloc _ _ = w3
      have hb3 : Below wr.heap.size wr w3 := by rw [← hw3]; exact (Below.refl _ _).alloc (Nat.le_refl _) _
      have hbx : w3.heap[wr.heap.size]? = some (.cells #[.string ⟨t.toArray⟩, .bool nv] 57 (0, 0)) := by rw [← hw3]; exact ha_eq rfl
      have u0 : w3.cell? ⟨wr.heap.size, 0, none⟩ = some (.string ⟨t.toArray⟩) := by simp [World.cell?, hbx]
      have hPa := parse_any t w3 HR.out.2.2.2.2.1 (HA.out.2.2.1.keep (HR.out.2.2.1.trans (hb3.mono HR.out.2.2.1.size)))
      have H3 := Lib.hid hb3
      clear hw3 hb3 hbx y0 y1
      go_wp2_with fail
      refine hPa.mono ?_
      rintro e w4 ⟨hP, hb4⟩
      have H4 := Lib.hid (H3.out.trans (hb4.mono H3.out.size))
      clear hPa hb4 u0
      rcases hP with ⟨l, d, hp, -, rfl⟩ | ⟨hp, rfl⟩
      · have hnx : domsOf (m.rcpts.take (i + 1)) = ds ++ [d] := by rw [HR.out.2.2.2.1, hp, ← HR.out.2.2.2.2.2.1]; rfl
        have ho4 : w4.ownsRow W1.heap.size 9 1 u3 ds.length (ds.map str) := HR.out.1.kept (grownBy_of_below H4.out none) (Classical.em _)
        have HN := Lib.hid (And.intro hnx ho4)
        clear hnx ho4 hp
        go_wp2_with (at_builtin; refine Bx.h ?_)
        refine ⟨?_⟩
        refine wpList_append_own _ rfl _ _ 81 rfl W1.heap.size 9 i0 (.string ⟨#[]⟩) 1 16 Tryz.underlying81 hi0 hz0 hz1 hz2 rfl (by decide) _ _ _ rfl (HN.out.2.alloc _) ⟨w4.heap.size, 0, none⟩ 1 1 [.string ⟨d.toArray⟩] rfl rfl (cell_list (cs := [.string ⟨d.toArray⟩]) rfl) (by simp [Value.oneCell']) (by have := HR.out.2.2.2.2.2.2; unfold maxLen; omega) (by have := HR.out.2.2.2.2.2.2; omega) (by have h1 := HR.out.2.2.1.size; have h2 := H4.out.size; simp; omega) ?_
        intro v' w5 hown5 hgrow5 hnil5
        have hg : wr.grownBy w5 u3.ownBlock := World.grownBy.trans (World.grownBy.trans (grownBy_of_below H4.out _) (World.grownBy_alloc _ _ _)) hgrow5
        have hB5 := HR.out.2.1.grown hg HR.out.2.1.size (fun k e => Nat.le_trans HA.out.2.2.2.1.size (HR.out.1.lt k e).1)
        have hB51 := HR.out.2.2.1.grown hg HR.out.2.2.1.size (fun k e => (HR.out.1.lt k e).1)
        have hm : ds.map str ++ [Value.string ⟨d.toArray⟩] = (ds ++ [d]).map str := by simp [str]
        have hl : ds.length + 1 = (ds ++ [d]).length := by simp
        rw [hm, hl] at hown5
        have HZ := Lib.hid (And.intro hown5 (And.intro hB5 hB51))
        clear hown5 hgrow5 hnil5 hg hB5 hB51 hm hl
        go_wp2
        go_roundw
        case rel => exact ⟨i + 1, ds ++ [d], by simp, by omega, HN.out.1.symm, by have := HR.out.2.2.2.2.2.2; simp; omega, HZ.out.1, HZ.out.2.1, HZ.out.2.2⟩
        case measure => simp [natI]; omega
      · have hnx : domsOf (m.rcpts.take (i + 1)) = ds := by rw [HR.out.2.2.2.1, hp, ← HR.out.2.2.2.2.2.1]; simp
        have ho4 : w4.ownsRow W1.heap.size 9 1 u3 ds.length (ds.map str) := HR.out.1.kept (grownBy_of_below H4.out none) (Classical.em _)
        have HN := Lib.hid (And.intro hnx ho4)
        clear hnx ho4 hp
        go_wp2
        go_roundw
        case rel => exact ⟨i + 1, ds, by simp, by omega, HN.out.1.symm, by have := HR.out.2.2.2.2.2.2; omega, HN.out.2, HR.out.2.1.trans (H4.out.mono HR.out.2.1.size), HR.out.2.2.1.trans (H4.out.mono HR.out.2.2.1.size)⟩
        case measure => simp [natI]; omega
    · have hli : ¬ (i : Int) < (m.rcpts.length : Int) := by omega
      have hfull : ds = domsOf m.rcpts := by rw [hds, List.take_of_length_le (by omega)]
      have hsb : ∀ xs : List Bytes, Asc cmpB xs → (∀ y, y ∈ xs ↔ y ∈ ds) → xs = domsM m.rcpts := fun xs h1 h2 => Asc.uniq ordB h1 (domsM_asc _) fun y => by rw [h2, domsM_mem, hfull]
      have HH := Lib.hid (And.intro hsb (And.intro hB hB1))
      clear hds hfull hsb hB1
      rcases ho.2 with ⟨rfl, h0⟩ | ⟨g, cap, cur, rfl, hgb, hgc, hcap, hcm, hcs, htk⟩
      · have hd0 : ds = [] := List.eq_nil_of_length_eq_zero h0
        subst hd0
        have hdm : domsM m.rcpts = [] := (HH.out.1 [] List.Pairwise.nil (fun y => Iff.rfl)).symm
        have HD := Lib.hid hdm
        clear hdm ho hB hdl h0
        go_wp2_with fail
        refine (Tryz.slices_Sort_string_none none 0 _).mono ?_
        rintro e w3 ⟨rfl, rfl⟩
        go_wp2_with fail
        refine (Tryz.slices_Compact_string_empty none 0 _).mono ?_
        rintro e w3 ⟨rfl, rfl⟩
        go_wp2
        refine bodyPost_ret (v := .slice none 0 0) (by simp [results, Tryz.results58, go_sem]) rfl ⟨⟨_, rfl, ?_⟩, HH.out.2.1⟩
        rw [HD.out]
        exact ⟨rfl, .inl ⟨rfl, rfl⟩⟩
      · by_cases hd0 : ds = []
        · subst hd0
          have hdm : domsM m.rcpts = [] := (HH.out.1 [] List.Pairwise.nil (fun y => Iff.rfl)).symm
          have HD := Lib.hid (And.intro hdm ho)
          clear hdm ho hB hdl hgb hgc hcap hcm hcs htk
          go_wp2_with fail
          refine (Tryz.slices_Sort_string_none (some ⟨g, 0, none⟩) cap _).mono ?_
          rintro e w3 ⟨rfl, rfl⟩
          go_wp2_with fail
          refine (Tryz.slices_Compact_string_empty (some ⟨g, 0, none⟩) cap _).mono ?_
          rintro e w3 ⟨rfl, rfl⟩
          go_wp2
          refine bodyPost_ret (v := .slice (some ⟨g, 0, none⟩) 0 cap) (by simp [results, Tryz.results58, go_sem]) rfl ⟨⟨_, rfl, ?_⟩, HH.out.2.1⟩
          rw [HD.out.1, ← HA.out.2.2.2.2]
          exact HD.out.2
        · obtain ⟨g', cap', e', -, hglt, -, -, -, H1⟩ := Lib.holds_of_ownsRow ho (by simp)
          injection e' with e1 _ e3
          injection e1 with e1
          injection e1 with e1
          subst e1; subst e3
          have hsorted := sorted_in ds
          have hlt : (ds.mergeSort fun x y => decide (x ≤ y)).length = ds.length := List.length_mergeSort ds
          have hperm : (ds.mergeSort fun x y => decide (x ≤ y)).Perm ds := List.mergeSort_perm ds _
          have hdl6 : ds.length ≤ 1000000 := by omega
          have hS := Tryz.slices_Sort_string g 0 cap ds wr H1 hglt (by omega)
          clear ho H1
          go_wp2_with fail
          refine hS.mono ?_
          rintro e w3 ⟨rfl, n, os, rfl⟩
          clear hS
          generalize (ds.mergeSort fun x y => decide (x ≤ y)) = ts at *
          have hg2 := grownBy_sorted (w := wr) (g := g) (n := n) (os := os) ts.toArray
          have hown2 := ownsRow_sorted (n := n) (os := os) hlt hgb hgc hcap hcm hcs
          obtain ⟨W, hW⟩ : ∃ W, W = grow (putRow encStr (Sort.ahead wr n) g 0 ts.toArray) os := ⟨_, rfl⟩
          rw [← hW] at hg2 hown2 ⊢
          clear hW
          have hBW := HH.out.2.1.grown hg2 HH.out.2.1.size (fun k e => by cases e; exact Nat.le_trans HA.out.2.2.2.1.size hgb)
          obtain ⟨hA, hmA⟩ := compact_asc ordB hsorted
          have hkl : (Lib.compactUpTo ts.toArray ts.toArray.size).length ≤ ts.length := by
            have := List.length_filter_le (Lib.keeps ts.toArray) (List.range ts.toArray.size)
            simpa [Lib.compactUpTo] using this
          obtain ⟨g', cap', e', -, -, -, -, -, H2⟩ := Lib.holds_of_ownsRow hown2 (by simp)
          injection e' with e1 _ e3
          injection e1 with e1
          injection e1 with e1
          subst e1; subst e3
          have hcall := Tryz.slices_Compact_string_arr g 0 cap ts.toArray W H2 (by simp; omega) (by simp; omega)
          rw [show ts.toArray.size = ds.length by simp [hlt]] at hcall hA hmA hkl
          obtain ⟨zs, hzs⟩ : ∃ zs, zs = Lib.compactUpTo ts.toArray ds.length := ⟨_, rfl⟩
          rw [← hzs] at hcall hA hmA hkl
          have hzd : zs = domsM m.rcpts := HH.out.1 zs hA (fun y => by rw [hmA]; simp [hperm.mem_iff])
          have hfin := fun q => And.intro (Lib.ownsRow_putRow (enc := str) (q := q) (k := zs.length) (ys := zs ++ List.replicate (ds.length - zs.length) []) hown2 (by simp; omega) (by omega)) (Lib.below_putRow (q := q) (d := (zs ++ List.replicate (ds.length - zs.length) ([] : Bytes)).toArray) (enc := str) hBW (Nat.le_trans HA.out.2.2.2.1.size hgb))
          have HF := Lib.hid (And.intro hzd hfin)
          clear hzs hA hmA hkl hsorted hperm hlt hown2 H2 hg2 hBW hzd hfin hgc hcs htk hdl hB
          go_wp2_with fail
          refine hcall.mono ?_
          rintro e w3 ⟨rfl, q, rfl⟩
          clear hcall
          go_wp2
          refine bodyPost_ret (v := .slice (some ⟨g, 0, none⟩) zs.length cap) (by simp [results, Tryz.results58, go_sem]) rfl ⟨⟨_, rfl, ?_⟩, (HF.out.2 q).2⟩
          have h1 := (HF.out.2 q).1
          simp only [List.take_left'] at h1
          rw [← HF.out.1, ← HA.out.2.2.2.2]
          exact h1
end Go.Proofs.YtlpngibdplnieaaGreatDoor
