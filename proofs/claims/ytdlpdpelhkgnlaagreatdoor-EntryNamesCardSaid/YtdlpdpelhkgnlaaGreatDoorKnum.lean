/- code.Num: as XEnum, with what it needs and no more. -/
import Derived.Test.YtdlpdpelhkgnlaaGreatDoorProg
import Derived.Test.YtdlpdpelhkgnlaaGreatDoorPlain
import Derived.Test.YtdlpdpelhkgnlaaGreatDoorShelf
import Derived.Test.YtdlpdpelhkgnlaaGreatDoorNameB
import Derived.Lib.AtoiErrMem
import Derived.Lib.AtoiAll
import Derived.Lib.ItoaNum
import Derived.Lib.ConvBytes
import Derived.Deep.CutRange
import Derived.StillTailTactics
import Derived.Shelf.Strings.SlTrimAscii
import Derived.Laws.StructEq
namespace Go.Proofs.YtdlpdpelhkgnlaaGreatDoor
open Go Go.RowKit Go.Shelf Go.Sort
theorem bneK (a b : Int) : (a != b) = !decide (a = b) := by
  by_cases h : a = b <;> simp [h]
attribute [local go_sem] bneK

def decV (s : Bytes) : Nat := s.foldl (fun n c => 10 * n + (c.toNat - 48)) 0
def numOk (s : Bytes) : Bool := !s.isEmpty && (!(decide (1 < s.length) && s.head? == some 48) && s.all isDig)
/-- A number so great at most, and the error's number. -/
def numC (s : Bytes) (most : Nat) : Nat × Nat := if numOk s = false then (0, 4) else if most < decV s then (0, 40) else (decV s, 0)
theorem dig_iff (c : UInt8) : isDig c = true ↔ (48 ≤ c.toNat ∧ c.toNat ≤ 57) := by unfold isDig; simp
theorem foldV_ge : ∀ (l : Bytes) (acc : Nat), acc ≤ l.foldl (fun n c => 10 * n + (c.toNat - 48)) acc
  | [], acc => Nat.le_refl _
  | c :: r, acc => by
    rw [List.foldl_cons]
    have := foldV_ge r (10 * acc + (c.toNat - 48))
    omega
theorem parse_dig : ∀ (l : Bytes) (acc : Nat), acc < 18446744073709551616 → l.all isDig = true → Lib.parseUint10 acc l = if l.foldl (fun n c => 10 * n + (c.toNat - 48)) acc < 18446744073709551616 then .ok (l.foldl (fun n c => 10 * n + (c.toNat - 48)) acc) else .range
  | [], acc, h, _ => by
    rw [Lib.parseUint10, List.foldl_nil, if_pos h]
  | c :: r, acc, h, hd => by
    rw [List.all_cons, Bool.and_eq_true] at hd
    have hc := (dig_iff c).1 hd.1
    have hg := foldV_ge r (10 * acc + (c.toNat - 48))
    rw [Lib.parseUint10, if_pos hc, List.foldl_cons]
    by_cases h1 : 1844674407370955162 ≤ acc
    · rw [if_pos h1, if_neg (by omega)]
    · rw [if_neg h1]
      by_cases h2 : 18446744073709551616 ≤ acc * 10 + (c.toNat - 48)
      · rw [if_pos h2, if_neg (by omega)]
      · rw [if_neg h2, parse_dig r _ (by omega) hd.2, Nat.mul_comm acc 10]
theorem numOk_parts {s : Bytes} (h : numOk s = true) : s ≠ [] ∧ ¬ (1 < s.length ∧ s.head? = some 48) ∧ s.all isDig = true := by
  unfold numOk at h
  simp only [Bool.and_eq_true, Bool.not_eq_true', List.isEmpty_eq_false_iff, ne_eq, Bool.and_eq_false_iff, decide_eq_false_iff_not] at h
  refine ⟨h.1, fun e => ?_, h.2.2⟩
  rcases h.2.1 with h | h
  · exact h e.1
  · rw [e.2] at h; simp at h
theorem atoi_dig {s : Bytes} (h : s ≠ []) (hd : s.all isDig = true) : Lib.atoiAll s = if decV s < 9223372036854775808 then .ok (decV s : Int) else .range := by
  cases s with
  | nil => exact absurd rfl h
  | cons c r =>
    have hc := (dig_iff c).1 (by rw [List.all_cons, Bool.and_eq_true] at hd; exact hd.1)
    have hp := parse_dig (c :: r) 0 (by decide) hd
    unfold Lib.atoiAll
    dsimp only
    rw [if_neg (by omega)]
    unfold Lib.parseMag
    rw [if_neg (by simp), hp]
    have e : (c :: r).foldl (fun n c => 10 * n + (c.toNat - 48)) 0 = decV (c :: r) := rfl
    rw [e]
    have h45 : ¬ c.toNat = 45 := by omega
    by_cases h1 : decV (c :: r) < 18446744073709551616
    · rw [if_pos h1]
      dsimp only
      by_cases h2 : decV (c :: r) < 9223372036854775808
      · rw [if_neg (by omega), if_neg (by omega), if_neg h45, if_pos h2]
      · rw [if_pos ⟨h45, by omega⟩, if_neg h2]
    · rw [if_neg h1, if_neg (by omega)]
def digs : Bytes := [48, 49, 50, 51, 52, 53, 54, 55, 56, 57]
theorem digs_mem (c : UInt8) : digs.contains c = isDig c := by
  have h : ∀ n : Fin 256, digs.contains (UInt8.ofNat n.val) = isDig (UInt8.ofNat n.val) := by decide +kernel
  have := h ⟨c.toNat, c.toNat_lt⟩
  simpa using this
theorem dropW_nil {f : UInt8 → Bool} : ∀ {l : Bytes}, l.dropWhile f = [] ↔ l.all f = true
  | [] => by simp
  | c :: r => by
    rw [List.dropWhile_cons, List.all_cons]
    by_cases h : f c = true
    · rw [if_pos h, h, Bool.true_and]; exact dropW_nil
    · rw [if_neg h]
      have : f c = false := by simpa using h
      rw [this]; simp
def trimD (s : Bytes) : Bytes := Lib.trimS s digs
theorem trimD_nil (s : Bytes) : trimD s = [] ↔ s.all isDig = true := by
  unfold trimD Lib.trimS Lib.trimLeftS Lib.trimRightS
  have e : (fun x : UInt8 => digs.contains x) = isDig := funext digs_mem
  rw [e]
  constructor
  · intro h
    have h1 := dropW_nil.1 h
    rw [List.all_eq_true] at h1 ⊢
    intro c hc
    by_cases hd : isDig c = true
    · exact hd
    · exfalso
      have : (s.reverse.dropWhile isDig).reverse.all isDig = true := List.all_eq_true.2 h1
      have h2 : (s.reverse.dropWhile isDig) = [] := by
        cases hh : s.reverse.dropWhile isDig with
        | nil => rfl
        | cons a b =>
          have h3 := List.head?_dropWhile_not isDig s.reverse
          rw [hh] at h3 this
          simp at h3
          rw [List.all_eq_true] at this
          have := this a (by simp)
          rw [h3] at this; cases this
      have h3 := dropW_nil.1 h2
      rw [List.all_eq_true] at h3
      exact hd (h3 c (by simpa using hc))
  · intro h
    have h2 : s.reverse.dropWhile isDig = [] := dropW_nil.2 (by rw [List.all_eq_true] at h ⊢; intro c hc; exact h c (by simpa using hc))
    rw [h2]; rfl
theorem trimD_any (s : Bytes) (w : World) (hs : s.length ≤ 9223372036854775807) : Calls Tryz.prog 116 #[.string ⟨s.toArray⟩, .string ⟨#[48, 49, 50, 51, 52, 53, 54, 55, 56, 57]⟩] w fun e w' => e = .returned (.string ⟨(trimD s).toArray⟩) ∧ Below w.heap.size w w' := by
  have h := Any.strings_Trim_laid Tryz.lays160 (by kernel_rfl) ⟨s.toArray⟩ ⟨#[48, 49, 50, 51, 52, 53, 54, 55, 56, 57]⟩ w hs (by decide) (ascii_of_all (by decide))
  exact h
/-- The variable that Atoi's error bears. -/
def Rng (w : World) : Prop := ∃ ev, w.cell? ⟨3, 0, none⟩ = some ev ∧ (ev = .nilIface ∨ ∃ te pe, ev = .iface te pe)
theorem Rng.keep {w w' : World} (h : Rng w) (hb : Below w.heap.size w w') : Rng w' := by
  obtain ⟨ev, h1, h2⟩ := h
  exact ⟨ev, (hb.cell (p := ⟨_, _, none⟩) (cell_lt h1)).trans h1, h2⟩
def AtoiPost (s : Bytes) (e : Ending) : Prop := (decV s < 9223372036854775808 ∧ e = .returned (.tuple #[.int .i64 (decV s : Int), .nilIface])) ∨ (9223372036854775808 ≤ decV s ∧ ∃ N, e = .returned (.tuple #[.int .i64 9223372036854775807, .iface 207 (.pointer (some ⟨N, 0, none⟩))]))
theorem atoi_any (s : Bytes) (w : World) (h0 : s ≠ []) (hd : s.all isDig = true) (hs : s.length ≤ 1000000000) (hE : Rng w) : Calls Tryz.prog 117 #[.string ⟨s.toArray⟩] w fun e w' => AtoiPost s e ∧ Below w.heap.size w w' := by
  have ha := atoi_dig h0 hd
  by_cases h1 : decV s < 9223372036854775808
  · rw [if_pos h1] at ha
    refine (Tryz.strconv_Atoi_ok ⟨s.toArray⟩ (by show s.length ≤ _; omega) _ ha w).mono ?_
    rintro e w' ⟨rfl, h⟩
    refine ⟨.inl ⟨h1, rfl⟩, ?_⟩
    rcases h with rfl | ⟨t, rfl⟩
    · exact Below.refl _ _
    · exact Lib.bytesWorld_below _ _ _
  · rw [if_neg h1] at ha
    obtain ⟨ev, he, hev⟩ := hE
    refine (Tryz.strconv_Atoi_range ⟨s.toArray⟩ (by show s.length ≤ _; omega) ha ev w he hev).mono ?_
    rintro e w' ⟨N, rfl, _, _, hb⟩
    have hsat : Lib.atoiSat s = 9223372036854775807 := by
      cases s with
      | nil => exact absurd rfl h0
      | cons c r =>
        have hc := (dig_iff c).1 (by rw [List.all_cons, Bool.and_eq_true] at hd; exact hd.1)
        unfold Lib.atoiSat
        rw [if_neg (by simp; omega)]
    refine ⟨.inr ⟨by omega, N, ?_⟩, hb⟩
    have : Lib.atoiSat (⟨s.toArray⟩ : ByteArray).data.toList = 9223372036854775807 := hsat
    rw [this]
def NumPost (s : Bytes) (most : Nat) (e : Ending) : Prop := e = .returned (.tuple #[.int .i64 ((numC s most).1 : Int), .int .i64 ((numC s most).2 : Int)])
set_option maxRecDepth 100000 in
set_option maxHeartbeats 4000000 in
theorem num_any (s : Bytes) (most : Nat) (w : World) (hs : s.length ≤ 1000000000) (hm : most < 9223372036854775808) (hE : Rng w) : Calls Tryz.prog 97 #[.string ⟨s.toArray⟩, .int .i64 (most : Int)] w fun e w' => NumPost s most e ∧ Below w.heap.size w w' := by
  have hT := trimD_any s w (by omega)
  cases s with
  | nil =>
    have hc : numC [] most = (0, 4) := rfl
    have HC := Lib.hid (show NumPost [] most (.returned (.tuple #[.int .i64 0, .int .i64 4])) by unfold NumPost; rw [hc]; rfl)
    clear hc hT hE
    go_enter Tryz.func97, Tryz.ntmps97
    go_wp2
    refine bodyPost_ret (v := .tuple #[.int .i64 0, .int .i64 4]) (by simp [results, Tryz.results97, go_sem]) rfl ⟨HC.out, Below.refl _ _⟩
  | cons c r =>
    have hnil : (c :: r).isEmpty = false := rfl
    by_cases h48 : 0 < r.length ∧ c = 48
    · have hok : numOk (c :: r) = false := by
        unfold numOk
        have : decide (1 < (c :: r).length) = true := by simp; omega
        rw [this, h48.2]; simp
      have HC := Lib.hid (show NumPost (c :: r) most (.returned (.tuple #[.int .i64 0, .int .i64 4])) by unfold NumPost numC; rw [hok]; rfl)
      obtain ⟨hr, rfl⟩ := h48
      have hl : (1 : Int) < (((48 :: r : Bytes).length : Nat) : Int) := by simp; omega
      clear hok hT hE
      go_enter Tryz.func97, Tryz.ntmps97
      go_wp2
      refine bodyPost_ret (v := .tuple #[.int .i64 0, .int .i64 4]) (by simp [results, Tryz.results97, go_sem]) rfl ⟨HC.out, Below.refl _ _⟩
    · have hok : numOk (c :: r) = (c :: r).all isDig := by
        unfold numOk
        have : (decide (1 < (c :: r).length) && (c :: r).head? == some 48) = false := by
          by_cases h1 : 0 < r.length
          · have : c ≠ 48 := fun e => h48 ⟨h1, e⟩
            simp [this]
          · simp; omega
        rw [this]; simp
      have htn := trimD_nil (c :: r)
      have HH := Lib.hid (And.intro hok (And.intro hE (And.intro hs hm)))
      obtain ⟨t, ht⟩ : ∃ t, t = trimD (c :: r) := ⟨_, rfl⟩
      rw [← ht] at hT htn
      have HT := Lib.hid htn
      clear hok hE htn ht
      go_enter Tryz.func97, Tryz.ntmps97
      go_upto_region 1 with (fail)
      go_cut [24] (fun s24 w' => s24 = .bool (!(c :: r).all isDig) ∧ Below w.heap.size w w')
      case first =>
        by_cases h1 : 0 < r.length
        · have hc : c ≠ 48 := fun e => h48 ⟨h1, e⟩
          have hcn : ¬ c.toNat = 48 := fun e => hc (UInt8.toNat_inj.1 e)
          have hl1 : (1 : Int) < (r.length : Int) + 1 := by omega
          have hg : ∀ h, (⟨(c :: r).toArray⟩ : ByteArray)[0]'h = c := fun _ => rfl
          have e1 : ((c.toNat : Int) == 48) = false := beq_eq_false_iff_ne.2 (by omega)
          have e2 : decide ((c.toNat : Int) = 48) = false := decide_eq_false (by omega)
          have e3 : decide (c.toNat = 48) = false := by simpa using hcn
          have e4 : (c == 48) = false := by simpa using hc
          clear h48
          go_wp2_with fail
          refine hT.mono ?_
          rintro e w2 ⟨rfl, hb2⟩
          have H2 := Lib.hid hb2
          clear hT hb2
          cases hd : (c :: r).all isDig with
          | true =>
            have htn := HT.out.2 hd
            subst htn
            go_wp2
            go_meet
            case rel => exact ⟨by rw [hd]; rfl, H2.out⟩
          | false =>
            have htn : t ≠ [] := fun e => by rw [HT.out.1 e] at hd; cases hd
            have e5 : (t == []) = false := by simpa using htn
            have e6 : t.isEmpty = false := by simpa using htn
            go_wp2
            go_meet
            case rel => exact ⟨by rw [hd]; rfl, H2.out⟩
        · have hr0 : r = [] := List.eq_nil_of_length_eq_zero (by omega)
          subst hr0
          clear h48 h1
          go_wp2_with fail
          refine hT.mono ?_
          rintro e w2 ⟨rfl, hb2⟩
          have H2 := Lib.hid hb2
          clear hT hb2
          cases hd : ([c] : Bytes).all isDig with
          | true =>
            have htn := HT.out.2 hd
            subst htn
            go_wp2
            go_meet
            case rel => exact ⟨by rw [hd]; rfl, H2.out⟩
          | false =>
            have htn : t ≠ [] := fun e => by rw [HT.out.1 e] at hd; cases hd
            have e5 : (t == []) = false := by simpa using htn
            have e6 : t.isEmpty = false := by simpa using htn
            go_wp2
            go_meet
            case rel => exact ⟨by rw [hd]; rfl, H2.out⟩
      case rest =>
        obtain ⟨rfl, hbc⟩ := hcut
        have HB := Lib.hid hbc
        clear hbc hT
        cases hd : (c :: r).all isDig with
        | false =>
          have hok := HH.out.1
          rw [hd] at hok
          have HC := Lib.hid (show NumPost (c :: r) most (.returned (.tuple #[.int .i64 0, .int .i64 4])) by unfold NumPost numC; rw [hok]; rfl)
          clear hok hd
          rw [Bool.not_false]
          go_wp2
          refine bodyPost_ret (v := .tuple #[.int .i64 0, .int .i64 4]) (by simp [results, Tryz.results97, go_sem]) rfl ⟨HC.out, HB.out⟩
        | true =>
          have hok := HH.out.1
          rw [hd] at hok
          have hA := atoi_any (c :: r) wc (by simp) hd HH.out.2.2.1 (HH.out.2.1.keep HB.out)
          have hN1 : most < decV (c :: r) → NumPost (c :: r) most (.returned (.tuple #[.int .i64 0, .int .i64 40])) := fun h => by unfold NumPost numC; rw [hok, if_neg (by simp), if_pos h]; rfl
          have hN2 : ¬ most < decV (c :: r) → NumPost (c :: r) most (.returned (.tuple #[.int .i64 (decV (c :: r) : Int), .int .i64 0])) := fun h => by unfold NumPost numC; rw [hok, if_neg (by simp), if_neg h]; rfl
          have HN := Lib.hid (And.intro hN1 hN2)
          clear hok hd hN1 hN2
          rw [Bool.not_true]
          go_wp2_with fail
          refine hA.mono ?_
          rintro e w3 ⟨hp, hb3⟩
          have H3 := Lib.hid (HB.out.trans (hb3.mono HB.out.size))
          clear hA hb3
          rcases hp with ⟨hlt, rfl⟩ | ⟨hge, N, rfl⟩
          · by_cases hmo : most < decV (c :: r)
            · have HC := Lib.hid (HN.out.1 hmo)
              have hmi : (most : Int) < (decV (c :: r) : Int) := by omega
              generalize decV (c :: r) = V at *
              go_wp2
              refine bodyPost_ret (v := .tuple #[.int .i64 0, .int .i64 40]) (by simp [results, Tryz.results97, go_sem]) rfl ⟨HC.out, H3.out⟩
            · have HC := Lib.hid (HN.out.2 hmo)
              have hmi : ¬ (most : Int) < (decV (c :: r) : Int) := by omega
              generalize decV (c :: r) = V at *
              go_wp2
              refine bodyPost_ret (v := .tuple #[.int .i64 (V : Int), .int .i64 0]) (by simp [results, Tryz.results97, go_sem]) rfl ⟨HC.out, H3.out⟩
          · have HC := Lib.hid (HN.out.1 (by have := HH.out.2.2.2; omega))
            go_wp2
            refine bodyPost_ret (v := .tuple #[.int .i64 0, .int .i64 40]) (by simp [results, Tryz.results97, go_sem]) rfl ⟨HC.out, H3.out⟩
end Go.Proofs.YtdlpdpelhkgnlaaGreatDoor
