/- The contracts of package name: label, split and its iterator, May. -/
import Derived.Test.YtdlpdpelhkgnlaaGreatDoorProg
import Derived.Test.YtdlpdpelhkgnlaaGreatDoorPlain
import Derived.Test.YtdlpdpelhkgnlaaGreatDoorSeq
import Derived.LoopTactic
import Derived.Outline
import Derived.Lib.Hide
import Derived.BigQuiet
import Derived.Deep.QuietTactic
import Derived.WalkLawsBesides
import Derived.WalkSpells
import Derived.ScopeJumps
import Derived.Shelf.Abstract
import Derived.Shelf.RegionOpen
import Derived.OwnWalkIn
import Derived.TacticsInMore
import Derived.LoopNIn
import Derived.LoopIn
namespace Go.Proofs.YtdlpdpelhkgnlaaGreatDoor
open Go Go.RowKit Go.Shelf
attribute [local go_sem] Oper.semAt_some

attribute [go_sem] Exit.jump
theorem bs_len (s : ByteArray) : s.data.toList.length = s.size := by simp
theorem bs_get (s : ByteArray) (k : Nat) (h : k < s.size) : s.data.toList[k]'(by simpa using h) = s[k] := rfl
theorem lab_no1 {s : ByteArray} (h : ¬ (1 ≤ s.size)) : labB s.data.toList = false := by simp [labB]; omega
theorem lab_no2 {s : ByteArray} (h : 63 < s.size) : labB s.data.toList = false := by simp [labB]; omega
theorem lab_no3 {s : ByteArray} (h : 0 < s.size) (e : (s[0].toNat : Int) = 45) : labB s.data.toList = false := by
  have : s.data.toList.head? = some s[0] := by rw [List.head?_eq_getElem?]; exact List.getElem?_eq_getElem (by simpa using h)
  have e' : s[0].toNat = 45 := by omega
  simp [labB, this, e']
theorem lab_no4 {s : ByteArray} (h : 0 < s.size) (e : (s[s.size - 1].toNat : Int) = 45) : labB s.data.toList = false := by
  have : s.data.toList.getLast? = some s[s.size - 1] := by rw [List.getLast?_eq_getElem?]; exact List.getElem?_eq_getElem (by simp; omega)
  have e' : s[s.size - 1].toNat = 45 := by omega
  simp [labB, this, e']
theorem lab_no5 {s : ByteArray} {k : Nat} (h : k < s.size) (e : okCh s[k] = false) : labB s.data.toList = false := by
  have : chB s.data.toList = false := by
    unfold chB; rw [List.all_eq_false]
    exact ⟨s[k], List.mem_of_getElem (h := by simpa using h) (bs_get s k h), by simp [e]⟩
  simp [labB, this]

theorem step_dig {s : ByteArray} {k : Nat} (h : k < s.size) (a : 48 ≤ (s[k].toNat : Int)) (b : (s[k].toNat : Int) ≤ 57) (hc : chB (s.data.toList.take k) = true) :
    digB (s.data.toList.take (k + 1)) = digB (s.data.toList.take k) ∧ chB (s.data.toList.take (k + 1)) = true := by
  have hk : k < s.data.toList.length := by simpa using h
  have hd : isDig s[k] = true := by simp [isDig]; omega
  constructor
  · unfold digB; rw [snoc_all _ _ _ hk, bs_get s k h, hd]; simp
  · unfold chB at *; rw [snoc_all _ _ _ hk, bs_get s k h, hc]; simp [okCh, hd]
theorem step_low {s : ByteArray} {k : Nat} (h : k < s.size) (a : 97 ≤ (s[k].toNat : Int)) (b : (s[k].toNat : Int) ≤ 122) (hc : chB (s.data.toList.take k) = true) :
    digB (s.data.toList.take (k + 1)) = false ∧ chB (s.data.toList.take (k + 1)) = true := by
  have hk : k < s.data.toList.length := by simpa using h
  have hd : isDig s[k] = false := by simp [isDig]; omega
  have hl : isLow s[k] = true := by simp [isLow]; omega
  constructor
  · unfold digB; rw [snoc_all _ _ _ hk, bs_get s k h, hd]; simp
  · unfold chB at *; rw [snoc_all _ _ _ hk, bs_get s k h, hc]; simp [okCh, hl]
theorem step_dash {s : ByteArray} {k : Nat} (h : k < s.size) (a : ((s[k].toNat : Int) == 45) = true) (hc : chB (s.data.toList.take k) = true) :
    digB (s.data.toList.take (k + 1)) = false ∧ chB (s.data.toList.take (k + 1)) = true := by
  have hk : k < s.data.toList.length := by simpa using h
  have e : s[k].toNat = 45 := by simp at a; omega
  have hd : isDig s[k] = false := by simp [isDig, e]
  constructor
  · unfold digB; rw [snoc_all _ _ _ hk, bs_get s k h, hd]; simp
  · unfold chB at *; rw [snoc_all _ _ _ hk, bs_get s k h, hc]; simp [okCh, e]
theorem beq_no {a b : Int} (h : (a == b) = false) : ¬ a = b := by simpa using h
theorem okCh_no {b : UInt8} (h1 : ¬ (48 ≤ (b.toNat : Int) ∧ (b.toNat : Int) ≤ 57)) (h2 : ¬ (97 ≤ (b.toNat : Int) ∧ (b.toNat : Int) ≤ 122)) (h3 : ¬ (b.toNat : Int) = 45) : okCh b = false := by
  have h3' : ¬ b.toNat = 45 := by omega
  simp [okCh, isDig, isLow, h3']; omega
theorem lab_yes {s : ByteArray} {k : Nat} (h1 : 1 ≤ s.size) (hk : k ≤ s.size) (h2 : s.size ≤ 63) (h : ¬ k < s.size) (hc : chB (s.data.toList.take k) = true)
    (hd : ¬ (s[0].toNat : Int) = 45) (he : ¬ (s[s.size - 1].toNat : Int) = 45) : labB s.data.toList = true ∧ digB (s.data.toList.take k) = digB s.data.toList := by
  have e : s.data.toList.take k = s.data.toList := List.take_of_length_le (by simp; omega)
  rw [e] at hc ⊢
  refine ⟨?_, rfl⟩
  have a : s.data.toList.head? = some s[0] := by rw [List.head?_eq_getElem?]; exact List.getElem?_eq_getElem (by simp; omega)
  have b : s.data.toList.getLast? = some s[s.size - 1] := by rw [List.getLast?_eq_getElem?]; exact List.getElem?_eq_getElem (by simp; omega)
  have d1 : ¬ s[0].toNat = 45 := by omega
  have d2 : ¬ s[s.size - 1].toNat = 45 := by omega
  simp [labB, hc, a, b, d1, d2]; omega
theorem lab_no4' {s : ByteArray} (h : 0 < s.size) (_ : 1 ≤ (s.size : Int)) (_ : (s.size : Int) ≤ 63) (_ : ¬ (s[0].toNat : Int) = 45)
    (e : (((s.size : Int) < 1 ∨ 63 < (s.size : Int)) ∨ ((s[0].toNat : Int) == 45) = true) ∨ ((s[s.size - 1].toNat : Int) == 45) = true) : labB s.data.toList = false := by
  refine lab_no4 h ?_
  simp only [beq_iff_eq] at e
  omega

set_option maxHeartbeats 800000 in
theorem label_any (s : ByteArray) (w : World) (hs : s.size ≤ maxLen) :
    Calls Tryz.prog 153 #[.string s] w fun e w' => e = .returned (.tuple #[.bool (labB s.data.toList), .bool (labB s.data.toList && digB s.data.toList)]) ∧ w = w' := by
  unfold maxLen at hs
  go_enter Tryz.func153, Tryz.ntmps153
  go_wp2
  refine wp_scope_jumps 0 (fun a w' => a.tmps.size = 53 ∧ a.defers = [] ∧ w = w' ∧ labB s.data.toList = false) (fun _ _ => 0) rfl ?_ ?_
  · go_wp2
    all_goals try (refine wp_goto ?_; refine ⟨rfl, by simp, rfl, rfl, ?_⟩; first | exact lab_no1 (by omega) | exact lab_no2 (by omega) | exact lab_no3 (by omega) (by assumption) | exact lab_no4' (by omega) (by omega) (by omega) (by assumption) (by assumption))
    have hd : ((1 ≤ (s.size : Int) ∧ (s.size : Int) ≤ 63) ∧ ((s[0].toNat : Int) == 45) = false) ∧ ((s[s.size - 1].toNat : Int) == 45) = false := by assumption
    have e1 : decide ((s.size : Int) < 1) = false := by simp; omega
    have e2 : decide (63 < (s.size : Int)) = false := by simp; omega
    simp only [e1, e2, hd.1.2, hd.2, Bool.or_false]
    have HD := Lib.hid hd
    clear hd e1 e2
    go_loop [3, 29] (fun d i => ∃ k : Nat, k ≤ s.size ∧ i = .int .i64 k ∧ d = .bool (digB (s.data.toList.take k)) ∧ chB (s.data.toList.take k) = true) (fun _ i => s.size - (intOf i).toNat)
    case atStart => exact ⟨0, Nat.zero_le _, rfl, rfl, rfl⟩
    case round =>
      obtain ⟨k, hk, rfl, rfl, hc⟩ := hrel
      have HC := Lib.hid hc
      clear hc
      go_wp2
      · go_round
        case rel => exact ⟨k + 1, by omega, by go_num, congrArg Value.bool (step_dig (by omega) (by omega) (by omega) HC.out).1.symm, (step_dig (by omega) (by omega) (by omega) HC.out).2⟩
        case measure => simp [intOf]; omega
      · go_round
        case rel => exact ⟨k + 1, by omega, by go_num, congrArg Value.bool (step_low (by omega) (by omega) (by omega) HC.out).1.symm, (step_low (by omega) (by omega) (by omega) HC.out).2⟩
        case measure => simp [intOf]; omega
      · refine wp_goto ?_; refine ⟨rfl, by simp, rfl, rfl, ?_⟩; exact lab_no5 (k := k) (by omega) (okCh_no (by omega) (by omega) (beq_no ‹_›))
      · refine wp_goto ?_; refine ⟨rfl, by simp, rfl, rfl, ?_⟩; exact lab_no5 (k := k) (by omega) (okCh_no (by omega) (by omega) (beq_no ‹_›))
      · go_round
        case rel => exact ⟨k + 1, by omega, by go_num, congrArg Value.bool (step_dash (by omega) ‹_› HC.out).1.symm, (step_dash (by omega) ‹_› HC.out).2⟩
        case measure => simp [intOf]; omega
      · refine wp_goto ?_; refine ⟨rfl, by simp, rfl, rfl, ?_⟩; exact lab_no5 (k := k) (by omega) (okCh_no (by omega) (by omega) (beq_no ‹_›))
      · obtain ⟨y1, y2⟩ := lab_yes (by omega) hk (by omega) (by omega) HC.out (beq_no HD.out.1.2) (beq_no HD.out.2)
        go_ret2
        exact ⟨by rw [y1, y2]; rfl, rfl⟩
  · rintro ⟨tmps, ds⟩ w' ⟨h1, _, rfl, hl⟩
    go_wp2
    refine bodyPost_ret (v := .tuple #[.bool false, .bool false]) ?_ rfl ⟨by rw [hl]; rfl, rfl⟩
    simp [results, Tryz.results153, go_sem, h1]

end Go.Proofs.YtdlpdpelhkgnlaaGreatDoor
