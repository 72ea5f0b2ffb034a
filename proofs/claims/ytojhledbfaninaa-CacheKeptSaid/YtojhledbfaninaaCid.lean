/- The cache's id. -/
import Derived.Test.YtojhledbfaninaaNameB
import Derived.Test.YtojhledbfaninaaApp
import Derived.Lib.ConvBytes
namespace Go.Proofs.Ytojhledbfaninaa
open Go Go.RowKit Go.Shelf

def natI (v : Value) : Nat := match v with | .int _ q => q.toNat | _ => 0
def isUp (b : UInt8) : Bool := 65 ≤ b.toNat && b.toNat ≤ 90
def alnum (b : UInt8) : Bool := isLow b || isUp b || isDig b
/-- May a text be an id? -/
def idB (l : Bytes) : Bool := l.all alnum && decide (1 ≤ l.length) && decide (l.length ≤ 32)
theorem alnum_int (b : UInt8) : alnum b = ((decide (97 ≤ (b.toNat : Int)) && decide ((b.toNat : Int) ≤ 122)) || (decide (65 ≤ (b.toNat : Int)) && decide ((b.toNat : Int) ≤ 90)) || (decide (48 ≤ (b.toNat : Int)) && decide ((b.toNat : Int) ≤ 57))) := by
  simp only [alnum, isLow, isUp, isDig]
  congr 1
  · congr 1 <;> congr 1 <;> exact decide_eq_decide.2 (by omega)
  · congr 1 <;> exact decide_eq_decide.2 (by omega)
theorem bytes_below (w : World) (e : TypeId) (s : ByteArray) : Below w.heap.size w (Lib.bytesWorld w e s) :=
  ⟨rfl, rfl, rfl, by rw [Lib.bytesWorld_size]; omega, fun k hk => Lib.bytesWorld_at_old w e s k hk⟩

set_option maxRecDepth 100000 in
set_option maxHeartbeats 1000000 in
theorem id_any (s : ByteArray) (w : World) (hs : s.size ≤ maxLen) :
    Calls Try.prog 35 #[.string s] w fun e w' => e = .returned (.bool (idB s.data.toList)) ∧ Below w.heap.size w w' := by
  unfold maxLen at hs
  have hconv := Lib.run_convert_string_bytes (P := Try.prog) w 9 97 5 s Try.underlying9 Try.underlying97 Try.underlying5
  have hB := bytes_below w 5 s
  have hcell := Lib.bytesWorld_cell w 5 s
  generalize Lib.bytesWorld w 5 s = w1 at *
  generalize grownCap w s.size 0 5 = cap at *
  have HB := Lib.hid (And.intro hB hcell)
  clear hB hcell
  go_enter Try.func35, Try.ntmps35
  go_wp2_with fail
  go_loopw [8] (fun iv wr => ∃ i : Nat, iv = .int .i64 (i : Int) ∧ i ≤ s.size ∧ (s.data.toList.take i).all alnum = true ∧ wr = w1) (fun iv _ => s.size - natI iv)
  case atStart => exact ⟨0, rfl, Nat.zero_le _, rfl, rfl⟩
  case round =>
    obtain ⟨i, rfl, hi, hd, rfl⟩ := hrel
    by_cases hlast : i < s.size
    · have hli : (i : Int) < (s.size : Int) := by omega
      have hk : i < s.data.toList.length := by simpa using hlast
      have hst : (s.data.toList.take (i + 1)).all alnum = alnum s[i] := by rw [snoc_all _ _ _ hk, bs_get s i hlast, hd, Bool.true_and]
      have hno : alnum s[i] = false → idB s.data.toList = false := fun h => by
        have : s.data.toList.all alnum = false := by
          rw [List.all_eq_false]
          exact ⟨s[i], List.mem_of_getElem (h := hk) (bs_get s i hlast), by simp [h]⟩
        simp [idB, this]
      have hc := HB.out.2 i hlast
      rw [List.getD_eq_getElem?_getD, List.getElem?_eq_getElem hk, Option.getD_some, bs_get s i hlast] at hc
      rw [alnum_int] at hst hno
      have HD := Lib.hid (And.intro hst hno)
      clear hd hst hno
      have hlt := s[i].toNat_lt
      generalize s[i].toNat = c at *
      by_cases h1 : (97 : Int) ≤ (c : Int)
      · by_cases h2 : (c : Int) ≤ 122
        · skip
          have hN : (List.take (i + 1) s.data.toList).all alnum = true := by rw [HD.out.1]; simp; omega
          have HN := Lib.hid hN
          clear hN
          go_wp2
          go_roundw
          case rel => exact ⟨i + 1, by simp, by omega, HN.out, by first | rfl | trivial⟩
          case measure => simp [natI]; omega
        · have h3 : (65 : Int) ≤ (c : Int) := by omega
          have h4 : ¬ (c : Int) ≤ 90 := by omega
          have h5 : (48 : Int) ≤ (c : Int) := by omega
          have h6 : ¬ (c : Int) ≤ 57 := by omega
          have HN := Lib.hid (HD.out.2 (by simp; omega))
          go_wp2
          refine bodyPost_ret (v := .bool false) (by simp [results, Try.results35, go_sem]) rfl ⟨by rw [HN.out], HB.out.1⟩
      · by_cases h3 : (65 : Int) ≤ (c : Int)
        · by_cases h4 : (c : Int) ≤ 90
          · skip
            have hN : (List.take (i + 1) s.data.toList).all alnum = true := by rw [HD.out.1]; simp; omega
            have HN := Lib.hid hN
            clear hN
            go_wp2
            go_roundw
            case rel => exact ⟨i + 1, by simp, by omega, HN.out, by first | rfl | trivial⟩
            case measure => simp [natI]; omega
          · have h5 : (48 : Int) ≤ (c : Int) := by omega
            have h6 : ¬ (c : Int) ≤ 57 := by omega
            have HN := Lib.hid (HD.out.2 (by simp; omega))
            go_wp2
            refine bodyPost_ret (v := .bool false) (by simp [results, Try.results35, go_sem]) rfl ⟨by rw [HN.out], HB.out.1⟩
        · by_cases h5 : (48 : Int) ≤ (c : Int)
          · by_cases h6 : (c : Int) ≤ 57
            · skip
              have hN : (List.take (i + 1) s.data.toList).all alnum = true := by rw [HD.out.1]; simp; omega
              have HN := Lib.hid hN
              clear hN
              go_wp2
              go_roundw
              case rel => exact ⟨i + 1, by simp, by omega, HN.out, by first | rfl | trivial⟩
              case measure => simp [natI]; omega
            · skip
              have HN := Lib.hid (HD.out.2 (by simp; omega))
              go_wp2
              refine bodyPost_ret (v := .bool false) (by simp [results, Try.results35, go_sem]) rfl ⟨by rw [HN.out], HB.out.1⟩
          · skip
            have HN := Lib.hid (HD.out.2 (by simp; omega))
            go_wp2
            refine bodyPost_ret (v := .bool false) (by simp [results, Try.results35, go_sem]) rfl ⟨by rw [HN.out], HB.out.1⟩
    · have hli : ¬ (i : Int) < (s.size : Int) := by omega
      obtain rfl : i = s.size := by omega
      have e : s.data.toList.take s.size = s.data.toList := List.take_of_length_le (by simp)
      rw [e] at hd
      have hid : idB s.data.toList = (decide (1 ≤ s.size) && decide (s.size ≤ 32)) := by unfold idB; rw [hd]; simp
      have HN := Lib.hid hid
      clear hid hd e
      by_cases h0 : s.size = 0
      · have hse : s = ⟨#[]⟩ := by
          apply ByteArray.ext
          exact Array.eq_empty_of_size_eq_zero h0
        subst hse
        go_wp2
        refine bodyPost_ret (v := .bool false) (by simp [results, Try.results35, go_sem]) rfl ⟨by rw [HN.out]; rfl, HB.out.1⟩
      · have hne : s.toList.isEmpty = false := by
          rw [ByteArray.toList_eq]
          cases hl : s.data.toList with
          | nil => exact absurd (by simpa using congrArg List.length hl) h0
          | cons => rfl
        by_cases h32 : s.size ≤ 32
        · have h32i : (s.size : Int) ≤ 32 := by omega
          go_wp2
          refine bodyPost_ret (v := .bool true) (by simp [results, Try.results35, go_sem]) rfl ⟨by rw [HN.out, decide_eq_true h32, decide_eq_true (by omega)]; rfl, HB.out.1⟩
        · have h32i : ¬ (s.size : Int) ≤ 32 := by omega
          go_wp2
          refine bodyPost_ret (v := .bool false) (by simp [results, Try.results35, go_sem]) rfl ⟨by rw [HN.out, decide_eq_false h32]; simp, HB.out.1⟩
end Go.Proofs.Ytojhledbfaninaa
