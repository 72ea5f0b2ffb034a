/- Package head: small, Like, named, begins. -/
import Derived.Test.YtdlpdpelhkgnlaaGreatDoorMb
namespace Go.Proofs.YtdlpdpelhkgnlaaGreatDoor
open Go Go.RowKit Go.Shelf Go.Sort
attribute [local go_sem] bneI

theorem or_low (c : UInt8) (h : 65 ≤ (c.toNat : Int) ∧ (c.toNat : Int) ≤ 90) : bits BinOp.or IntKind.u8 (c.toNat : Int) 32 = ((lowB c).toNat : Int) := by
  have hd : ∀ n : Fin 256, 65 ≤ n.val → n.val ≤ 90 → bits BinOp.or IntKind.u8 (n.val : Int) 32 = ((lowB (UInt8.ofNat n.val)).toNat : Int) := by decide +kernel
  have := hd ⟨c.toNat, c.toNat_lt⟩ (by simp only; omega) (by simp only; omega)
  simpa using this
set_option maxRecDepth 100000 in
set_option maxHeartbeats 2000000 in
theorem small_any (u : Bytes) (w : World) (hul : u.length ≤ maxLen) : Calls Tryz.prog 120 #[.string ⟨u.toArray⟩] w fun e w' => e = .returned (.string ⟨(u.map lowB).toArray⟩) ∧ Below w.heap.size w w' := by
  have hconv := Lib.run_convert_string_bytes (P := Tryz.prog) w 9 92 5 ⟨u.toArray⟩ Tryz.underlying9 Tryz.underlying92 Tryz.underlying5
  have hsz : (⟨u.toArray⟩ : ByteArray).size = u.length := rfl
  rw [hsz] at hconv
  have hB := bytes_below w 5 ⟨u.toArray⟩
  have hN := ByAt.new w u
  generalize Lib.bytesWorld w 5 ⟨u.toArray⟩ = w1 at *
  generalize grownCap w u.length 0 5 = cap at *
  have HB := Lib.hid (And.intro hB (And.intro hN hul))
  have hub : u.length ≤ 9223372036854775807 := by unfold maxLen at hul; omega
  clear hB hN hul hsz
  go_enter Tryz.func120, Tryz.ntmps120
  go_wp2_with fail
  clear hconv
  go_loopw [10] (fun iv wr => ∃ i : Nat, iv = .int .i64 (i : Int) ∧ i ≤ u.length ∧ ByAt wr w.heap.size (lowTo u i) ∧ Below w.heap.size w wr) (fun iv _ => u.length - natI iv)
  case atStart => exact ⟨0, rfl, Nat.zero_le _, by simpa [lowTo] using HB.out.2.1, HB.out.1⟩
  case round =>
    obtain ⟨i, rfl, hi, hA, hBl⟩ := hrel
    by_cases hlast : i < u.length
    · have hli : (i : Int) < (u.length : Int) := by omega
      have hll := lowTo_len u i (by omega)
      have hil : i < (lowTo u i).length := by omega
      obtain ⟨c0, f0⟩ := hA.cell i hil
      have hst := hA.set i hil (lowB u[i])
      rw [lowTo_get u i hlast hil] at c0
      rw [lowTo_succ u i hlast] at hst
      have hlow := lowB_int u[i]
      have hBl2 := fun v => hBl.setCell (p := ⟨w.heap.size, i, none⟩) (Nat.le_refl _) v
      have hsame : lowB u[i] = u[i] → lowTo u (i + 1) = lowTo u i := fun h => by
        rw [← lowTo_succ u i hlast, h]
        have := lowTo_get u i hlast hil
        conv => lhs; rw [← this]
        exact List.set_getElem_self hil
      have HR := Lib.hid (And.intro hA (And.intro hBl (And.intro hst (And.intro hBl2 hsame))))
      have hcl := u[i].toNat_lt
      clear hA hBl hst hBl2 hsame hll hil
      generalize u[i] = c at *
      rcases hlow with ⟨⟨h1, h2⟩, h3⟩ | ⟨hno, hsm⟩
      · have h3' := Lib.hid (or_low c ⟨h1, h2⟩)
        clear h3
        go_wp2
        go_roundw
        case rel => exact ⟨i + 1, by simp, by omega, by rw [h3'.out]; exact HR.out.2.2.1, HR.out.2.2.2.1 _⟩
        case measure => simp [natI]; omega
      · have HS := Lib.hid hsm
        clear hsm
        by_cases h1 : 65 ≤ (c.toNat : Int)
        · have h2 : ¬ (c.toNat : Int) ≤ 90 := fun h => hno ⟨h1, h⟩
          clear hno
          go_wp2
          go_roundw
          case rel => exact ⟨i + 1, by simp, by omega, by rw [HR.out.2.2.2.2 HS.out]; exact HR.out.1, HR.out.2.1⟩
          case measure => simp [natI]; omega
        · clear hno
          go_wp2
          go_roundw
          case rel => exact ⟨i + 1, by simp, by omega, by rw [HR.out.2.2.2.2 HS.out]; exact HR.out.1, HR.out.2.1⟩
          case measure => simp [natI]; omega
    · have hli : ¬ (i : Int) < (u.length : Int) := by omega
      have hfin : lowTo u i = u.map lowB := by unfold lowTo; rw [List.take_of_length_le (by omega), List.drop_of_length_le (by omega), List.append_nil]
      rw [hfin] at hA
      have hstr := fun W (h : ByAt W w.heap.size (u.map lowB)) => h.str cap
      simp only [List.length_map] at hstr
      have hs1 := hstr wr hA
      obtain ⟨v, hv⟩ : ∃ v, v = u.map lowB := ⟨_, rfl⟩
      rw [← hv] at hs1 hA
      have HV := Lib.hid (And.intro hv hBl)
      clear hA hBl hstr hv hfin
      go_wp2
      refine bodyPost_ret (v := .string ⟨v.toArray⟩) (by simp [results, Tryz.results120, go_sem]) rfl ⟨by rw [HV.out.1], HV.out.2⟩

set_option maxRecDepth 100000 in
theorem like_any (a b : Bytes) (w : World) (ha : a.length ≤ maxLen) (hb : b.length ≤ maxLen) : Calls Tryz.prog 101 #[.string ⟨a.toArray⟩, .string ⟨b.toArray⟩] w fun e w' => e = .returned (.bool (likeB a b)) ∧ Below w.heap.size w w' := by
  have h1 := small_any a w ha
  have h2 := fun W => small_any b W hb
  have hl : likeB a b = decide (a.map lowB = b.map lowB) := rfl
  rw [hl]
  generalize a.map lowB = x at *
  generalize b.map lowB = y at *
  clear ha hb hl
  go_enter Tryz.func101, Tryz.ntmps101
  go_wp2_with fail
  refine h1.mono ?_
  rintro e w1 ⟨rfl, hb1⟩
  have hS := h2 w1
  have HB := Lib.hid hb1
  clear h1 h2 hb1
  go_wp2_with fail
  refine hS.mono ?_
  rintro e w2 ⟨rfl, hb2⟩
  have HC := Lib.hid (HB.out.trans (hb2.mono HB.out.size))
  clear hS hb2
  by_cases h : x = y
  · subst h
    go_wp2
    refine bodyPost_ret (v := .bool true) (by simp [results, Tryz.results101, go_sem]) rfl ⟨by simp, HC.out⟩
  · go_wp2
    refine bodyPost_ret (v := .bool false) (by simp [results, Tryz.results101, go_sem, h]) rfl ⟨by rw [decide_eq_false h], HC.out⟩

def nameC (c : UInt8) : Bool := 33 ≤ c && c ≤ 126 && c != 58
theorem nameC_int (c : UInt8) : nameC c = (decide (33 ≤ (c.toNat : Int)) && decide ((c.toNat : Int) ≤ 126) && !decide ((c.toNat : Int) = 58)) := by
  unfold nameC
  congr 1
  · congr 1 <;> exact decide_eq_decide.2 (by rw [UInt8.le_iff_toNat_le]; simp; omega)
  · rw [bne, show (58 : UInt8) = UInt8.ofNat 58 from rfl, eqI c 58 (by decide)]
    rfl
set_option maxRecDepth 100000 in
set_option maxHeartbeats 2000000 in
theorem named_any (s : Bytes) (w : World) (hs : s.length ≤ maxLen) : Calls Tryz.prog 194 #[.string ⟨s.toArray⟩] w fun e w' => e = .returned (.bool (namedB s)) ∧ Below w.heap.size w w' := by
  have hconv := Lib.run_convert_string_bytes (P := Tryz.prog) w 9 92 5 ⟨s.toArray⟩ Tryz.underlying9 Tryz.underlying92 Tryz.underlying5
  have hsz : (⟨s.toArray⟩ : ByteArray).size = s.length := rfl
  rw [hsz] at hconv
  have hB := bytes_below w 5 ⟨s.toArray⟩
  have hN := ByAt.new w s
  generalize Lib.bytesWorld w 5 ⟨s.toArray⟩ = w1 at *
  generalize grownCap w s.length 0 5 = cap at *
  have hnm : namedB s = (s.all nameC && !s.isEmpty) := rfl
  have HB := Lib.hid (And.intro hB (And.intro hN hnm))
  have hub : s.length ≤ 9223372036854775807 := by unfold maxLen at hs; omega
  clear hB hN hsz hs hnm
  go_enter Tryz.func194, Tryz.ntmps194
  go_wp2_with fail
  clear hconv
  go_loopw [8] (fun iv wr => ∃ i : Nat, iv = .int .i64 (i : Int) ∧ i ≤ s.length ∧ (s.take i).all nameC = true ∧ wr = w1) (fun iv _ => s.length - natI iv)
  case atStart => exact ⟨0, rfl, Nat.zero_le _, rfl, rfl⟩
  case round =>
    obtain ⟨i, rfl, hi, hall, rfl⟩ := hrel
    by_cases hlast : i < s.length
    · have hli : (i : Int) < (s.length : Int) := by omega
      obtain ⟨c0, -⟩ := HB.out.2.1.cell i hlast
      have hst : (s.take (i + 1)).all nameC = nameC s[i] := by
        rw [List.take_succ_eq_append_getElem hlast, List.all_append, hall]; simp
      have hno : nameC s[i] = false → s.all nameC = false := fun h => by
        rw [List.all_eq_false]
        exact ⟨s[i], List.getElem_mem hlast, by rw [h]; simp⟩
      have hci := nameC_int s[i]
      have HD := Lib.hid (And.intro hst hno)
      clear hst hno hall
      generalize nameC s[i] = r at hci HD
      generalize s[i].toNat = n at *
      have hk : ((n : Int) < 33 ∧ r = false) ∨ (33 ≤ (n : Int) ∧ 126 < (n : Int) ∧ r = false) ∨ ((33 ≤ (n : Int) ∧ (n : Int) ≤ 126) ∧ (n : Int) = 58 ∧ r = false) ∨ ((33 ≤ (n : Int) ∧ (n : Int) ≤ 126) ∧ ¬ (n : Int) = 58 ∧ r = true) := by
        rw [hci]
        simp only [Bool.and_eq_true, decide_eq_true_eq, Bool.and_eq_false_iff, decide_eq_false_iff_not, Bool.not_eq_true', Bool.not_eq_false', decide_eq_true_eq]
        omega
      clear hci
      rcases hk with ⟨h1, rfl⟩ | ⟨h1, h2, rfl⟩ | ⟨⟨h1, h2⟩, h3, rfl⟩ | ⟨⟨h1, h2⟩, h3, rfl⟩
      · have HN := Lib.hid (HD.out.2 rfl)
        clear HD
        go_wp2
        refine bodyPost_ret (v := .bool false) (by simp [results, Tryz.results194, go_sem]) rfl ⟨by rw [HB.out.2.2, HN.out]; rfl, HB.out.1⟩
      · have h4 : ¬ (n : Int) < 33 := by omega
        have HN := Lib.hid (HD.out.2 rfl)
        clear HD
        go_wp2
        refine bodyPost_ret (v := .bool false) (by simp [results, Tryz.results194, go_sem]) rfl ⟨by rw [HB.out.2.2, HN.out]; rfl, HB.out.1⟩
      · have h4 : ¬ (n : Int) < 33 := by omega
        have h5 : ¬ 126 < (n : Int) := by omega
        have h6 : ((n : Int) == 58) = true := by rw [h3]; rfl
        have h7 : decide ((n : Int) = 58) = true := by rw [h3]; rfl
        have HN := Lib.hid (HD.out.2 rfl)
        clear h3 HD
        go_wp2
        refine bodyPost_ret (v := .bool false) (by simp [results, Tryz.results194, go_sem]) rfl ⟨by rw [HB.out.2.2, HN.out]; rfl, HB.out.1⟩
      · have h4 : ¬ (n : Int) < 33 := by omega
        have h5 : ¬ 126 < (n : Int) := by omega
        have h6 : ((n : Int) == 58) = false := by simpa using h3
        have h7 : decide ((n : Int) = 58) = false := by simpa using h3
        clear h3
        go_wp2
        go_roundw
        case rel => exact ⟨i + 1, by simp, by omega, HD.out.1, by simp⟩
        case measure => simp [natI]; omega
    · have hli : ¬ (i : Int) < (s.length : Int) := by omega
      have hfa : s.all nameC = true := by rw [List.take_of_length_le (by omega)] at hall; exact hall
      have HA := Lib.hid hfa
      clear hall hfa
      by_cases h0 : s = []
      · subst h0
        go_wp2
        refine bodyPost_ret (v := .bool false) (by simp [results, Tryz.results194, go_sem]) rfl ⟨by rw [HB.out.2.2]; rfl, HB.out.1⟩
      · have h1 : s.isEmpty = false := by simpa using h0
        have H1 := Lib.hid h1
        go_wp2
        refine bodyPost_ret (v := .bool true) (by simp [results, Tryz.results194, go_sem]) rfl ⟨by rw [HB.out.2.2, HA.out, H1.out]; rfl, HB.out.1⟩
theorem set2 {W : World} {b : Nat} {v0 v1 : Value} {t : TypeId} (x y : Value) (h : W.heap[b]? = some (.cells #[v0, v1] t (0, 0))) : ((W.setCell ⟨b, 0, none⟩ x).setCell ⟨b, 1, none⟩ y).heap[b]? = some (.cells #[x, y] t (0, 0)) := by
  simp [World.setCell, Array.getElem?_modify, h]
/-- What begins answers. -/
def BeginsPost (l : Bytes) (e : Ending) : Prop := ∃ (n v : Bytes) (f : Bool), e = .returned (.tuple #[.agg #[.string ⟨n.toArray⟩, .string ⟨v.toArray⟩], .bool f]) ∧ beginsB l = (if f then some (n, v) else none) ∧ n.length ≤ l.length ∧ v.length ≤ l.length
theorem cut58_le (l : Bytes) : (Lib.cut l [58]).1.length ≤ l.length ∧ (Lib.cut l [58]).2.1.length ≤ l.length := by
  unfold Lib.cut
  split
  · simp; omega
  · simp
set_option maxRecDepth 100000 in
set_option maxHeartbeats 2000000 in
theorem begins_any (l : Bytes) (w : World) (hs : l.length ≤ 1000000) (hg : Glob w) : Calls Tryz.prog 177 #[.string ⟨l.toArray⟩] w fun e w' => BeginsPost l e ∧ Below w.heap.size w w' := by
  obtain ⟨W1, hW1⟩ : ∃ W1, W1 = (w.alloc (.cells #[.string ⟨#[]⟩, .string ⟨#[]⟩] 162)) := ⟨_, rfl⟩
  have hB1 : Below w.heap.size w W1 := by rw [hW1]; exact (Below.refl _ w).alloc (Nat.le_refl _) _
  have hb1 : W1.heap[w.heap.size]? = some (.cells #[.string ⟨#[]⟩, .string ⟨#[]⟩] 162 (0, 0)) := by rw [hW1]; exact ha_eq rfl
  obtain ⟨m, hm⟩ := hg.keep hB1
  have hC := Tryz.strings_Cut ⟨l.toArray⟩ ⟨#[58]⟩ m W1 (by show l.length < _; omega) hm
  have e1 : (⟨l.toArray⟩ : ByteArray).data.toList = l := rfl
  have e3 : (⟨#[58]⟩ : ByteArray).data.toList = [58] := rfl
  rw [e1, e3] at hC
  have hle := cut58_le l
  cases hc : Lib.cut l [58] with
  | mk n x =>
    obtain ⟨v, f⟩ := x
    rw [hc] at hC hle
    dsimp only at hC hle
    have hN := fun W => named_any n W (by unfold maxLen; omega)
    have hbg : beginsB l = if (f && namedB n) = true then some (n, v) else none := by
      unfold beginsB
      rw [hc]
    have HB := Lib.hid (And.intro hB1 (And.intro hb1 (And.intro hle hbg)))
    clear hB1 hb1 hle hbg hm hg e1 e3 hc
    go_enter Tryz.func177, Tryz.ntmps177
    go_upto_region 1 with (fail)
    rw [← hW1]
    clear hW1
    go_wp2_with fail
    refine hC.mono ?_
    rintro e w2 ⟨rfl, q, rfl⟩
    clear hC
    have hb1 : (W1.drewN q).heap[w.heap.size]? = some (.cells #[.string ⟨#[]⟩, .string ⟨#[]⟩] 162 (0, 0)) := HB.out.2.1
    have hBq : Below w.heap.size w (W1.drewN q) := HB.out.1.trans ((below_drewN (Below.refl _ _) q).mono HB.out.1.size)
    generalize W1.drewN q = W2 at *
    have x0 : W2.cell? ⟨w.heap.size, 0, none⟩ = some (.string ⟨#[]⟩) := by simp [World.cell?, hb1]
    have x1 : W2.cell? ⟨w.heap.size, 1, none⟩ = some (.string ⟨#[]⟩) := by simp [World.cell?, hb1]
    have f0 : W2.frozen? ⟨w.heap.size, 0, none⟩ = false := by simp [World.frozen?, hb1]
    have f1 : W2.frozen? ⟨w.heap.size, 1, none⟩ = false := by simp [World.frozen?, hb1]
    have hfin := fun (W : World) (h : W.heap[w.heap.size]? = some (.cells #[.string ⟨#[]⟩, .string ⟨#[]⟩] 162 (0, 0))) => set2 (.string ⟨n.toArray⟩) (.string ⟨v.toArray⟩) h
    cases f with
    | false =>
      have hz := hfin W2 hb1
      have z0 : ((W2.setCell ⟨w.heap.size, 0, none⟩ (.string ⟨n.toArray⟩)).setCell ⟨w.heap.size, 1, none⟩ (.string ⟨v.toArray⟩)).cell? ⟨w.heap.size, 0, none⟩ = some (.string ⟨n.toArray⟩) := by simp [World.cell?, hz]
      have z1 : ((W2.setCell ⟨w.heap.size, 0, none⟩ (.string ⟨n.toArray⟩)).setCell ⟨w.heap.size, 1, none⟩ (.string ⟨v.toArray⟩)).cell? ⟨w.heap.size, 1, none⟩ = some (.string ⟨v.toArray⟩) := by simp [World.cell?, hz]
      have HZ := Lib.hid ((hBq.setCell (p := ⟨w.heap.size, 0, none⟩) (Nat.le_refl _) (.string ⟨n.toArray⟩)).setCell (p := ⟨w.heap.size, 1, none⟩) (Nat.le_refl _) (.string ⟨v.toArray⟩))
      clear hb1 hBq hN hfin hz
      go_wp2
      refine bodyPost_ret (v := .tuple #[.agg #[.string ⟨n.toArray⟩, .string ⟨v.toArray⟩], .bool false]) (by simp [results, Tryz.results177, go_sem, z0, z1]) rfl ⟨⟨n, v, false, rfl, by rw [HB.out.2.2.2]; rfl, HB.out.2.2.1⟩, HZ.out⟩
    | true =>
      have hN2 := hN W2
      have HW := Lib.hid (And.intro hBq hb1)
      clear hBq hb1 hN x0 x1 f0 f1
      go_wp2_with fail
      refine hN2.mono ?_
      rintro e w3 ⟨rfl, hb3⟩
      have hblk : w3.heap[w.heap.size]? = some (.cells #[.string ⟨#[]⟩, .string ⟨#[]⟩] 162 (0, 0)) := (hb3.block _ (Array.getElem?_eq_some_iff.1 HW.out.2).1).trans HW.out.2
      have x0 : w3.cell? ⟨w.heap.size, 0, none⟩ = some (.string ⟨#[]⟩) := by simp [World.cell?, hblk]
      have x1 : w3.cell? ⟨w.heap.size, 1, none⟩ = some (.string ⟨#[]⟩) := by simp [World.cell?, hblk]
      have f0 : w3.frozen? ⟨w.heap.size, 0, none⟩ = false := by simp [World.frozen?, hblk]
      have f1 : w3.frozen? ⟨w.heap.size, 1, none⟩ = false := by simp [World.frozen?, hblk]
      have hz := hfin w3 hblk
      have z0 : ((w3.setCell ⟨w.heap.size, 0, none⟩ (.string ⟨n.toArray⟩)).setCell ⟨w.heap.size, 1, none⟩ (.string ⟨v.toArray⟩)).cell? ⟨w.heap.size, 0, none⟩ = some (.string ⟨n.toArray⟩) := by simp [World.cell?, hz]
      have z1 : ((w3.setCell ⟨w.heap.size, 0, none⟩ (.string ⟨n.toArray⟩)).setCell ⟨w.heap.size, 1, none⟩ (.string ⟨v.toArray⟩)).cell? ⟨w.heap.size, 1, none⟩ = some (.string ⟨v.toArray⟩) := by simp [World.cell?, hz]
      have hB3 := HW.out.1.trans (hb3.mono HW.out.1.size)
      have HZ := Lib.hid ((hB3.setCell (p := ⟨w.heap.size, 0, none⟩) (Nat.le_refl _) (.string ⟨n.toArray⟩)).setCell (p := ⟨w.heap.size, 1, none⟩) (Nat.le_refl _) (.string ⟨v.toArray⟩))
      have hbg : beginsB l = if namedB n = true then some (n, v) else none := by rw [HB.out.2.2.2]; simp
      have HG := Lib.hid hbg
      clear hb3 hblk hfin hz hB3 hN2 hbg
      generalize namedB n = r at *
      go_wp2
      refine bodyPost_ret (v := .tuple #[.agg #[.string ⟨n.toArray⟩, .string ⟨v.toArray⟩], .bool r]) (by simp [results, Tryz.results177, go_sem, z0, z1]) rfl ⟨⟨n, v, r, rfl, HG.out, HB.out.2.2.1⟩, HZ.out⟩
end Go.Proofs.YtdlpdpelhkgnlaaGreatDoor
