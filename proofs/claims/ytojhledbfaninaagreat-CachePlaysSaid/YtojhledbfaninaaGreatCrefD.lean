/- The document's own function May on names. -/
import Derived.Test.YtojhledbfaninaaGreatCrefC
namespace Go.Proofs.YtojhledbfaninaaGreat
open Go Go.RowKit Go.Shelf Go.Sort
theorem own_cell {w : World} {base : Nat} {e : TypeId} {size g n cap : Nat} {xs : List Value} (h : w.ownsRow base e size (.slice (some ⟨g, 0, none⟩) n cap) n xs) {j : Nat} {v : Value} (hj : j < n * size) (hv : xs[j]? = some v) : w.cell? ⟨g, j, none⟩ = some v := by
  rcases h.2 with ⟨h0, _⟩ | ⟨g', cap', cur, e', hgb, hgc, hcap, hcm, hcs, htk⟩
  · cases h0
  · injection e' with e1 _ e3
    injection e1 with e1
    injection e1 with e1
    subst e1
    have h1 : (cur.toList.take (n * size))[j]? = xs[j]? := by rw [htk]
    rw [List.getElem?_take_of_lt hj, hv] at h1
    simp only [World.cell?, hgc]
    simpa using h1

set_option maxRecDepth 100000 in
set_option maxHeartbeats 1000000 in
theorem refMay_any (s : ByteArray) (w : World) (hs : s.size ≤ 1000000) :
    Calls Tryz.prog 46 #[.string s] w fun e w' => e = .returned (.bool (mayB s.data.toList)) ∧ Below w.heap.size w w' := by
  have hC := refCut_any s w hs
  go_enter Tryz.func46, Tryz.ntmps46
  go_wp2_with fail
  refine hC.mono ?_
  rintro e w1 ⟨v, rfl, ho, hB⟩
  have hsl : s.data.toList.length = s.size := by simp
  have hple : ∀ q ∈ parts 46 s.data.toList, q.length ≤ 1000000 := fun q hq => by have := parts_le 46 s.data.toList q hq; omega
  have hpn := parts_ne 46 s.data.toList
  have hpl := parts_len 46 s.data.toList
  have hmay : mayB s.data.toList = (decide (s.size ≤ 253) && (parts 46 s.data.toList).all labB && !((parts 46 s.data.toList).getLast?.any digB)) := by unfold mayB; rw [hsl]
  generalize parts 46 s.data.toList = ps at *
  have hpos : 0 < ps.length := List.length_pos_iff.2 hpn
  obtain ⟨g, c, rfl, hcells⟩ : ∃ g c, v = .slice (some ⟨g, 0, none⟩) ps.length c ∧ (ps.length ≤ c ∧ ∀ i (h : i < ps.length), w1.cell? ⟨g, i, none⟩ = some (.string ⟨ps[i].toArray⟩)) := by
    rcases ho.2 with ⟨_, h0⟩ | ⟨g, cap, cur, rfl, _, _, hcap, _⟩
    · omega
    · refine ⟨g, cap, rfl, hcap, fun i h => own_cell ho (j := i) (by omega) ?_⟩
      rw [List.getElem?_map, List.getElem?_eq_getElem h]
      rfl
  have hcap := hcells.1
  have hlast : ps.getLast? = some (ps[ps.length - 1]'(by omega)) := by rw [List.getLast?_eq_getElem?]; exact List.getElem?_eq_getElem (by omega)
  have HH := Lib.hid (And.intro hB (And.intro hple (And.intro hmay (And.intro hcells.2 hlast))))
  have hpl2 : (ps.length : Int) ≤ 1000001 := by omega
  have hpos2 : (0 : Int) < (ps.length : Int) := by omega
  clear ho hB hple hpn hmay hcells hlast hC hsl
  by_cases h253 : s.size ≤ 253
  · have h253i : ¬ (253 : Int) < (s.size : Int) := by omega
    obtain ⟨n, hn⟩ : ∃ n, ps.length = n + 1 := ⟨ps.length - 1, by omega⟩
    have hcl := HH.out.2.2.2.1 n (by omega)
    have hsub : (ps.length : Int) - 1 = (n : Int) := by omega
    have hnl : (n : Int) < (ps.length : Int) := by omega
    have hlst : ps.getLast? = some (ps[n]'(by omega)) := by
      rw [HH.out.2.2.2.2]
      congr 1
      simp [hn]
    have hD := refDigits_any ⟨(ps[n]'(by omega)).toArray⟩ w1 (by have := HH.out.2.1 ps[n] (List.getElem_mem (by omega)); show (ps[n]).length ≤ maxLen; unfold maxLen; omega)
    have hany : (ps.getLast?.any digB) = digB (⟨(ps[n]'(by omega)).toArray⟩ : ByteArray).data.toList := by rw [hlst]; rfl
    have HN := Lib.hid (And.intro hn hany)
    generalize (⟨(ps[n]'(by omega)).toArray⟩ : ByteArray) = lst at *
    clear hlst hany hn
    go_wp2_with fail
    refine hD.mono ?_
    rintro e w2 ⟨rfl, rfl⟩
    cases hdg : digB lst.data.toList
    · have hmy : mayB s.data.toList = ps.all labB := by
        rw [HH.out.2.2.1, decide_eq_true h253, HN.out.2, hdg]
        simp
      have HM := Lib.hid hmy
      clear hmy hdg hD hcl
      go_wp2_with fail
      go_loopw [4] (fun iv wr => ∃ i : Nat, iv = .int .i64 (i : Int) ∧ i ≤ ps.length ∧ (ps.take i).all labB = true ∧ wr = w1) (fun iv _ => ps.length - natI iv)
      case atStart => exact ⟨0, rfl, Nat.zero_le _, rfl, rfl⟩
      case round =>
        obtain ⟨i, rfl, hi, hd, rfl⟩ := hrel
        by_cases hlast : i < ps.length
        · have hli : (i : Int) < (ps.length : Int) := by omega
          have hcell := HH.out.2.2.2.1 i hlast
          have hst : (ps.take (i + 1)).all labB = labB ps[i] := by
            rw [List.take_succ_eq_append_getElem hlast, List.all_append, hd]
            simp
          have hno : labB ps[i] = false → ps.all labB = false := fun h => by
            rw [List.all_eq_false]
            exact ⟨ps[i], List.getElem_mem hlast, by simp [h]⟩
          have hL := refLabel_any ⟨ps[i].toArray⟩ wr (by have := HH.out.2.1 ps[i] (List.getElem_mem hlast); show (ps[i]).length ≤ maxLen; unfold maxLen; omega)
          have hlv : labB (⟨ps[i].toArray⟩ : ByteArray).data.toList = labB ps[i] := rfl
          rw [hlv] at hL
          have HD := Lib.hid (And.intro hst hno)
          clear hd hst hno hlv
          generalize (⟨ps[i].toArray⟩ : ByteArray) = pb at *
          go_wp2_with fail
          refine hL.mono ?_
          rintro e w2 ⟨rfl, rfl⟩
          cases hx : labB ps[i]
          · have HF := Lib.hid (HM.out.trans (HD.out.2 hx))
            clear hx hL hcell
            go_wp2
            refine bodyPost_ret (v := .bool false) (by simp [results, Tryz.results46, go_sem]) rfl ⟨by rw [HF.out], HH.out.1⟩
          · have HF := Lib.hid (HD.out.1.trans hx)
            clear hx hL hcell
            go_wp2
            go_roundw
            case rel => exact ⟨i + 1, by simp, by omega, HF.out, by first | rfl | trivial⟩
            case measure => simp [natI]; omega
        · have hli : ¬ (i : Int) < (ps.length : Int) := by omega
          obtain rfl : i = ps.length := by omega
          rw [List.take_length] at hd
          have HF := Lib.hid (HM.out.trans hd)
          clear hd
          go_wp2
          refine bodyPost_ret (v := .bool true) (by simp [results, Tryz.results46, go_sem]) rfl ⟨by rw [HF.out], HH.out.1⟩
    · have hmy : mayB s.data.toList = false := by
        rw [HH.out.2.2.1, decide_eq_true h253, HN.out.2, hdg]
        simp
      have HM := Lib.hid hmy
      clear hmy hdg hD hcl
      go_wp2
      refine bodyPost_ret (v := .bool false) (by simp [results, Tryz.results46, go_sem]) rfl ⟨by rw [HM.out], HH.out.1⟩
  · have h253i : (253 : Int) < (s.size : Int) := by omega
    have hfm : mayB s.data.toList = false := by rw [HH.out.2.2.1, decide_eq_false h253]; rfl
    have HM := Lib.hid hfm
    clear hfm
    go_wp2
    refine bodyPost_ret (v := .bool false) (by simp [results, Tryz.results46, go_sem]) rfl ⟨by rw [HM.out], HH.out.1⟩
end Go.Proofs.YtojhledbfaninaaGreat
