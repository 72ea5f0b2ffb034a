/- The document's own tally: may, May, New, Copy. -/
import Derived.Test.YthhcigmdocldnaaDoorRefD
import Derived.Test.YthhcigmdocldnaaDoorLawE
namespace Go.Proofs.YthhcigmdocldnaaDoor
open Go Go.RowKit Go.Shelf Go.Sort

set_option maxRecDepth 100000 in
theorem refKind_any (t x : Nat) (w : World) : Calls Tryd.prog 48 #[.int .u8 (t : Int), .int .u8 (x : Int)] w fun e w' => e = .returned (.bool (kindB (t : Int) (x : Int))) ∧ w = w' := by
  have hk : ∃ k, k = kindB (t : Int) (x : Int) := ⟨_, rfl⟩
  obtain ⟨k, hk⟩ := hk
  rw [← hk]
  unfold kindB at hk
  have HK := Lib.hid hk
  clear hk
  go_enter Tryd.func48, Tryd.ntmps48
  by_cases h1 : (t : Int) = 1
  · by_cases h7 : (x : Int) ≤ 7
    · have hv : k = true := by rw [HK.out, if_pos h1]; simpa using h7
      subst hv
      go_wp2
      refine bodyPost_ret (v := .bool true) (by simp [results, Tryd.results48, go_sem]) rfl ⟨rfl, rfl⟩
    · have hv : k = false := by rw [HK.out, if_pos h1]; simpa using h7
      subst hv
      go_wp2
      refine bodyPost_ret (v := .bool false) (by simp [results, Tryd.results48, go_sem]) rfl ⟨rfl, rfl⟩
  · have h1b : ((t : Int) == 1) = false := beq_eq_false_iff_ne.2 h1
    by_cases h2 : (t : Int) = 2
    · by_cases h5 : (x : Int) ≤ 5
      · have hv : k = true := by rw [HK.out, if_neg h1, if_pos h2]; simp; omega
        subst hv
        go_wp2
        refine bodyPost_ret (v := .bool true) (by simp [results, Tryd.results48, go_sem]) rfl ⟨rfl, rfl⟩
      · by_cases h8 : (8 : Int) ≤ (x : Int)
        · by_cases h10 : (x : Int) ≤ 10
          · have hv : k = true := by rw [HK.out, if_neg h1, if_pos h2]; simp; omega
            subst hv
            go_wp2
            refine bodyPost_ret (v := .bool true) (by simp [results, Tryd.results48, go_sem]) rfl ⟨rfl, rfl⟩
          · have hv : k = false := by rw [HK.out, if_neg h1, if_pos h2]; simp; omega
            subst hv
            go_wp2
            refine bodyPost_ret (v := .bool false) (by simp [results, Tryd.results48, go_sem]) rfl ⟨rfl, rfl⟩
        · have hv : k = false := by rw [HK.out, if_neg h1, if_pos h2]; simp; omega
          subst hv
          go_wp2
          refine bodyPost_ret (v := .bool false) (by simp [results, Tryd.results48, go_sem]) rfl ⟨rfl, rfl⟩
    · have h2b : ((t : Int) == 2) = false := beq_eq_false_iff_ne.2 h2
      by_cases h3 : (t : Int) = 3
      · by_cases h5 : (x : Int) ≤ 5
        · have hv : k = true := by rw [HK.out, if_neg h1, if_neg h2, if_pos h3]; simpa using h5
          subst hv
          go_wp2
          refine bodyPost_ret (v := .bool true) (by simp [results, Tryd.results48, go_sem]) rfl ⟨rfl, rfl⟩
        · have hv : k = false := by rw [HK.out, if_neg h1, if_neg h2, if_pos h3]; simpa using h5
          subst hv
          go_wp2
          refine bodyPost_ret (v := .bool false) (by simp [results, Tryd.results48, go_sem]) rfl ⟨rfl, rfl⟩
      · have h3b : ((t : Int) == 3) = false := beq_eq_false_iff_ne.2 h3
        have hv : k = false := by rw [HK.out, if_neg h1, if_neg h2, if_neg h3]
        subst hv
        go_wp2
        refine bodyPost_ret (v := .bool false) (by simp [results, Tryd.results48, go_sem]) rfl ⟨rfl, rfl⟩

set_option maxRecDepth 100000 in
theorem refMay19_any (r : Res) (w : World) (hs : r.1.1.length ≤ 1000000) :
    Calls Tryd.prog 25 #[.agg #[.string ⟨r.1.1.toArray⟩, .int .u8 (r.1.2 : Int), .int .u8 (r.2 : Int)]] w fun e w' => e = .returned (.bool (okR r)) ∧ Below w.heap.size w w' := by
  have hok : okR r = (kindB (r.1.2 : Int) (r.2 : Int) && mayB (⟨r.1.1.toArray⟩ : ByteArray).data.toList) := rfl
  rw [hok]
  clear hok
  obtain ⟨⟨d, t⟩, x⟩ := r
  dsimp only at hs ⊢
  have hsz : (⟨d.toArray⟩ : ByteArray).size ≤ 1000000 := hs
  have hmd : mayB (⟨d.toArray⟩ : ByteArray).data.toList = mayB d := rfl
  generalize (⟨d.toArray⟩ : ByteArray) = sd at *
  go_enter Tryd.func25, Tryd.ntmps25
  go_wp2_with fail
  obtain ⟨W, hW⟩ : ∃ W, W = w.alloc (.cells #[.string sd, .int .u8 (t : Int), .int .u8 (x : Int)] 56) := ⟨_, rfl⟩
  rw [← hW]
  have hB : Below w.heap.size w W := by rw [hW]; exact (Below.refl _ w).alloc (Nat.le_refl _) _
  have hH : W.heap[w.heap.size]? = some (.cells #[.string sd, .int .u8 (t : Int), .int .u8 (x : Int)] 56 (0, 0)) := by rw [hW]; exact ha_eq rfl
  have hM := refMay_any sd W hsz
  have HB := Lib.hid (And.intro hB hH)
  clear hW hB hH
  refine hM.mono ?_
  rintro e w1 ⟨rfl, hB1⟩
  have hH1 := (hB1.block _ (Array.getElem?_eq_some_iff.1 HB.out.2).1).trans HB.out.2
  have x1 : w1.cell? ⟨w.heap.size, 1, none⟩ = some (.int .u8 (t : Int)) := by simp [World.cell?, hH1]
  have x2 : w1.cell? ⟨w.heap.size, 2, none⟩ = some (.int .u8 (x : Int)) := by simp [World.cell?, hH1]
  have hK := refKind_any t x w1
  have HB1 := Lib.hid (HB.out.1.trans (Below.less hB1 HB.out.1.size))
  clear hM hB1 hH1
  cases hm : mayB sd.data.toList
  · clear hK
    go_wp2
    refine bodyPost_ret (v := .bool false) (by simp [results, Tryd.results25, go_sem]) rfl ⟨by rw [← hmd, hm]; simp, HB1.out⟩
  · go_wp2_with fail
    refine hK.mono ?_
    rintro e w2 ⟨rfl, rfl⟩
    have hz : (kindB (t : Int) (x : Int) && mayB d) = kindB (t : Int) (x : Int) := by rw [← hmd, hm]; simp
    have HZ := Lib.hid hz
    generalize hk : kindB (t : Int) (x : Int) = k
    have HK := Lib.hid hk
    clear hmd hm hz hk hK
    go_wp2
    refine bodyPost_ret (v := .bool k) (by simp [results, Tryd.results25, go_sem]) rfl ⟨by rw [HZ.out, HK.out], HB1.out⟩
end Go.Proofs.YthhcigmdocldnaaDoor
