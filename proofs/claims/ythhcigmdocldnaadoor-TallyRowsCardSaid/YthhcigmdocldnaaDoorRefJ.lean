/- ref01.Same at two lists of texts. -/
import Derived.Test.YthhcigmdocldnaaDoorLawE
import Derived.Test.YthhcigmdocldnaaDoorRefA
namespace Go.Proofs.YthhcigmdocldnaaDoor
open Go Go.RowKit Go.Shelf Go.Sort

theorem strs_at {w : World} {base : Nat} {v : Value} {ds : List Bytes} (h : w.ownsRow base 9 1 v ds.length (ds.map str)) : ∃ p c, v = .slice p ds.length c ∧ ∀ i (hi : i < ds.length), ∃ g, p = some ⟨g, 0, none⟩ ∧ ds.length ≤ c ∧ w.cell? ⟨g, i, none⟩ = some (.string ⟨ds[i].toArray⟩) := by
  have hsh : ∃ p c, v = .slice p ds.length c := by
    rcases h.2 with ⟨rfl, h0⟩ | ⟨g, cap, cur, rfl, _⟩
    · exact ⟨none, 0, by rw [h0]⟩
    · exact ⟨_, _, rfl⟩
  obtain ⟨p, c, rfl⟩ := hsh
  refine ⟨p, c, rfl, fun i hi => ?_⟩
  rcases h.2 with ⟨_, h0⟩ | ⟨g, cap, cur, e, _, _, hcap, _⟩
  · omega
  · injection e with e1 _ e3
    subst e1 e3
    refine ⟨g, rfl, hcap, own_cell h (j := i) (by omega) ?_⟩
    rw [List.getElem?_map, List.getElem?_eq_getElem hi]
    rfl

def StrsPost (w : World) (ds es : List Bytes) (e : Ending) (w' : World) : Prop := ∃ m, e = .returned (.bool (decide (ds = es))) ∧ w' = w.drewN m

set_option maxRecDepth 100000 in
set_option maxHeartbeats 1000000 in
theorem refStrs_any (w : World) (base base' : Nat) (v u : Value) (ds es : List Bytes) (h : w.ownsRow base 9 1 v ds.length (ds.map str)) (h' : w.ownsRow base' 9 1 u es.length (es.map str)) (hl : ds.length ≤ 1000000) :
    Calls Tryd.prog 31 #[v, u] w (StrsPost w ds es) := by
  obtain ⟨p, c, rfl, hp⟩ := strs_at h
  obtain ⟨p', c', rfl, hp'⟩ := strs_at h'
  have HH := Lib.hid (And.intro hp hp')
  clear h h' hp hp'
  go_enter Tryd.func31, Tryd.ntmps31
  by_cases hne : ds.length = es.length
  · have hni : (ds.length : Int) = (es.length : Int) := by omega
    go_wp2_with fail
    go_loopw [5] (fun iv wr => ∃ i m : Nat, iv = .int .i64 (i : Int) ∧ i ≤ ds.length ∧ ds.take i = es.take i ∧ wr = w.drewN m)
      (fun iv _ => ds.length - natI iv)
    case atStart => exact ⟨0, 0, rfl, Nat.zero_le _, rfl, rfl⟩
    case round =>
      obtain ⟨i, m, rfl, hi, htk, rfl⟩ := hrel
      by_cases hlast : i < ds.length
      · have hli : (i : Int) < (ds.length : Int) := by omega
        have hl2 : i < es.length := by omega
        have hli2 : (i : Int) < (es.length : Int) := by omega
        obtain ⟨g, rfl, hc, x0⟩ := HH.out.1 i hlast
        obtain ⟨g', rfl, hc', y0⟩ := HH.out.2 i hl2
        have hstep : ds[i] = es[i] → ds.take (i + 1) = es.take (i + 1) := fun e => by
          rw [List.take_succ_eq_append_getElem hlast, List.take_succ_eq_append_getElem hl2, htk, e]
        have hno : ¬ ds[i] = es[i] → decide (ds = es) = false := fun h => decide_eq_false (fun e => by subst e; exact h rfl)
        by_cases he : ds[i] = es[i]
        · have HN := Lib.hid (hstep he)
          rw [← he] at y0
          clear hstep hno he htk
          generalize (⟨ds[i].toArray⟩ : ByteArray) = sa at x0 y0
          have f : (sa.toList == sa.toList) = true := beq_self_eq_true _
          go_wp2_with fail
          go_quiet (fail)
          go_wp2
          go_roundw
          case rel => exact ⟨i + 1, _, by simp, by omega, HN.out, by first | rfl | exact World.drewN_drewN _ _ _⟩
          case measure => simp [natI]; omega
        · have HN := Lib.hid (hno he)
          have f : ((⟨ds[i].toArray⟩ : ByteArray).toList == (⟨es[i].toArray⟩ : ByteArray).toList) = false := by
            rw [← beq_toListBytes]
            refine beqB_ne fun e => he ?_
            injection e with e
            simpa using congrArg Array.toList e
          clear hstep hno he htk
          generalize (⟨ds[i].toArray⟩ : ByteArray) = sa at x0 f
          generalize (⟨es[i].toArray⟩ : ByteArray) = sb at y0 f
          go_wp2_with fail
          go_quiet (fail)
          go_wp2
          refine bodyPost_ret (v := .bool false) (by simp [results, Tryd.results31, go_sem]) rfl ⟨_, by rw [HN.out], by first | rfl | exact World.drewN_drewN _ _ _⟩
      · have hli : ¬ (i : Int) < (ds.length : Int) := by omega
        obtain rfl : i = ds.length := by omega
        have hE : decide (ds = es) = true := decide_eq_true (by
          rw [List.take_of_length_le (Nat.le_refl _), List.take_of_length_le (by omega)] at htk
          exact htk)
        have HE := Lib.hid hE
        clear hE htk
        go_wp2
        refine bodyPost_ret (v := .bool true) (by simp [results, Tryd.results31, go_sem]) rfl ⟨_, by rw [HE.out], rfl⟩
  · have hni : ¬ (ds.length : Int) = (es.length : Int) := by omega
    have hE : decide (ds = es) = false := decide_eq_false (fun e => hne (by rw [e]))
    have HE := Lib.hid hE
    clear hE hne
    go_wp2
    refine bodyPost_ret (v := .bool false) (by simp [results, Tryd.results31, go_sem]) rfl ⟨0, by rw [HE.out], rfl⟩
end Go.Proofs.YthhcigmdocldnaaDoor
