/- The document's own tally: many; the program's Clear and Copy. -/
import Derived.Test.YthhcigmdocldnaaDoorRefF
namespace Go.Proofs.YthhcigmdocldnaaDoor
open Go Go.RowKit Go.Shelf Go.Sort

theorem eq_result9 (w : World) (a b : ByteArray) (t u x y : Int) : (binOp .eql 56 (.agg #[.string a, .int .u8 t, .int .u8 x]) (.agg #[.string b, .int .u8 u, .int .u8 y])).run Tryd.prog w = .ok (.bool (decide (a = b ∧ t = u ∧ x = y))) w := by
  have u3 := Tryd.underlying9
  have u4 := Tryd.underlying5
  have hS : Tryd.prog.underlying 56 = some (.struct (Tryd.prog.fieldsOf 56)) := by kernel_rfl
  have hp : Tryd.prog.stoodInHeld 56 = false := by kernel_rfl
  rw [run_eql_struct, show (10000 : Nat) = 9999 + 1 from rfl, run_equalIn_agg w 9999 56 _ _ hS hp]
  simp only [Program.fieldsOf, Tryd.underlying56]
  go_simp
  by_cases h1 : a = b
  · by_cases h2 : t = u <;> by_cases h3 : x = y <;> simp [h1, h2, h3]
  · have h1' : ¬ a.toList = b.toList := by
      rw [ByteArray.toList_eq, ByteArray.toList_eq]
      intro e
      apply h1
      obtain ⟨⟨a⟩⟩ := a
      obtain ⟨⟨b⟩⟩ := b
      simpa using e
    simp [h1, h1']
theorem eq_result9_t (w : World) {a b : ByteArray} {t u x y : Int} (h : a = b ∧ t = u ∧ x = y) : (binOp .eql 56 (.agg #[.string a, .int .u8 t, .int .u8 x]) (.agg #[.string b, .int .u8 u, .int .u8 y])).run Tryd.prog w = .ok (.bool true) w := by
  rw [eq_result9, decide_eq_true h]
theorem eq_result9_f (w : World) {a b : ByteArray} {t u x y : Int} (h : ¬ (a = b ∧ t = u ∧ x = y)) : (binOp .eql 56 (.agg #[.string a, .int .u8 t, .int .u8 x]) (.agg #[.string b, .int .u8 u, .int .u8 y])).run Tryd.prog w = .ok (.bool false) w := by
  rw [eq_result9, decide_eq_false h]

set_option maxRecDepth 100000 in
set_option maxHeartbeats 1000000 in
theorem refMany_any (w : World) (base b : Nat) (names : Int) (rs : List Res) (r : Res) (h : RefAt w base b names rs) (hmax : rs.length ≤ 1000000) :
    Calls Tryd.prog 71 #[.pointer (some ⟨b, 0, none⟩), .agg #[.string ⟨r.1.1.toArray⟩, .int .u8 (r.1.2 : Int), .int .u8 (r.2 : Int)]] w fun e w' => e = .returned (.int .i64 (manyR rs r : Int)) ∧ Below w.heap.size w w' := by
  have hbl := h.lt
  obtain ⟨v, hb, ho⟩ := h
  have hsh : ∃ p c, v = .slice p rs.length c := by
    rcases ho.2 with ⟨rfl, h0⟩ | ⟨g, cap, cur, rfl, _⟩
    · exact ⟨none, 0, by rw [h0]⟩
    · exact ⟨_, _, rfl⟩
  obtain ⟨p, c, rfl⟩ := hsh
  have HH := Lib.hid (And.intro hb ho)
  clear hb ho
  obtain ⟨⟨d, t⟩, x⟩ := r
  dsimp only
  generalize hds : (⟨d.toArray⟩ : ByteArray) = ds
  go_enter Tryd.func71, Tryd.ntmps71
  go_wp2_with fail
  obtain ⟨W, hW⟩ : ∃ W, W = w.alloc (.cells #[.string ds, .int .u8 (t : Int), .int .u8 (x : Int)] 56) := ⟨_, rfl⟩
  rw [← hW]
  have hB : Below w.heap.size w W := by rw [hW]; exact (Below.refl _ w).alloc (Nat.le_refl _) _
  have hbox : W.heap[w.heap.size]? = some (.cells #[.string ds, .int .u8 (t : Int), .int .u8 (x : Int)] 56 (0, 0)) := by rw [hW]; exact ha_eq rfl
  have k0 : W.cell? ⟨w.heap.size, 0, none⟩ = some (.string ds) := by simp [World.cell?, hbox]
  have k1 : W.cell? ⟨w.heap.size, 1, none⟩ = some (.int .u8 (t : Int)) := by simp [World.cell?, hbox]
  have k2 : W.cell? ⟨w.heap.size, 2, none⟩ = some (.int .u8 (x : Int)) := by simp [World.cell?, hbox]
  have hWb := (hB.block b hbl).trans HH.out.1
  have b1 : W.cell? ⟨b, 1, none⟩ = some (.slice p rs.length c) := by simp [World.cell?, hWb]
  have HW := Lib.hid (And.intro hB (own_below HH.out.2 hB))
  clear hW hB hbox hWb
  go_loopw [5, 6] (fun nv iv wr => ∃ i m : Nat, iv = .int .i64 (i : Int) ∧ nv = .int .i64 (manyR (rs.take i) ((d, t), x) : Int) ∧ i ≤ rs.length ∧ wr = W.drewN m)
    (fun _ iv _ => rs.length - natI iv)
  case atStart => exact ⟨0, 0, rfl, rfl, Nat.zero_le _, rfl⟩
  case round =>
    obtain ⟨i, m, rfl, rfl, hi, rfl⟩ := hrel
    by_cases hlast : i < rs.length
    · have hli : (i : Int) < (rs.length : Int) := by omega
      obtain ⟨g, rfl, hcap, hcells⟩ : ∃ g, p = some ⟨g, 0, none⟩ ∧ rs.length ≤ c ∧ ∀ k (hk : k < 3) (v : Value), (resCells rs[i])[k]? = some v → W.cell? ⟨g, i * 3 + k, none⟩ = some v := by
        have ho := HW.out.2
        rcases ho.2 with ⟨_, h0⟩ | ⟨g, cap, cur, e, _, _, hcap, _⟩
        · omega
        · injection e with e1 _ e3
          subst e1 e3
          exact ⟨g, rfl, hcap, fun k hk v hv => own_cell ho (by omega) (by rw [flat3 resCells (fun _ => rfl) _ i k hlast hk]; exact hv)⟩
      have c0 := hcells 0 (by omega) _ rfl
      have c1 := hcells 1 (by omega) _ rfl
      have c2 := hcells 2 (by omega) _ rfl
      rw [Nat.add_zero] at c0
      clear hcells
      have hms := manyR_succ rs ((d, t), x) hlast
      have hml := manyR_le (rs.take i) ((d, t), x)
      have hml2 : manyR (rs.take i) ((d, t), x) ≤ 1000000 := Nat.le_trans hml (by simp; omega)
      clear hml
      generalize rs[i] = ri at c0 c1 c2 hms
      obtain ⟨⟨rd, rt⟩, rx⟩ := ri
      dsimp only at c0 c1 c2
      have k3 : Tryd.prog.eqGuardType Tryd.prog.depth 56 = false := by kernel_rfl
      generalize manyR (rs.take i) ((d, t), x) = k at *
      by_cases heq : ((rd, rt), rx) = ((d, t), x)
      · injection heq with h1 h3
        injection h1 with h1 h2
        subst h1 h2 h3
        rw [if_pos rfl] at hms
        have hrun := fun w' => eq_result9_t w' (t := (rt : Int)) (x := (rx : Int)) (And.intro hds (And.intro rfl rfl))
        have HM := Lib.hid (And.intro hms hds)
        clear hms hds
        generalize (⟨rd.toArray⟩ : ByteArray) = rb at c0 hrun
        have hk : (k : Int) < 1000001 := by omega
        go_wp2_with fail
        go_quiet (fail)
        go_wp2
        go_roundw
        case rel => exact ⟨i + 1, _, by simp, by rw [HM.out.1]; simp, by omega, by first | rfl | exact World.drewN_drewN _ _ _⟩
        case measure => simp [natI]; omega
      · rw [if_neg heq] at hms
        have hd : ¬ ((⟨rd.toArray⟩ : ByteArray) = ds ∧ (rt : Int) = (t : Int) ∧ (rx : Int) = (x : Int)) := by
          rintro ⟨e1, e2, e3⟩
          apply heq
          rw [← hds] at e1
          injection e1 with e1
          have e1 : rd = d := by simpa using congrArg Array.toList e1
          rw [e1, show rt = t by omega, show rx = x by omega]
        have hrun := fun w' => eq_result9_f w' hd
        clear hd
        have HM := Lib.hid hms
        clear hms heq
        generalize (⟨rd.toArray⟩ : ByteArray) = rb at c0 hrun
        go_wp2_with fail
        go_quiet (fail)
        go_wp2
        go_roundw
        case rel => exact ⟨i + 1, _, by simp, by rw [HM.out]; simp, by omega, by first | rfl | exact World.drewN_drewN _ _ _⟩
        case measure => simp [natI]; omega
    · have hli : ¬ (i : Int) < (rs.length : Int) := by omega
      obtain rfl : i = rs.length := by omega
      rw [List.take_of_length_le (Nat.le_refl _)]
      go_wp2
      refine bodyPost_ret (v := .int .i64 (manyR rs ((d, t), x) : Int)) (by simp [results, Tryd.results71, go_sem]) rfl ⟨rfl, below_drewN HW.out.1 m⟩

set_option maxRecDepth 100000 in
theorem clear_any (b bm : Nat) (names : Int) (l : Ent) (w : World) (h : TallyAt w b bm names l) (hbb : b ≠ bm) :
    Calls Tryd.prog 20 #[.pointer (some ⟨b, 0, none⟩)] w fun e w' => e = .returned (.tuple #[]) ∧ w.grownBy w' (some bm) ∧ TallyAt w' b bm names [] := by
  obtain ⟨c0, c1⟩ := h.obj
  obtain ⟨o, hrun, hmap⟩ := run_clear_at (ty := 0) Tryd.underlying72 h.2 #[72] rfl
  have hg : w.grownBy (w.putObj bm o) (some bm) := ⟨rfl, rfl, rfl, by simp [World.putObj], fun k _ hk => World.putObj_heap_other (fun e => hk (by rw [e]))⟩
  have HT := Lib.hid (And.intro hg (show TallyAt (w.putObj bm o) b bm names [] from ⟨(hg.block b h.lt (fun e => hbb (Option.some.inj e))).trans h.1, hmap⟩))
  clear h hmap hg
  go_enter Tryd.func20, Tryd.ntmps20
  go_wp2
  go_end0
  exact ⟨rfl, HT.out.1, HT.out.2⟩
end Go.Proofs.YthhcigmdocldnaaDoor
