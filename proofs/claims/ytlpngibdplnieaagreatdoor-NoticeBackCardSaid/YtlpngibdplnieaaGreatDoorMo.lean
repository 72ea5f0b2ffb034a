/- Parts of the proof, joined: Nlrg, Nwkp, Nfl, Nsam, Nwk. -/
import Derived.Test.YtlpngibdplnieaaGreatDoorMc
import Derived.Test.YtlpngibdplnieaaGreatDoorMd
import Derived.Deep.CutRange
import Derived.Test.YtlpngibdplnieaaGreatDoorMn
import Derived.Test.YtlpngibdplnieaaGreatDoorMh
import Derived.Laws.StructEq
/- The laws' own helper: large. -/
namespace Go.Proofs.YtlpngibdplnieaaGreatDoor
open Go Go.RowKit Go.Shelf Go.Sort
attribute [local go_sem] bneI

/-- What an entry that is not large has. -/
structure SmallX (x : EntP) : Prop where
  sender : x.mail.sender.length < 9000
  envid : x.mail.envid.length < 9000
  text : x.mail.text.length < 9000
  rcpts : x.mail.rcpts.length < 1800
  tos : ∀ r ∈ x.mail.rcpts, r.1.length < 9000
  fates : x.fates.length < 1800
  texts : ∀ f ∈ x.fates, f.2.length < 9000
  jobs : x.jobs.length < 1800
  doms : ∀ j ∈ x.jobs, j.dom.length < 9000
theorem lgr_rel (n k l : Nat) : (n : Int) + (k : Int) + min 9000 (l : Int) = ((n + k + min 9000 l : Nat) : Int) := by omega
theorem lgr_wr1 {k : Nat} (h : k < 30000) : wrap64 ((k : Int) + 1) = (k : Int) + 1 := by unfold wrap64; omega
theorem lgr_wr5 {n : Nat} (h : n < 9000) : wrap64 ((n : Int) + 5) = (n : Int) + 5 := by unfold wrap64; omega
theorem lgr_wr10 {n : Nat} (h : n < 9000) : wrap64 ((n : Int) + 10) = (n : Int) + 10 := by unfold wrap64; omega
theorem lgr_wr5m {n l : Nat} (h : n < 9000) : wrap64 ((n : Int) + 5 + min 9000 (l : Int)) = (n : Int) + 5 + min 9000 (l : Int) := by unfold wrap64; omega
theorem lgr_wr10m {n l : Nat} (h : n < 9000) : wrap64 ((n : Int) + 10 + min 9000 (l : Int)) = (n : Int) + 10 + min 9000 (l : Int) := by unfold wrap64; omega
theorem lgr_rel5 (n l : Nat) : (n : Int) + 5 + min 9000 (l : Int) = ((n + 5 + min 9000 l : Nat) : Int) := by omega
theorem lgr_rel10 (n l : Nat) : (n : Int) + 10 + min 9000 (l : Int) = ((n + 10 + min 9000 l : Nat) : Int) := by omega
theorem lgr_s (k : Nat) : (k : Int) + 1 = ((k + 1 : Nat) : Int) := by omega
theorem lgr_k {a k n : Nat} (h : a + 5 * k ≤ n) (hn : n ≤ 27000) : k < 30000 := by omega
theorem lgr_len {a k n len : Nat} (h : a + 5 * k ≤ n) (hn : n < 9000) (hl : len ≤ k) : len < 1800 := by omega
theorem lgr_of_g {k len n : Nat} (hg : ¬ (k < len ∧ n < 9000)) (h : n < 9000) : len ≤ k := by omega
theorem lgr_a {a k n b : Nat} (h : a + 5 * k ≤ n) (hb : n < b) : a < b := by omega
theorem lgr_b5 {a k n l : Nat} (h : a + 5 * k ≤ n) : a + 5 * (k + 1) ≤ n + 5 + min 9000 l := by omega
theorem lgr_b10 {a k n l : Nat} (h : a + 5 * k ≤ n) : a + 5 * (k + 1) ≤ n + 10 + min 9000 l := by omega
theorem lgr_c5 {n l : Nat} (h : n < 9000) : n + 5 + min 9000 l ≤ 27000 := by omega
theorem lgr_c10 {n l : Nat} (h : n < 9000) : n + 10 + min 9000 l ≤ 27000 := by omega
theorem lgr_n5 {n l : Nat} (h : n + 5 + min 9000 l < 9000) : n < 9000 ∧ l < 9000 := by omega
theorem lgr_n10 {n l : Nat} (h : n + 10 + min 9000 l < 9000) : n < 9000 ∧ l < 9000 := by omega
def LargePost22 (x : EntP) (e : Ending) : Prop := ∃ v, e = .returned (.bool v) ∧ (v = false → SmallX x)
set_option maxRecDepth 100000 in
set_option maxHeartbeats 8000000 in
theorem large22_any (x : EntP) (sv fv jv : Value) (w : World) (hx : EntAt w x sv fv jv) :
    Calls Tryz.prog 8 #[entV x sv fv jv] w fun e w' => LargePost22 x e ∧ Below w.heap.size w w' := by
  obtain ⟨p, c, rfl, -⟩ := hx.rc.sh
  obtain ⟨q, d, rfl, -⟩ := hx.fa.sh
  obtain ⟨r, g, rfl, -⟩ := hx.jo.sh
  obtain ⟨W1, hW1⟩ : ∃ W1, W1 = w.alloc (.cells (entC x (.slice p x.mail.rcpts.length c) (.slice q x.fates.length d) (.slice r x.jobs.length g)).toArray 28) := ⟨_, rfl⟩
  have hB1 : Below w.heap.size w W1 := by rw [hW1]; exact (Below.refl _ w).alloc (Nat.le_refl _) _
  have hb1 : W1.heap[w.heap.size]? = some (.cells (entC x (.slice p x.mail.rcpts.length c) (.slice q x.fates.length d) (.slice r x.jobs.length g)).toArray 28 (0, 0)) := by rw [hW1]; exact ha_eq rfl
  have HX := Lib.hid (And.intro (hx.below hB1) (And.intro hB1 hb1))
  unfold entV
  unfold entC at hW1 hb1 ⊢
  obtain ⟨x0, x1, x2, x3, x4, x5, x6, x7, x8, x9⟩ := eboxAll hb1
  obtain ⟨bx, hbx⟩ : ∃ bx, bx = w.heap.size := ⟨_, rfl⟩
  clear hx hB1 hb1
  have a1 : wrap64 (min 9000 (x.mail.sender.length : Int) + min 9000 (x.mail.envid.length : Int)) = min 9000 (x.mail.sender.length : Int) + min 9000 (x.mail.envid.length : Int) := by unfold wrap64; omega
  have a2 : wrap64 (min 9000 (x.mail.sender.length : Int) + min 9000 (x.mail.envid.length : Int) + min 9000 (x.mail.text.length : Int)) = min 9000 (x.mail.sender.length : Int) + min 9000 (x.mail.envid.length : Int) + min 9000 (x.mail.text.length : Int) := by unfold wrap64; omega
  go_enter Tryz.func8, Tryz.ntmps8
  go_upto_region 1 with (fail)
  rw [← hW1]
  rw [← hbx] at x0 x1 x2 x3 x4 x5 x6 x7 x8 x9 ⊢
  clear hW1
  have HBX := Lib.hid hbx
  clear hbx
  go_wp2_with fail
  obtain ⟨n0, hn0⟩ : ∃ n0 : Nat, min 9000 (x.mail.sender.length : Int) + min 9000 (x.mail.envid.length : Int) + min 9000 (x.mail.text.length : Int) = (n0 : Int) := ⟨(min 9000 (x.mail.sender.length : Int) + min 9000 (x.mail.envid.length : Int) + min 9000 (x.mail.text.length : Int)).toNat, by omega⟩
  rw [hn0]
  have HN := Lib.hid (show n0 ≤ 27000 ∧ (n0 < 9000 → x.mail.sender.length < 9000 ∧ x.mail.envid.length < 9000 ∧ x.mail.text.length < 9000) by constructor <;> omega)
  have HC := Lib.hid (And.intro x3 (And.intro x8 x9))
  clear hn0 a1 a2 x0 x1 x2 x3 x4 x5 x6 x7 x8 x9
  go_loopw [3, 4] (fun s3 s4 wr => ∃ (i n : Nat), s3 = .int .i64 (n : Int) ∧ s4 = .int .i64 (i : Int) ∧ i ≤ x.mail.rcpts.length ∧ n0 + 5 * i ≤ n ∧ n ≤ 27000 ∧ (n < 9000 → ∀ y ∈ x.mail.rcpts.take i, y.1.length < 9000) ∧ Below W1.heap.size W1 wr) (fun _ s4 _ => x.mail.rcpts.length - natI s4)
  case atStart => exact ⟨0, n0, rfl, rfl, Nat.zero_le _, Nat.le_refl _, HN.out.1, by simp, Below.refl _ _⟩
  case round =>
    obtain ⟨i, n, rfl, rfl, hi, hin, hn, hts, hB⟩ := hrel
    have c8 := (hB.cell (p := ⟨_, _, none⟩) (cell_lt (HC.out.1))).trans (HC.out.1)
    have HR := Lib.hid (And.intro hin (And.intro hts hB))
    have HK := Lib.hid (And.intro (lgr_k hin hn) hn)
    clear hin hts hB hn
    go_upto_region 3 with (fail)
    go_cut [33] from 24 to 47 (fun s33 w' => s33 = .bool (decide (i < x.mail.rcpts.length ∧ n < 9000)) ∧ w' = wr)
    case first =>
      by_cases hkl : i < x.mail.rcpts.length
      · have hkli : (i : Int) < (x.mail.rcpts.length : Int) := by omega
        by_cases hsm2 : n < 9000
        · have hsi2 : (n : Int) < 9000 := by omega
          go_wp2
          go_meet
          case rel => exact ⟨by simp [hkl, hsm2], rfl⟩
        · have hsi2 : ¬ (n : Int) < 9000 := by omega
          go_wp2
          go_meet
          case rel => exact ⟨by simp [hkl, hsm2], rfl⟩
      · have hkli : ¬ (i : Int) < (x.mail.rcpts.length : Int) := by omega
        go_wp2
        go_meet
        case rel => exact ⟨by simp [hkl], rfl⟩
    case rest =>
      obtain ⟨rfl, rfl⟩ := hcut
      by_cases hg : i < x.mail.rcpts.length ∧ n < 9000
      · rw [decide_eq_true hg]
        obtain ⟨hkl, hsm2⟩ := hg
        have hkli : (i : Int) < (x.mail.rcpts.length : Int) := by omega
        obtain ⟨b2, o2, rfl, hc⟩ := (HX.out.1.rc.below HR.out.2.2).at i hkl
        have y0 : wc.cell? ⟨b2, o2 + i * 2, none⟩ = some (.string ⟨x.mail.rcpts[i].1.toArray⟩) := hc i hkl 0 _ rfl
        clear hc
        have htk : x.mail.rcpts.take (i + 1) = x.mail.rcpts.take i ++ [x.mail.rcpts[i]] := List.take_succ_eq_append_getElem hkl
        obtain ⟨f, hf⟩ : ∃ f, f = x.mail.rcpts[i] := ⟨_, rfl⟩
        rw [← hf] at y0 htk
        clear hf
        have hw1 := lgr_wr1 HK.out.1
        have a1 := lgr_wr10 hsm2
        have a2 := lgr_wr10m (l := f.1.length) hsm2
        have hnx : n + 10 + min 9000 f.1.length < 9000 → ∀ y ∈ x.mail.rcpts.take (i + 1), y.1.length < 9000 := by
          intro hlt y hy
          rw [htk] at hy
          rcases List.mem_append.1 hy with hy | hy
          · exact HR.out.2.1 (lgr_n10 hlt).1 y hy
          · have : y = f := by simpa using hy
            subst this
            exact (lgr_n10 hlt).2
        have HNX := Lib.hid hnx
        clear hnx htk
        go_wp2
        go_roundw
        case rel => exact ⟨i + 1, n + 10 + min 9000 f.1.length, congrArg (Value.int .i64) (lgr_rel10 _ _), congrArg (Value.int .i64) (hw1.trans (lgr_s _)), hkl, lgr_b10 HR.out.1, lgr_c10 hsm2, HNX.out, HR.out.2.2⟩
        case measure => (simp [natI, hw1]; omega)
      · rw [decide_eq_false hg]
        have hS : (n < 9000 → x.mail.sender.length < 9000 ∧ x.mail.envid.length < 9000 ∧ x.mail.text.length < 9000 ∧ x.mail.rcpts.length < 1800 ∧ ∀ r ∈ x.mail.rcpts, r.1.length < 9000) := fun h => ⟨(HN.out.2 (lgr_a HR.out.1 h)).1, (HN.out.2 (lgr_a HR.out.1 h)).2.1, (HN.out.2 (lgr_a HR.out.1 h)).2.2, lgr_len HR.out.1 h (lgr_of_g hg h), fun y hy => HR.out.2.1 h y (by rw [List.take_of_length_le (lgr_of_g hg h)]; exact hy)⟩
        have HS1 := Lib.hid (And.intro HK.out.2 (And.intro hS HR.out.2.2))
        clear hS hg hi HR HK c8
        go_wp2_with fail
        generalize hww : wc = wq1 at *
        generalize hnn : n = n1 at *
        clear hww hnn
        go_loopw [3, 5] (fun s3 s5 wr => ∃ (i n : Nat), s3 = .int .i64 (n : Int) ∧ s5 = .int .i64 (i : Int) ∧ i ≤ x.fates.length ∧ n1 + 5 * i ≤ n ∧ n ≤ 27000 ∧ (n < 9000 → ∀ y ∈ x.fates.take i, y.2.length < 9000) ∧ Below W1.heap.size W1 wr) (fun _ s5 _ => x.fates.length - natI s5)
        case atStart => exact ⟨0, n1, rfl, rfl, Nat.zero_le _, Nat.le_refl _, HS1.out.1, by simp, HS1.out.2.2⟩
        case round =>
          obtain ⟨i, n, rfl, rfl, hi, hin, hn, hts, hB⟩ := hrel
          have c8 := (hB.cell (p := ⟨_, _, none⟩) (cell_lt (HC.out.2.1))).trans (HC.out.2.1)
          have HR := Lib.hid (And.intro hin (And.intro hts hB))
          have HK := Lib.hid (And.intro (lgr_k hin hn) hn)
          clear hin hts hB hn
          go_upto_region 7 with (fail)
          go_cut [56] from 48 to 69 (fun s56 w' => s56 = .bool (decide (i < x.fates.length ∧ n < 9000)) ∧ w' = wr)
          case first =>
            by_cases hkl : i < x.fates.length
            · have hkli : (i : Int) < (x.fates.length : Int) := by omega
              by_cases hsm2 : n < 9000
              · have hsi2 : (n : Int) < 9000 := by omega
                go_wp2
                go_meet
                case rel => exact ⟨by simp [hkl, hsm2], rfl⟩
              · have hsi2 : ¬ (n : Int) < 9000 := by omega
                go_wp2
                go_meet
                case rel => exact ⟨by simp [hkl, hsm2], rfl⟩
            · have hkli : ¬ (i : Int) < (x.fates.length : Int) := by omega
              go_wp2
              go_meet
              case rel => exact ⟨by simp [hkl], rfl⟩
          case rest =>
            obtain ⟨rfl, rfl⟩ := hcut
            by_cases hg : i < x.fates.length ∧ n < 9000
            · rw [decide_eq_true hg]
              obtain ⟨hkl, hsm2⟩ := hg
              have hkli : (i : Int) < (x.fates.length : Int) := by omega
              obtain ⟨b2, o2, rfl, hc⟩ := (HX.out.1.fa.below HR.out.2.2).at i hkl
              have y0 : wc.cell? ⟨b2, o2 + i * 2 + 1, none⟩ = some (.string ⟨x.fates[i].2.toArray⟩) := hc i hkl 1 _ rfl
              clear hc
              have htk : x.fates.take (i + 1) = x.fates.take i ++ [x.fates[i]] := List.take_succ_eq_append_getElem hkl
              obtain ⟨f, hf⟩ : ∃ f, f = x.fates[i] := ⟨_, rfl⟩
              rw [← hf] at y0 htk
              clear hf
              have hw1 := lgr_wr1 HK.out.1
              have a1 := lgr_wr5 hsm2
              have a2 := lgr_wr5m (l := f.2.length) hsm2
              have hnx : n + 5 + min 9000 f.2.length < 9000 → ∀ y ∈ x.fates.take (i + 1), y.2.length < 9000 := by
                intro hlt y hy
                rw [htk] at hy
                rcases List.mem_append.1 hy with hy | hy
                · exact HR.out.2.1 (lgr_n5 hlt).1 y hy
                · have : y = f := by simpa using hy
                  subst this
                  exact (lgr_n5 hlt).2
              have HNX := Lib.hid hnx
              clear hnx htk
              go_wp2
              go_roundw
              case rel => exact ⟨i + 1, n + 5 + min 9000 f.2.length, congrArg (Value.int .i64) (lgr_rel5 _ _), congrArg (Value.int .i64) (hw1.trans (lgr_s _)), hkl, lgr_b5 HR.out.1, lgr_c5 hsm2, HNX.out, HR.out.2.2⟩
              case measure => (simp [natI, hw1]; omega)
            · rw [decide_eq_false hg]
              have hS : (n < 9000 → (x.mail.sender.length < 9000 ∧ x.mail.envid.length < 9000 ∧ x.mail.text.length < 9000 ∧ x.mail.rcpts.length < 1800 ∧ ∀ r ∈ x.mail.rcpts, r.1.length < 9000) ∧ x.fates.length < 1800 ∧ ∀ f ∈ x.fates, f.2.length < 9000) := fun h => ⟨HS1.out.2.1 (lgr_a HR.out.1 h), lgr_len HR.out.1 h (lgr_of_g hg h), fun y hy => HR.out.2.1 h y (by rw [List.take_of_length_le (lgr_of_g hg h)]; exact hy)⟩
              have HS2 := Lib.hid (And.intro HK.out.2 (And.intro hS HR.out.2.2))
              clear hS hg hi HR HK c8
              go_wp2_with fail
              generalize hww : wc = wq2 at *
              generalize hnn : n = n2 at *
              clear hww hnn
              go_loopw [3, 6] (fun s3 s6 wr => ∃ (i n : Nat), s3 = .int .i64 (n : Int) ∧ s6 = .int .i64 (i : Int) ∧ i ≤ x.jobs.length ∧ n2 + 5 * i ≤ n ∧ n ≤ 27000 ∧ (n < 9000 → ∀ y ∈ x.jobs.take i, y.dom.length < 9000) ∧ Below W1.heap.size W1 wr) (fun _ s6 _ => x.jobs.length - natI s6)
              case atStart => exact ⟨0, n2, rfl, rfl, Nat.zero_le _, Nat.le_refl _, HS2.out.1, by simp, HS2.out.2.2⟩
              case round =>
                obtain ⟨i, n, rfl, rfl, hi, hin, hn, hts, hB⟩ := hrel
                have c8 := (hB.cell (p := ⟨_, _, none⟩) (cell_lt (HC.out.2.2))).trans (HC.out.2.2)
                have HR := Lib.hid (And.intro hin (And.intro hts hB))
                have HK := Lib.hid (And.intro (lgr_k hin hn) hn)
                clear hin hts hB hn
                go_upto_region 11 with (fail)
                go_cut [78] from 70 to 91 (fun s78 w' => s78 = .bool (decide (i < x.jobs.length ∧ n < 9000)) ∧ w' = wr)
                case first =>
                  by_cases hkl : i < x.jobs.length
                  · have hkli : (i : Int) < (x.jobs.length : Int) := by omega
                    by_cases hsm2 : n < 9000
                    · have hsi2 : (n : Int) < 9000 := by omega
                      go_wp2
                      go_meet
                      case rel => exact ⟨by simp [hkl, hsm2], rfl⟩
                    · have hsi2 : ¬ (n : Int) < 9000 := by omega
                      go_wp2
                      go_meet
                      case rel => exact ⟨by simp [hkl, hsm2], rfl⟩
                  · have hkli : ¬ (i : Int) < (x.jobs.length : Int) := by omega
                    go_wp2
                    go_meet
                    case rel => exact ⟨by simp [hkl], rfl⟩
                case rest =>
                  obtain ⟨rfl, rfl⟩ := hcut
                  by_cases hg : i < x.jobs.length ∧ n < 9000
                  · rw [decide_eq_true hg]
                    obtain ⟨hkl, hsm2⟩ := hg
                    have hkli : (i : Int) < (x.jobs.length : Int) := by omega
                    obtain ⟨b2, o2, rfl, hc⟩ := (HX.out.1.jo.below HR.out.2.2).at i hkl
                    have y0 : wc.cell? ⟨b2, o2 + i * 3, none⟩ = some (.string ⟨x.jobs[i].dom.toArray⟩) := hc i hkl 0 _ rfl
                    clear hc
                    have htk : x.jobs.take (i + 1) = x.jobs.take i ++ [x.jobs[i]] := List.take_succ_eq_append_getElem hkl
                    obtain ⟨f, hf⟩ : ∃ f, f = x.jobs[i] := ⟨_, rfl⟩
                    rw [← hf] at y0 htk
                    clear hf
                    have hw1 := lgr_wr1 HK.out.1
                    have a1 := lgr_wr5 hsm2
                    have a2 := lgr_wr5m (l := f.dom.length) hsm2
                    have hnx : n + 5 + min 9000 f.dom.length < 9000 → ∀ y ∈ x.jobs.take (i + 1), y.dom.length < 9000 := by
                      intro hlt y hy
                      rw [htk] at hy
                      rcases List.mem_append.1 hy with hy | hy
                      · exact HR.out.2.1 (lgr_n5 hlt).1 y hy
                      · have : y = f := by simpa using hy
                        subst this
                        exact (lgr_n5 hlt).2
                    have HNX := Lib.hid hnx
                    clear hnx htk
                    go_wp2
                    go_roundw
                    case rel => exact ⟨i + 1, n + 5 + min 9000 f.dom.length, congrArg (Value.int .i64) (lgr_rel5 _ _), congrArg (Value.int .i64) (hw1.trans (lgr_s _)), hkl, lgr_b5 HR.out.1, lgr_c5 hsm2, HNX.out, HR.out.2.2⟩
                    case measure => (simp [natI, hw1]; omega)
                  · rw [decide_eq_false hg]
                    have hS : (n < 9000 → SmallX x) := fun h => by
                        have h2 := HS2.out.2.1 (lgr_a HR.out.1 h)
                        exact ⟨h2.1.1, h2.1.2.1, h2.1.2.2.1, h2.1.2.2.2.1, h2.1.2.2.2.2, h2.2.1, h2.2.2, lgr_len HR.out.1 h (lgr_of_g hg h), fun y hy => HR.out.2.1 h y (by rw [List.take_of_length_le (lgr_of_g hg h)]; exact hy)⟩
                    have HS3 := Lib.hid (And.intro HK.out.2 (And.intro hS HR.out.2.2))
                    clear hS hg hi HR HK c8
                    have hfin : decide (9000 ≤ (n : Int)) = false → SmallX x := fun h => HS3.out.2.1 (by have h3 := of_decide_eq_false h; omega)
                    have HF := Lib.hid hfin
                    clear hfin
                    go_wp2
                    refine bodyPost_ret (v := .bool (decide (9000 ≤ (n : Int)))) (by simp [results, Tryz.results8, go_sem]) rfl ⟨⟨_, rfl, HF.out⟩, HX.out.2.1.trans (HS3.out.2.2.mono HX.out.2.1.size)⟩
end Go.Proofs.YtlpngibdplnieaaGreatDoor

/- The examples of law 22: what they come to, in plain Lean. -/
namespace Go.Proofs.YtlpngibdplnieaaGreatDoor
open Go

def failM (never : Bool) : MailP := ⟨[97, 64, 98, 46, 99], [([120, 64, 100, 46, 101], never)], false, [], []⟩
def failL : List FaP := [(2, [110, 111])]
def failX (never : Bool) : EntP := (endN (makeN 7 100 (failM never)) [100, 46, 101] failL 160).1
def hB : Bytes := [104]
def failN : NotP := ⟨9, hB, [97, 64, 98, 46, 99], [], 100, [⟨[120, 64, 100, 46, 101], [53, 46, 48, 46, 48], [110, 111]⟩]⟩
theorem fail_end (never : Bool) : endN (makeN 7 100 (failM never)) [100, 46, 101] failL 160 = (failX never, 0) := by
  cases never <;> decide +kernel
theorem fail_made : madeN hB (failX false) 9 = (failN, true) := by decide +kernel
theorem fail_none : madeN hB (failX true) 9 = (noNot, false) := by decide +kernel
theorem stat_one : statusOf [53, 53, 48, 32, 53, 46, 49, 46, 49, 32, 110, 111] = [53, 46, 49, 46, 49] := by decide +kernel
theorem stat_two : statusOf [120, 32, 52, 46, 49, 46, 49, 32, 53, 46, 49] = [53, 46, 48, 46, 48] := by decide +kernel
theorem failM_short (never : Bool) : ShortM (failM never) := by
  cases never <;> exact ⟨by decide, by decide, by decide, by decide, by decide⟩
theorem fail_before (never : Bool) : ShortE (makeN 7 100 (failM never)) := ⟨failM_short never, by cases never <;> decide +kernel, by cases never <;> decide +kernel, by cases never <;> decide +kernel, by cases never <;> decide +kernel, by cases never <;> decide +kernel⟩
theorem failX_short (never : Bool) : ShortE (failX never) := ⟨by cases never <;> exact ⟨by decide +kernel, by decide +kernel, by decide +kernel, by decide +kernel, by decide +kernel⟩, by cases never <;> decide +kernel, by cases never <;> decide +kernel, by cases never <;> decide +kernel, by cases never <;> decide +kernel, by cases never <;> decide +kernel⟩
theorem fail_tries (never : Bool) : ∀ j ∈ (makeN 7 100 (failM never)).jobs, -9223372036854775808 ≤ j.tries ∧ j.tries ≤ 9223372036854775807 := by
  cases never <;> decide +kernel
end Go.Proofs.YtlpngibdplnieaaGreatDoor

/- The laws' own helper: failed. -/
namespace Go.Proofs.YtlpngibdplnieaaGreatDoor
open Go Go.RowKit Go.Shelf Go.Sort
attribute [local go_sem] bneI

theorem row_one1 {w : World} {T : TypeId} {b k : Nat} {α : Type} {enc : α → List Value} {x : α} {cs : Array Value} (h : w.heap[b]? = some (.cells cs T (0, 0))) (hc : cs.toList = enc x) : RowK k enc w (.slice (some ⟨b, 0, none⟩) 1 1) [x] := by
  refine ⟨some ⟨b, 0, none⟩, 1, rfl, Nat.le_refl _, fun _ => ⟨b, 0, rfl, fun i hi j u hu => ?_⟩⟩
  have hi0 : i = 0 := by
    have : ([x] : List α).length = 1 := rfl
    omega
  subst hi0
  simp only [World.cell?, h]
  rw [show 0 + 0 * k + j = j by omega, ← Array.getElem?_toList, hc]
  exact hu
def FailPost (never : Bool) (e : Ending) (w' : World) : Prop := ∃ sv fv jv, e = .returned (entV (failX never) sv fv jv) ∧ EntAt w' (failX never) sv fv jv
set_option maxRecDepth 100000 in
set_option maxHeartbeats 4000000 in
theorem failed_any (never : Bool) (w : World) (hE : Env w) : Calls Tryz.prog 38 #[.bool never] w fun e w' => FailPost never e w' ∧ Below w.heap.size w w' := by
  obtain ⟨W1, hW1⟩ : ∃ W1, W1 = (w.alloc (.cells zeroC 28)).alloc (.cells #[.string ⟨#[120, 64, 100, 46, 101]⟩, .bool never] 57) := ⟨_, rfl⟩
  have hB1 : Below w.heap.size w W1 := by rw [hW1]; exact ((Below.refl _ w).alloc (Nat.le_refl _) _).alloc (by simp) _
  have hb0 : W1.heap[w.heap.size]? = some (.cells zeroC 28 (0, 0)) := by rw [hW1]; exact (ha_ne (by simp)).trans (ha_eq rfl)
  have hb1 : W1.heap[w.heap.size + 1]? = some (.cells #[.string ⟨#[120, 64, 100, 46, 101]⟩, .bool never] 57 (0, 0)) := by rw [hW1]; exact ha_eq (by simp)
  have hr : RowK 2 rcE W1 (.slice (some ⟨w.heap.size + 1, 0, none⟩) 1 1) (failM never).rcpts := row_one1 hb1 rfl
  have hMk := make_any 7 100 (failM never) _ W1 hr (failM_short never) (hE.keep hB1)
  unfold mailV mailC at hMk
  have hMk : Calls Tryz.prog 46 #[.int .i64 7, .int .i64 100, .agg #[.string ⟨#[97, 64, 98, 46, 99]⟩, .slice (some ⟨w.heap.size + 1, 0, none⟩) 1 1, .bool false, .string ⟨#[]⟩, .string ⟨#[]⟩]] W1 fun e w' => CopyPost W1 (makeN 7 100 (failM never)) e w' ∧ Below W1.heap.size W1 w' := hMk
  have HB := Lib.hid (And.intro hB1 (And.intro hb0 hE))
  clear hB1 hb0 hb1 hr hE
  go_enter Tryz.func38, Tryz.ntmps38
  unfold zeroC at hW1
  go_wp2_with fail
  rw [← hW1]
  clear hW1
  refine hMk.mono ?_
  rintro e w2 ⟨⟨sv, fv, jv, rfl, hown⟩, hb2⟩
  clear hMk
  have hsh := fail_before never
  have htr := fail_tries never
  have hend := fail_end never
  have HX := Lib.hid (failX_short never)
  obtain ⟨y, hy⟩ : ∃ y, y = failX never := ⟨_, rfl⟩
  have HY := Lib.hid hy
  rw [← hy] at hend HX
  generalize makeN 7 100 (failM never) = x at *
  obtain ⟨p1, c1, rfl⟩ := own_shape hown.rc
  obtain ⟨p2, c2, rfl⟩ := own_shape hown.fa
  obtain ⟨p3, c3, rfl⟩ := own_shape hown.jo
  have H2 := Lib.hid (And.intro hown (And.intro hb2 (And.intro hsh (And.intro htr hend))))
  clear hown hb2 hsh htr hend hy
  unfold entV entC
  go_upto_region 2 with (fail)
  obtain ⟨w3, hw3⟩ : ∃ w3, w3 = w2.alloc (.cells (entC x (.slice p1 x.mail.rcpts.length c1) (.slice p2 x.fates.length c2) (.slice p3 x.jobs.length c3)).toArray 28) := ⟨_, rfl⟩
  have hb3 : Below w2.heap.size w2 w3 := by rw [hw3]; exact (Below.refl _ _).alloc (Nat.le_refl _) _
  have hx3 : w3.heap[w2.heap.size]? = some (.cells (entC x (.slice p1 x.mail.rcpts.length c1) (.slice p2 x.fates.length c2) (.slice p3 x.jobs.length c3)).toArray 28 (0, 0)) := by rw [hw3]; exact ha_eq rfl
  have hsz : w3.heap.size = w2.heap.size + 1 := by rw [hw3]; show (w2.heap.push _).size = _; exact Array.size_push _
  unfold entC at hw3
  have h23 := H2.out.2.1
  have hge : w.heap.size < w2.heap.size := Nat.lt_of_lt_of_le (lt_of_cells HB.out.2.1) h23.size
  obtain ⟨b3, hb3e⟩ : ∃ b3, b3 = w2.heap.size := ⟨_, rfl⟩
  rw [← hb3e] at hx3 hsz hge ⊢
  rw [← hw3]
  have H3 := Lib.hid (And.intro ((H2.out.2.1).trans (hb3.mono h23.size)) (And.intro hx3 (And.intro (H2.out.1.at.below hb3) hge)))
  clear hw3 hb3 hb3e h23
  unfold entC at hx3
  obtain ⟨x0, x1, x2, x3, x4, x5, x6, x7, x8, x9⟩ := eboxAll hx3
  clear hx3 hsz hge
  go_wp2_with fail
  generalize hw4 : World.alloc _ _ = w4
  have hb4 : Below w3.heap.size w3 w4 := by rw [← hw4]; exact (Below.refl _ _).alloc (Nat.le_refl _) _
  have hx4 : w4.heap[w3.heap.size]? = some (.cells #[.int .u8 2, .string ⟨#[110, 111]⟩] 61 (0, 0)) := by rw [← hw4]; exact ha_eq rfl
  have hb14 := H3.out.1.trans (hb4.mono H3.out.1.size)
  have hEd := end_any x [100, 46, 101] failL 160 _ _ _ _ w4 (H3.out.2.2.1.below hb4) H2.out.2.2.1 (row_one1 (enc := faE) (x := ((2, [110, 111]) : FaP)) hx4 rfl) (by decide) (by decide) H2.out.2.2.2.1 (HB.out.2.2.keep (HB.out.1.trans (hb14.mono HB.out.1.size)))
  have H4 := Lib.hid (And.intro hb14 ((hb4.block _ (lt_of_cells H3.out.2.1)).trans H3.out.2.1))
  unfold entV entC at hEd
  clear hw4 hb4 hx4 hb14 x0 x1 x2 x3 x4 x5 x6 x7 x8 x9
  refine hEd.mono ?_
  rintro e w5 ⟨⟨sv5, fv5, jv5, rfl, ho5⟩, hb5⟩
  clear hEd
  rw [H2.out.2.2.2.2] at ho5 ⊢
  dsimp only at ho5 ⊢
  obtain ⟨q1, d1, rfl⟩ := own_shape ho5.rc
  obtain ⟨q2, d2, rfl⟩ := own_shape ho5.fa
  obtain ⟨q3, d3, rfl⟩ := own_shape ho5.jo
  have hz3 := (hb5.block _ (lt_of_cells H4.out.2)).trans H4.out.2
  have hB5 := HB.out.1.trans ((H4.out.1.trans (hb5.mono H4.out.1.size)).mono HB.out.1.size)
  have hz0 : w5.heap[w.heap.size]? = some (.cells zeroC 28 (0, 0)) := by
    have h1 := (H4.out.1.block _ (lt_of_cells HB.out.2.1)).trans HB.out.2.1
    exact (hb5.block _ (lt_of_cells h1)).trans h1
  have hne : w.heap.size ≠ b3 := by have := H3.out.2.2.2; omega
  obtain ⟨W7, hW7⟩ : ∃ W7, W7 = setAll w5 b3 (.int .i64 y.id) (.int .i64 y.at_) (.string ⟨y.mail.sender.toArray⟩) (.slice q1 y.mail.rcpts.length d1) (.bool y.mail.req) (.string ⟨y.mail.envid.toArray⟩) (.string ⟨y.mail.text.toArray⟩) (.bool y.plain) (.slice q2 y.fates.length d2) (.slice q3 y.jobs.length d3) := ⟨_, rfl⟩
  have ho7 : OwnE W7 w4.heap.size y (.slice q1 y.mail.rcpts.length d1) (.slice q2 y.fates.length d2) (.slice q3 y.jobs.length d3) := by rw [hW7]; exact ⟨own_set ho5.rc hz3 (by decide) _ _ _ _ _ _ _ _ _ _, own_set ho5.fa hz3 (by decide) _ _ _ _ _ _ _ _ _ _, own_set ho5.jo hz3 (by decide) _ _ _ _ _ _ _ _ _ _⟩
  have hB7 : Below w.heap.size w W7 := by rw [hW7]; exact setAll_below hB5 (by have := H3.out.2.2.2; omega) _ _ _ _ _ _ _ _ _ _
  have hz7 : W7.heap[w.heap.size]? = some (.cells zeroC 28 (0, 0)) := by rw [hW7, setAll_other _ _ _ _ _ _ _ _ _ _ hne]; exact hz0
  unfold entC at hz3
  have hb7 : W7.heap[b3]? = some (.cells #[.int .i64 y.id, .int .i64 y.at_, .string ⟨y.mail.sender.toArray⟩, .slice q1 y.mail.rcpts.length d1, .bool y.mail.req, .string ⟨y.mail.envid.toArray⟩, .string ⟨y.mail.text.toArray⟩, .bool y.plain, .slice q2 y.fates.length d2, .slice q3 y.jobs.length d3] 28 (0, 0)) := by rw [hW7]; exact setAll_box hz3 _ _ _ _ _ _ _ _ _ _
  unfold setAll at hW7
  obtain ⟨x0, x1, x2, x3, x4, x5, x6, x7, x8, x9⟩ := eboxAll hz3
  have f0 := efroz hz3 0
  have f1 := efroz hz3 1
  have f2 := efroz hz3 2
  have f3 := efroz hz3 3
  have f4 := efroz hz3 4
  have f5 := efroz hz3 5
  have f6 := efroz hz3 6
  have f7 := efroz hz3 7
  have f8 := efroz hz3 8
  have f9 := efroz hz3 9
  have H7 := Lib.hid (And.intro ho7 (And.intro hB7 (And.intro hz7 hb7)))
  clear ho5 hb5 hz3 hz0 hB5 ho7 hB7 hz7 hb7 hne
  unfold entV entC
  go_upto_region 3 with (fail)
  rw [← hW7]
  clear hW7 x0 x1 x2 x3 x4 x5 x6 x7 x8 x9 f0 f1 f2 f3 f4 f5 f6 f7 f8 f9
  obtain ⟨ho7, hB7, hz7, hb7⟩ := H7.out
  obtain ⟨W8, hW8⟩ : ∃ W8, W8 = setAll W7 w.heap.size (.int .i64 y.id) (.int .i64 y.at_) (.string ⟨y.mail.sender.toArray⟩) (.slice q1 y.mail.rcpts.length d1) (.bool y.mail.req) (.string ⟨y.mail.envid.toArray⟩) (.string ⟨y.mail.text.toArray⟩) (.bool y.plain) (.slice q2 y.fates.length d2) (.slice q3 y.jobs.length d3) := ⟨_, rfl⟩
  have ho8 : OwnE W8 w4.heap.size y (.slice q1 y.mail.rcpts.length d1) (.slice q2 y.fates.length d2) (.slice q3 y.jobs.length d3) := by rw [hW8]; exact ⟨own_set ho7.rc hz7 (by decide) _ _ _ _ _ _ _ _ _ _, own_set ho7.fa hz7 (by decide) _ _ _ _ _ _ _ _ _ _, own_set ho7.jo hz7 (by decide) _ _ _ _ _ _ _ _ _ _⟩
  have hB8 : Below w.heap.size w W8 := by rw [hW8]; exact setAll_below hB7 (Nat.le_refl _) _ _ _ _ _ _ _ _ _ _
  unfold zeroC at hz7
  have hb8 : W8.heap[w.heap.size]? = some (.cells #[.int .i64 y.id, .int .i64 y.at_, .string ⟨y.mail.sender.toArray⟩, .slice q1 y.mail.rcpts.length d1, .bool y.mail.req, .string ⟨y.mail.envid.toArray⟩, .string ⟨y.mail.text.toArray⟩, .bool y.plain, .slice q2 y.fates.length d2, .slice q3 y.jobs.length d3] 28 (0, 0)) := by rw [hW8]; exact setAll_box hz7 _ _ _ _ _ _ _ _ _ _
  unfold setAll at hW8
  obtain ⟨x0, x1, x2, x3, x4, x5, x6, x7, x8, x9⟩ := eboxAll hb7
  obtain ⟨g0, g1, g2, g3, g4, g5, g6, g7, g8, g9⟩ := eboxAll hz7
  have f0 := efroz hz7 0
  have f1 := efroz hz7 1
  have f2 := efroz hz7 2
  have f3 := efroz hz7 3
  have f4 := efroz hz7 4
  have f5 := efroz hz7 5
  have f6 := efroz hz7 6
  have f7 := efroz hz7 7
  have f8 := efroz hz7 8
  have f9 := efroz hz7 9
  have H8 := Lib.hid (And.intro ho8 (And.intro hB8 hb8))
  clear ho7 hB7 hz7 hb7 ho8 hB8 hb8
  go_wp2
  rw [← hW8]
  clear hW8 x0 x1 x2 x3 x4 x5 x6 x7 x8 x9 f0 f1 f2 f3 f4 f5 f6 f7 f8 f9 g0 g1 g2 g3 g4 g5 g6 g7 g8 g9
  obtain ⟨ho8, hB8, hb8⟩ := H8.out
  obtain ⟨t0, t1, t2, t3, t4, t5, t6, t7, t8, t9⟩ := eboxAll hb8
  refine bodyPost_ret (v := entV y (.slice q1 y.mail.rcpts.length d1) (.slice q2 y.fates.length d2) (.slice q3 y.jobs.length d3)) (by simp [results, Tryz.results38, go_sem, t0, t1, t2, t3, t4, t5, t6, t7, t8, t9, entV, entC]) rfl ⟨⟨_, _, _, by rw [← HY.out], by rw [← HY.out]; exact ho8.at⟩, hB8⟩
end Go.Proofs.YtlpngibdplnieaaGreatDoor

/- notice.Same of notices that read alike. -/
namespace Go.Proofs.YtlpngibdplnieaaGreatDoor
open Go Go.RowKit Go.Shelf Go.Sort
attribute [local go_sem] bneI

set_option maxRecDepth 100000 in
set_option maxHeartbeats 4000000 in
theorem sameFl_any (xs : List FlP) (u v : Value) (w : World) (hu : RowK 3 flE w u xs) (hv : RowK 3 flE w v xs) (hn : xs.length ≤ 1000000) :
    Calls Tryz.prog 96 #[u, v] w fun e w' => e = .returned (.bool true) ∧ Below w.heap.size w w' := by
  obtain ⟨p, c, rfl, -⟩ := hu.sh
  obtain ⟨q, d, rfl, -⟩ := hv.sh
  have HX := Lib.hid (And.intro hu hv)
  clear hu hv
  go_enter Tryz.func96, Tryz.ntmps96
  go_wp2_with fail
  go_loopw [13] (fun s13 wr => ∃ (i : Nat), s13 = .int .i64 (i : Int) ∧ i ≤ xs.length ∧ Below w.heap.size w wr) (fun s13 _ => xs.length - natI s13)
  case atStart => exact ⟨0, rfl, Nat.zero_le _, Below.refl _ _⟩
  case round =>
    obtain ⟨i, rfl, hi, hB⟩ := hrel
    have HR := Lib.hid hB
    clear hB
    by_cases hlast : i < xs.length
    · have hli : (i : Int) < (xs.length : Int) := by omega
      have hw1 : wrap64 ((i : Int) + 1) = (i : Int) + 1 := by unfold wrap64; omega
      have hb := HR.out
      obtain ⟨b1, o1, e1, h1⟩ := (HX.out.1.below hb).at i hlast
      obtain ⟨b2, o2, e2, h2⟩ := (HX.out.2.below hb).at i hlast
      clear hb
      subst e1
      subst e2
      obtain ⟨x, hx⟩ : ∃ x, xs[i] = x := ⟨_, rfl⟩
      replace h1 := h1 i hlast
      replace h2 := h2 i hlast
      rw [hx] at h1 h2
      have y10 : wr.cell? ⟨b1, o1 + i * 3, none⟩ = some (.string ⟨x.dest.toArray⟩) := h1 0 _ rfl
      have y11 : wr.cell? ⟨b1, o1 + i * 3 + 1, none⟩ = some (.string ⟨x.status.toArray⟩) := h1 1 _ rfl
      have y12 : wr.cell? ⟨b1, o1 + i * 3 + 2, none⟩ = some (.string ⟨x.text.toArray⟩) := h1 2 _ rfl
      have y20 : wr.cell? ⟨b2, o2 + i * 3, none⟩ = some (.string ⟨x.dest.toArray⟩) := h2 0 _ rfl
      have y21 : wr.cell? ⟨b2, o2 + i * 3 + 1, none⟩ = some (.string ⟨x.status.toArray⟩) := h2 1 _ rfl
      have y22 : wr.cell? ⟨b2, o2 + i * 3 + 2, none⟩ = some (.string ⟨x.text.toArray⟩) := h2 2 _ rfl
      clear h1 h2 hx
      go_upto_region 6 with (fail)
      go_quiet (fail)
      go_wp2
      go_roundw
      case rel => exact ⟨i + 1, by simp, hlast, HR.out.trans ((below_drewN (Below.refl _ _) _).mono HR.out.size)⟩
      case measure => simp [natI]; omega
    · have hli : ¬ (i : Int) < (xs.length : Int) := by omega
      go_wp2
      refine bodyPost_ret (v := .bool true) (by simp [results, Tryz.results96, go_sem]) rfl ⟨rfl, HR.out⟩

theorem nbox {W : World} {b : Nat} {v0 v1 v2 v3 v4 v5 : Value} {t : TypeId} (h : W.heap[b]? = some (.cells #[v0, v1, v2, v3, v4, v5] t (0, 0))) : W.cell? ⟨b, 0, none⟩ = some v0 ∧ W.cell? ⟨b, 1, none⟩ = some v1 ∧ W.cell? ⟨b, 2, none⟩ = some v2 ∧ W.cell? ⟨b, 3, none⟩ = some v3 ∧ W.cell? ⟨b, 4, none⟩ = some v4 ∧ W.cell? ⟨b, 5, none⟩ = some v5 := by
  simp [World.cell?, h]
set_option maxRecDepth 100000 in
set_option maxHeartbeats 4000000 in
theorem sameNot_any (n : NotP) (u v : Value) (w : World) (hu : RowK 3 flE w u n.failed) (hv : RowK 3 flE w v n.failed) (hn : n.failed.length ≤ 1000000) :
    Calls Tryz.prog 33 #[notV n u, notV n v] w fun e w' => e = .returned (.bool true) ∧ Below w.heap.size w w' := by
  obtain ⟨p, c, rfl, -⟩ := hu.sh
  obtain ⟨q, d, rfl, -⟩ := hv.sh
  obtain ⟨W1, hW1⟩ : ∃ W1, W1 = (w.alloc (.cells (notC n (.slice p n.failed.length c)).toArray 34)).alloc (.cells (notC n (.slice q n.failed.length d)).toArray 34) := ⟨_, rfl⟩
  have hB1 : Below w.heap.size w W1 := by rw [hW1]; exact ((Below.refl _ w).alloc (Nat.le_refl _) _).alloc (by simp) _
  have hb1 : W1.heap[w.heap.size]? = some (.cells (notC n (.slice p n.failed.length c)).toArray 34 (0, 0)) := by rw [hW1]; exact (ha_ne (by simp)).trans (ha_eq rfl)
  have hb2 : W1.heap[w.heap.size + 1]? = some (.cells (notC n (.slice q n.failed.length d)).toArray 34 (0, 0)) := by rw [hW1]; exact ha_eq (by simp)
  have HB := Lib.hid hB1
  have hEq := sameFl_any n.failed _ _ W1 (hu.below hB1) (hv.below hB1) hn
  unfold notV
  unfold notC at hW1 hb1 hb2 ⊢
  obtain ⟨x0, x1, x2, x3, x4, x5⟩ := nbox hb1
  obtain ⟨y0, y1, y2, y3, y4, y5⟩ := nbox hb2
  clear hu hv hB1 hb1 hb2
  go_enter Tryz.func33, Tryz.ntmps33
  go_upto_region 1 with (fail)
  rw [← hW1]
  clear hW1
  go_wp2_with fail
  refine hEq.mono ?_
  rintro e w2 ⟨rfl, hb2⟩
  have HB2 := Lib.hid (HB.out.trans (hb2.mono HB.out.size))
  clear hEq hb2 x0 x1 x2 x3 x4 x5 y0 y1 y2 y3 y4 y5
  go_wp2
  refine bodyPost_ret (v := .bool true) (by simp [results, Tryz.results33, go_sem]) rfl ⟨rfl, HB2.out⟩
end Go.Proofs.YtlpngibdplnieaaGreatDoor

/- The laws' own helper: works. -/
namespace Go.Proofs.YtlpngibdplnieaaGreatDoor
open Go Go.RowKit Go.Shelf Go.Sort
attribute [local go_sem] bneI

set_option maxRecDepth 100000 in
set_option maxHeartbeats 8000000 in
theorem works22_any (w : World) (hE : Env w) : Calls Tryz.prog 9 #[] w fun e w' => e = .returned (.bool true) ∧ Below w.heap.size w w' := by
  have hF1 := failed_any false w hE
  have HE := Lib.hid hE
  clear hE
  go_enter Tryz.func9, Tryz.ntmps9
  go_wp2_with fail
  refine hF1.mono ?_
  rintro e w1 ⟨⟨sv, fv, jv, rfl, hx⟩, hb1⟩
  have hM := makeNot_any hB (failX false) 9 sv fv jv w1 hx (failX_short false) (by decide) (HE.out.keep hb1)
  have H1 := Lib.hid hb1
  clear hF1 hx hb1
  unfold MakePost at hM
  rw [fail_made] at hM
  generalize failX false = x1 at hM ⊢
  dsimp only at hM
  unfold hB at hM
  go_wp2_with fail
  refine hM.mono ?_
  rintro e w2 ⟨⟨av, rfl, hav⟩, hb2⟩
  have H2 := Lib.hid (H1.out.trans (hb2.mono H1.out.size))
  clear hM hb2 H1
  obtain ⟨p1, c1, rfl, -⟩ := hav.sh
  have HAV := Lib.hid hav
  clear hav
  unfold notV notC
  go_upto_region 2 with (fail)
  obtain ⟨w3, hw3⟩ : ∃ w3, w3 = w2.alloc (.cells (notC failN (.slice p1 failN.failed.length c1)).toArray 34) := ⟨_, rfl⟩
  have hb3 : Below w2.heap.size w2 w3 := by rw [hw3]; exact (Below.refl _ _).alloc (Nat.le_refl _) _
  have hx3 : w3.heap[w2.heap.size]? = some (.cells (notC failN (.slice p1 failN.failed.length c1)).toArray 34 (0, 0)) := by rw [hw3]; exact ha_eq rfl
  unfold notC at hw3
  rw [← hw3]
  obtain ⟨b3, hb3e⟩ : ∃ b3, b3 = w2.heap.size := ⟨_, rfl⟩
  rw [← hb3e] at hx3 ⊢
  have H3 := Lib.hid (And.intro (H2.out.trans (hb3.mono H2.out.size)) (And.intro hx3 (HAV.out.below hb3)))
  clear hw3 hb3 hx3 hb3e
  have hF2 := failed_any true w3 (HE.out.keep H3.out.1)
  go_wp2_with fail
  refine hF2.mono ?_
  rintro e w4 ⟨⟨sv, fv, jv, rfl, hx⟩, hb4⟩
  have H4 := Lib.hid (And.intro (H3.out.1.trans (hb4.mono H3.out.1.size)) (And.intro ((hb4.block _ (lt_of_cells H3.out.2.1)).trans H3.out.2.1) (H3.out.2.2.below hb4)))
  have hM := makeNot_any hB (failX true) 9 sv fv jv w4 hx (failX_short true) (by decide) (HE.out.keep H4.out.1)
  clear hF2 hx hb4
  unfold MakePost at hM
  rw [fail_none] at hM
  generalize failX true = x1 at hM ⊢
  dsimp only at hM
  unfold hB at hM
  go_wp2_with fail
  refine hM.mono ?_
  rintro e w5 ⟨⟨av, rfl, hav⟩, hb5⟩
  have H5 := Lib.hid (And.intro (H4.out.1.trans (hb5.mono H4.out.1.size)) (And.intro ((hb5.block _ (lt_of_cells H4.out.2.1)).trans H4.out.2.1) (H4.out.2.2.below hb5)))
  clear hM hb5
  obtain ⟨p2, c2, rfl, -⟩ := hav.sh
  clear hav
  unfold notV notC noNot
  go_upto_region 3 with (fail)
  generalize hw6 : World.alloc w5 _ = w6
  have hb6 : Below w5.heap.size w5 w6 := by rw [← hw6]; exact (Below.refl _ _).alloc (Nat.le_refl _) _
  have H6 := Lib.hid (And.intro (H5.out.1.trans (hb6.mono H5.out.1.size)) (And.intro ((hb6.block _ (lt_of_cells H5.out.2.1)).trans H5.out.2.1) (H5.out.2.2.below hb6)))
  clear hw6 hb6
  have hS1 := statusOf_any [53, 53, 48, 32, 53, 46, 49, 46, 49, 32, 110, 111] w6 (by decide) (HE.out.keep H6.out.1)
  rw [stat_one] at hS1
  go_wp2_with fail
  refine hS1.mono ?_
  rintro e w7 ⟨rfl, hb7⟩
  have H7 := Lib.hid (And.intro (H6.out.1.trans (hb7.mono H6.out.1.size)) (And.intro ((hb7.block _ (lt_of_cells H6.out.2.1)).trans H6.out.2.1) (H6.out.2.2.below hb7)))
  clear hS1 hb7
  have hS2 := statusOf_any [120, 32, 52, 46, 49, 46, 49, 32, 53, 46, 49] w7 (by decide) (HE.out.keep H7.out.1)
  rw [stat_two] at hS2
  go_wp2_with fail
  refine hS2.mono ?_
  rintro e w8 ⟨rfl, hb8⟩
  have H8 := Lib.hid (And.intro (H7.out.1.trans (hb8.mono H7.out.1.size)) (And.intro ((hb8.block _ (lt_of_cells H7.out.2.1)).trans H7.out.2.1) (H7.out.2.2.below hb8)))
  clear hS2 hb8
  obtain ⟨-, hx8, -⟩ := H8.out
  unfold notC at hx8
  obtain ⟨y0, y1, y2, y3, y4, y5⟩ := nbox hx8
  clear hx8
  obtain ⟨w9, hw9⟩ : ∃ w9, w9 = w8.alloc (.cells #[.string ⟨#[120, 64, 100, 46, 101]⟩, .string ⟨#[53, 46, 48, 46, 48]⟩, .string ⟨#[110, 111]⟩] 55) := ⟨_, rfl⟩
  have hb9 : Below w8.heap.size w8 w9 := by rw [hw9]; exact (Below.refl _ _).alloc (Nat.le_refl _) _
  have hx9 : w9.heap[w8.heap.size]? = some (.cells #[.string ⟨#[120, 64, 100, 46, 101]⟩, .string ⟨#[53, 46, 48, 46, 48]⟩, .string ⟨#[110, 111]⟩] 55 (0, 0)) := by rw [hw9]; exact ha_eq rfl
  have hSa := sameNot_any failN _ _ w9 (H8.out.2.2.below hb9) (row_one1 (enc := flE) (x := (⟨[120, 64, 100, 46, 101], [53, 46, 48, 46, 48], [110, 111]⟩ : FlP)) hx9 rfl) (by decide)
  have H9 := Lib.hid (H8.out.1.trans (hb9.mono H8.out.1.size))
  clear hb9 hx9
  unfold notV notC at hSa
  change Calls _ _ #[_, .agg #[.int .i64 9, .string ⟨#[104]⟩, .string ⟨#[97, 64, 98, 46, 99]⟩, .string ⟨#[]⟩, .int .i64 100, .slice (some ⟨w8.heap.size, 0, none⟩) 1 1]] _ _ at hSa
  go_wp2_with fail
  rw [← hw9]
  clear hw9
  refine hSa.mono ?_
  rintro e w10 ⟨rfl, hb10⟩
  have H10 := Lib.hid (H9.out.trans (hb10.mono H9.out.size))
  clear hSa hb10 y0 y1 y2 y3 y4 y5
  go_wp2
  refine bodyPost_ret (v := .bool true) (by simp [results, Tryz.results9, go_sem]) rfl ⟨rfl, H10.out⟩
end Go.Proofs.YtlpngibdplnieaaGreatDoor
