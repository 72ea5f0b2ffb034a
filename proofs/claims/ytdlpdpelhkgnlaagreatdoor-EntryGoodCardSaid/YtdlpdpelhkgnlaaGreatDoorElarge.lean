/- The laws' own helper: large. -/
import Derived.Test.YtdlpdpelhkgnlaaGreatDoorEsize
import Derived.Test.YtdlpdpelhkgnlaaGreatDoorMd
import Derived.Deep.CutRange
namespace Go.Proofs.YtdlpdpelhkgnlaaGreatDoor
open Go Go.RowKit Go.Shelf Go.Sort
attribute [local go_sem] bneI

theorem rel_a (n l : Nat) : (n : Int) + 5 + min 9000 (l : Int) = ((n + 5 + min 9000 l : Nat) : Int) := by omega
theorem wr1 {k : Nat} (h : k < 20000) : wrap64 ((k : Int) + 1) = (k : Int) + 1 := by unfold wrap64; omega
theorem wr5 {n : Nat} (h : n < 9000) : wrap64 ((n : Int) + 5) = (n : Int) + 5 := by unfold wrap64; omega
theorem wr5m {n l : Nat} (h : n < 9000) : wrap64 ((n : Int) + 5 + min 9000 (l : Int)) = (n : Int) + 5 + min 9000 (l : Int) := by unfold wrap64; omega
theorem lt20 {a k n : Nat} (h : a + 5 * k ≤ n) (hn : n ≤ 60000) : k < 20000 := by omega
theorem lt20b {i n : Nat} (h : 10 * i ≤ n) (hn : n < 9000) : i < 20000 := by omega
theorem nx {n l : Nat} (h : n + 5 + min 9000 l < 9000) : n < 9000 ∧ l < 9000 := by omega
theorem le5 {a k n b : Nat} (h : a + 5 * k ≤ n) (hb : n < b) : a < b := by omega
theorem lt18 {a k n len : Nat} (h : a + 5 * k ≤ n) (hn : n < 9000) (hl : len ≤ k) : len < 1800 := by omega
theorem le_of_g {k len n : Nat} (hg : ¬ (k < len ∧ n < 9000)) (h : n < 9000) : len ≤ k := by omega
theorem rel_e {i n n0 n2 n3 a b : Nat} (h1 : 10 * i ≤ n) (h2 : n + 10 ≤ n0) (h3 : n0 + 5 * a ≤ n2) (h4 : n2 + 5 * b ≤ n3) : 10 * (i + 1) ≤ n3 := by omega
theorem rel_s (k : Nat) : (k : Int) + 1 = ((k + 1 : Nat) : Int) := by omega
theorem rel_b {a k n l : Nat} (h : a + 5 * k ≤ n) : a + 5 * (k + 1) ≤ n + 5 + min 9000 l := by omega
theorem rel_c {n l : Nat} (h : n < 9000) : n + 5 + min 9000 l ≤ 50000 := by omega
theorem rel_d {n l : Nat} (h : n < 9000) : n + 5 + min 9000 l ≤ 60000 := by omega
structure FatesS (x : EntP) : Prop where
  len : x.fates.length < 1800
  texts : ∀ f ∈ x.fates, f.2.length < 9000
structure JobsS (x : EntP) : Prop where
  len : x.jobs.length < 1800
  doms : ∀ j ∈ x.jobs, j.dom.length < 9000
structure SmallE (x : EntP) : Prop where
  mail : SmallM x.mail
  fates : FatesS x
  jobs : JobsS x
/-- A list of entries in memory. -/
structure EntsAt (W : World) (b o : Nat) (l : List EntP) : Prop where
  ent : ∀ {i : Nat} {x : EntP} (_ : l[i]? = some x) {W' : World}, Below W.heap.size W W' → ∃ sv fv jv, EntAt W' x sv fv jv ∧ ∀ (j : Nat) (u : Value), (entC x sv fv jv)[j]? = some u → W'.cell? ⟨b, o + i * 10 + j, none⟩ = some u
def LargePost (l : List EntP) (e : Ending) : Prop := ∃ v, e = .returned (.bool v) ∧ (v = false → l.length < 900 ∧ ∀ x ∈ l, SmallE x)
set_option maxRecDepth 100000 in
set_option maxHeartbeats 8000000 in
theorem large_any (l : List EntP) (p : Option Addr) (b o c : Nat) (w : World) (hp : l ≠ [] → p = some ⟨b, o, none⟩) (hx : EntsAt w b o l) :
    Calls Tryz.prog 10 #[.slice p l.length c] w fun e w' => LargePost l e ∧ Below w.heap.size w w' := by
  have HX := Lib.hid hx
  have HP := Lib.hid hp
  clear hx hp
  go_enter Tryz.func10, Tryz.ntmps10
  go_wp2_with fail
  go_loopw [3, 4, 5, 6] (fun s3 s4 _ _ wr => ∃ (i n : Nat), s3 = .int .i64 (n : Int) ∧ s4 = .int .i64 (i : Int) ∧ i ≤ l.length ∧ 10 * i ≤ n ∧ n ≤ 60000 ∧ (n < 9000 → ∀ x ∈ l.take i, SmallE x) ∧ Below w.heap.size w wr) (fun _ s4 _ _ _ => l.length - natI s4)
  case atStart => exact ⟨0, 0, rfl, rfl, Nat.zero_le _, by omega, by omega, by simp, Below.refl _ _⟩
  case round =>
    obtain ⟨i, n, rfl, rfl, hi, hin, hn, hxs, hB⟩ := hrel
    have HR := Lib.hid (And.intro hin (And.intro hxs hB))
    have HN60 := Lib.hid hn
    clear hin hxs hn
    by_cases hlast : i < l.length
    · have hli : (i : Int) < (l.length : Int) := by omega
      have hpe := HP.out (fun e => by rw [e] at hlast; simp at hlast)
      subst hpe
      by_cases hsm : n < 9000
      · have hsi : (n : Int) < 9000 := by omega
        obtain ⟨x, hxe, htk⟩ : ∃ x, l[i]? = some x ∧ l.take (i + 1) = l.take i ++ [x] := ⟨_, List.getElem?_eq_getElem hlast, List.take_succ_eq_append_getElem hlast⟩
        obtain ⟨sv, fv, jv, hEA, hcs⟩ := HX.out.ent hxe hB
        clear hB
        have HXX := Lib.hid (And.intro hxe htk)
        clear htk hxe
        have c2' : wr.cell? ⟨b, o + i * 10 + 2, none⟩ = some (.string ⟨x.mail.sender.toArray⟩) := hcs 2 _ rfl
        have c3' : wr.cell? ⟨b, o + i * 10 + 3, none⟩ = some sv := hcs 3 _ rfl
        have c4' : wr.cell? ⟨b, o + i * 10 + 4, none⟩ = some (.bool x.mail.req) := hcs 4 _ rfl
        have c5' : wr.cell? ⟨b, o + i * 10 + 5, none⟩ = some (.string ⟨x.mail.envid.toArray⟩) := hcs 5 _ rfl
        have c6' : wr.cell? ⟨b, o + i * 10 + 6, none⟩ = some (.string ⟨x.mail.text.toArray⟩) := hcs 6 _ rfl
        clear hcs
        obtain ⟨p1, c1, rfl, -⟩ := hEA.rc.sh
        have hSz := size_any x.mail (.slice p1 x.mail.rcpts.length c1) wr hEA.rc
        unfold mailV mailC at hSz
        clear hEA
        have a0 : wrap64 ((n : Int) + 10) = (n : Int) + 10 := by unfold wrap64; omega
        go_wp2_with fail
        refine hSz.mono ?_
        rintro e w2 ⟨⟨sz, rfl, hsz, hsm0⟩, hb2⟩
        clear hSz c2' c3' c4' c5' c6'
        have a1 : wrap64 ((n : Int) + 10 + (sz : Int)) = ((n + 10 + sz : Nat) : Int) := by unfold wrap64; omega
        obtain ⟨n0, hn0⟩ : ∃ n0 : Nat, n0 = n + 10 + sz := ⟨_, rfl⟩
        rw [← hn0] at a1
        have HNN := Lib.hid (show n + 10 ≤ n0 ∧ n0 ≤ 30000 by omega)
        have HZ := Lib.hid (And.intro (HR.out.2.2.trans (hb2.mono HR.out.2.2.size)) (show n0 < 9000 → SmallM x.mail from fun h => hsm0 (by omega)))
        have HN0 := Lib.hid hn0
        clear hb2 hsm0 hn0
        have HL := Lib.hid hlast
        go_wp2_with fail
        generalize hww : wr = wq at *
        have HIS := Lib.hid (And.intro hi hsm)
        clear hww a0 a1 hsi hi hsm hsz hli hlast
        go_loopw [3, 5] (fun s3 s5 wr => ∃ (k n2 : Nat), s3 = .int .i64 (n2 : Int) ∧ s5 = .int .i64 (k : Int) ∧ k ≤ x.fates.length ∧ n0 + 5 * k ≤ n2 ∧ n2 ≤ 50000 ∧ (n2 < 9000 → ∀ f ∈ x.fates.take k, f.2.length < 9000) ∧ Below w.heap.size w wr) (fun _ s5 _ => x.fates.length - natI s5)
        case atStart => exact ⟨0, n0, congrArg (Value.int .i64) (by have := HN0.out; omega), rfl, Nat.zero_le _, Nat.le_refl _, Nat.le_trans HNN.out.2 (by decide), by simp, HZ.out.1⟩
        case round =>
          obtain ⟨k, n2, rfl, rfl, hk, hkn, hn2', hfs, hB⟩ := hrel
          have HFa := Lib.hid (And.intro hkn (And.intro hfs hB))
          have HK63 := Lib.hid (And.intro (lt20 hkn (Nat.le_trans hn2' (by decide))) hn2')
          clear hkn hfs hn2'
          obtain ⟨sv, fv, jv, hEA, hcs⟩ := HX.out.ent HXX.out.1 hB
          clear hB
          have c8 : wr.cell? ⟨b, o + i * 10 + 8, none⟩ = some fv := hcs 8 _ rfl
          clear hcs
          obtain ⟨p2, c2, rfl, -⟩ := hEA.fa.sh
          have HEA := Lib.hid hEA
          clear hEA
          go_upto_region 7 with (fail)
          go_cut [37] from 26 to 53 (fun s37 w' => s37 = .bool (decide (k < x.fates.length ∧ n2 < 9000)) ∧ w' = wr)
          case first =>
            by_cases hkl : k < x.fates.length
            · have hkli : (k : Int) < (x.fates.length : Int) := by omega
              by_cases hsm2 : n2 < 9000
              · have hsi2 : (n2 : Int) < 9000 := by omega
                go_wp2
                go_meet
                case rel => exact ⟨by simp [hkl, hsm2], rfl⟩
              · have hsi2 : ¬ (n2 : Int) < 9000 := by omega
                go_wp2
                go_meet
                case rel => exact ⟨by simp [hkl, hsm2], rfl⟩
            · have hkli : ¬ (k : Int) < (x.fates.length : Int) := by omega
              go_wp2
              go_meet
              case rel => exact ⟨by simp [hkl], rfl⟩
          case rest =>
            obtain ⟨rfl, rfl⟩ := hcut
            by_cases hg : k < x.fates.length ∧ n2 < 9000
            · rw [decide_eq_true hg]
              obtain ⟨hkl, hsm2⟩ := hg
              have hkli : (k : Int) < (x.fates.length : Int) := by omega
              obtain ⟨b2, o2, rfl, hc⟩ := HEA.out.fa.at k hkl
              have y0 : wc.cell? ⟨b2, o2 + k * 2 + 1, none⟩ = some (.string ⟨x.fates[k].2.toArray⟩) := hc k hkl 1 _ rfl
              clear hc
              have htk : x.fates.take (k + 1) = x.fates.take k ++ [x.fates[k]] := List.take_succ_eq_append_getElem hkl
              obtain ⟨f, hf⟩ : ∃ f, f = x.fates[k] := ⟨_, rfl⟩
              rw [← hf] at y0 htk
              clear hf
              have hw1 := wr1 HK63.out.1
              have a1 := wr5 hsm2
              have a2 := wr5m (l := f.2.length) hsm2
              have hnx : n2 + 5 + min 9000 f.2.length < 9000 → ∀ q ∈ x.fates.take (k + 1), q.2.length < 9000 := by
                intro hlt q hq
                rw [htk] at hq
                rcases List.mem_append.1 hq with hq | hq
                · exact HFa.out.2.1 (nx hlt).1 q hq
                · have : q = f := by simpa using hq
                  subst this
                  exact (nx hlt).2
              have HNX := Lib.hid hnx
              clear hnx htk
              go_wp2
              go_roundw
              case rel => exact ⟨k + 1, n2 + 5 + min 9000 f.2.length, congrArg (Value.int .i64) (rel_a _ _), congrArg (Value.int .i64) (hw1.trans (rel_s _)), hkl, rel_b HFa.out.1, rel_c hsm2, HNX.out, HFa.out.2.2⟩
              case measure => (simp [natI, hw1]; omega)
            · rw [decide_eq_false hg]
              have hFs : n2 < 9000 → FatesS x := fun h => ⟨lt18 HFa.out.1 h (le_of_g hg h), fun j hj => HFa.out.2.1 h j (by rw [List.take_of_length_le (le_of_g hg h)]; exact hj)⟩
              clear hg
              have hF2 : n2 < 9000 → SmallM x.mail := fun h => HZ.out.2 (le5 HFa.out.1 h)
              have HF := Lib.hid (And.intro hF2 (And.intro hFs HFa.out.2.2))
              have HFA5 := Lib.hid HFa.out.1
              have HN2 := Lib.hid (show n0 + 5 * 0 ≤ n2 ∧ n2 ≤ 60000 from ⟨Nat.le_trans (Nat.add_le_add_left (Nat.mul_le_mul_left 5 (Nat.zero_le _)) n0) HFa.out.1, Nat.le_trans HK63.out.2 (by decide)⟩)
              clear hF2 hFs hk
              go_wp2_with fail
              generalize hww : wr = wf at *
              clear hww
              go_loopw [3, 6] (fun s3 s6 wr => ∃ (k n3 : Nat), s3 = .int .i64 (n3 : Int) ∧ s6 = .int .i64 (k : Int) ∧ k ≤ x.jobs.length ∧ n2 + 5 * k ≤ n3 ∧ n3 ≤ 60000 ∧ (n3 < 9000 → ∀ j ∈ x.jobs.take k, j.dom.length < 9000) ∧ Below w.heap.size w wr) (fun _ s6 _ => x.jobs.length - natI s6)
              case atStart => exact ⟨0, n2, rfl, rfl, Nat.zero_le _, Nat.le_refl _, HN2.out.2, by simp, HF.out.2.2⟩
              case round =>
                obtain ⟨k, n3, rfl, rfl, hk, hkn, hn3, hjs, hB⟩ := hrel
                have HJ := Lib.hid (And.intro hkn (And.intro hjs hB))
                have HK63 := Lib.hid (And.intro (lt20 hkn hn3) hn3)
                clear hkn hjs hn3
                obtain ⟨sv, fv, jv, hEA, hcs⟩ := HX.out.ent HXX.out.1 hB
                clear hB
                have c9 : wr.cell? ⟨b, o + i * 10 + 9, none⟩ = some jv := hcs 9 _ rfl
                clear hcs
                obtain ⟨p3, c3, rfl, -⟩ := hEA.jo.sh
                have HEA := Lib.hid hEA
                clear hEA
                go_upto_region 11 with (fail)
                go_cut [65] from 54 to 81 (fun s65 w' => s65 = .bool (decide (k < x.jobs.length ∧ n3 < 9000)) ∧ w' = wr)
                case first =>
                  by_cases hkl : k < x.jobs.length
                  · have hkli : (k : Int) < (x.jobs.length : Int) := by omega
                    by_cases hsm3 : n3 < 9000
                    · have hsi3 : (n3 : Int) < 9000 := by omega
                      go_wp2
                      go_meet
                      case rel => exact ⟨by simp [hkl, hsm3], rfl⟩
                    · have hsi3 : ¬ (n3 : Int) < 9000 := by omega
                      go_wp2
                      go_meet
                      case rel => exact ⟨by simp [hkl, hsm3], rfl⟩
                  · have hkli : ¬ (k : Int) < (x.jobs.length : Int) := by omega
                    go_wp2
                    go_meet
                    case rel => exact ⟨by simp [hkl], rfl⟩
                case rest =>
                  obtain ⟨rfl, rfl⟩ := hcut
                  by_cases hg : k < x.jobs.length ∧ n3 < 9000
                  · rw [decide_eq_true hg]
                    obtain ⟨hkl, hsm3⟩ := hg
                    have hkli : (k : Int) < (x.jobs.length : Int) := by omega
                    obtain ⟨b2, o2, rfl, hc⟩ := HEA.out.jo.at k hkl
                    have y0 : wc.cell? ⟨b2, o2 + k * 3, none⟩ = some (.string ⟨x.jobs[k].dom.toArray⟩) := hc k hkl 0 _ rfl
                    clear hc
                    have htk : x.jobs.take (k + 1) = x.jobs.take k ++ [x.jobs[k]] := List.take_succ_eq_append_getElem hkl
                    obtain ⟨f, hf⟩ : ∃ f, f = x.jobs[k] := ⟨_, rfl⟩
                    rw [← hf] at y0 htk
                    clear hf
                    have hw1 := wr1 HK63.out.1
                    have a1 := wr5 hsm3
                    have a2 := wr5m (l := f.dom.length) hsm3
                    have hnx : n3 + 5 + min 9000 f.dom.length < 9000 → ∀ q ∈ x.jobs.take (k + 1), q.dom.length < 9000 := by
                      intro hlt q hq
                      rw [htk] at hq
                      rcases List.mem_append.1 hq with hq | hq
                      · exact HJ.out.2.1 (nx hlt).1 q hq
                      · have : q = f := by simpa using hq
                        subst this
                        exact (nx hlt).2
                    have HNX := Lib.hid hnx
                    clear hnx htk
                    go_wp2
                    go_roundw
                    case rel => exact ⟨k + 1, n3 + 5 + min 9000 f.dom.length, congrArg (Value.int .i64) (rel_a _ _), congrArg (Value.int .i64) (hw1.trans (rel_s _)), hkl, rel_b HJ.out.1, rel_d hsm3, HNX.out, HJ.out.2.2⟩
                    case measure => (simp [natI, hw1]; omega)
                  · rw [decide_eq_false hg]
                    have hJs : n3 < 9000 → JobsS x := fun h => ⟨lt18 HJ.out.1 h (le_of_g hg h), fun j hj => HJ.out.2.1 h j (by rw [List.take_of_length_le (le_of_g hg h)]; exact hj)⟩
                    clear hg
                    have hw1 := wr1 (lt20b HR.out.1 HIS.out.2)
                    have hnx : n3 < 9000 → ∀ q ∈ l.take (i + 1), SmallE q := by
                      intro hlt q hq
                      rw [HXX.out.2] at hq
                      rcases List.mem_append.1 hq with hq | hq
                      · exact HR.out.2.1 HIS.out.2 q hq
                      · have : q = x := by simpa using hq
                        subst this
                        exact ⟨HF.out.1 (le5 HJ.out.1 hlt), HF.out.2.1 (le5 HJ.out.1 hlt), hJs hlt⟩
                    have HNX := Lib.hid hnx
                    clear hnx hJs hk
                    go_wp2
                    go_roundw
                    case rel => exact ⟨i + 1, n3, rfl, congrArg (Value.int .i64) (hw1.trans (rel_s _)), HL.out, rel_e HR.out.1 HNN.out.1 HFA5.out HJ.out.1, HK63.out.2, HNX.out, HJ.out.2.2⟩
                    case measure => (have := HL.out; simp [natI, hw1]; omega)
      · have hsi : ¬ (n : Int) < 9000 := by omega
        clear hB
        go_wp2
        refine bodyPost_ret (v := .bool true) (by simp [results, Tryz.results10, go_sem]; try omega) rfl ⟨⟨_, rfl, fun h => absurd h (by decide)⟩, HR.out.2.2⟩
    · have hli : ¬ (i : Int) < (l.length : Int) := by omega
      have hS : decide (9000 ≤ (n : Int)) = false → l.length < 900 ∧ ∀ x ∈ l, SmallE x := fun h => by
        have h3 := of_decide_eq_false h
        have h2 := HR.out.2.1 (by omega)
        rw [List.take_of_length_le (by omega)] at h2
        exact ⟨by have := HR.out.1; omega, h2⟩
      have HS := Lib.hid hS
      clear hS hB
      go_wp2
      refine bodyPost_ret (v := .bool (decide (9000 ≤ (n : Int)))) (by simp [results, Tryz.results10, go_sem]) rfl ⟨⟨_, rfl, HS.out⟩, HR.out.2.2⟩
end Go.Proofs.YtdlpdpelhkgnlaaGreatDoor
