/- TallySum: the walk. -/
import Derived.Test.YthhcigmdocldnaaDoorLawE
namespace Go.Proofs.YthhcigmdocldnaaDoor
open Go Go.RowKit Go.Shelf Go.Sort

theorem strB_ne {a b : Bytes} (h : ¬ a = b) : ((⟨a.toArray⟩ : ByteArray).toList == (⟨b.toArray⟩ : ByteArray).toList) = false := by
  rw [← beq_toListBytes]
  refine beqB_ne fun e => h ?_
  injection e with e
  simpa using congrArg Array.toList e

set_option maxRecDepth 100000 in
set_option maxHeartbeats 2000000 in
theorem sum_any (w₀ : World) (names : Int) (v : Value) (rs : List Res) (hA : ArgR w₀ v rs) (hg : Glob w₀) (hm : MayT w₀) :
    Calls Tryd.prog 3 #[.int .i64 names, v] w₀ fun e w' => e = .returned (.bool true) ∧ Below w₀.heap.size w₀ w' := by
  have hL := long_any w₀ v rs hA.at_
  obtain ⟨p, c, rfl, hel⟩ := hA.shape
  have HA := Lib.hid (And.intro hA (And.intro hel (And.intro hg hm)))
  clear hA hel hg hm
  obtain ⟨i1, hi1, hr0, hr1, hr2⟩ := info_parts infoRes
  go_enter Tryd.func3, Tryd.ntmps3
  go_wp2_with fail
  refine hL.mono ?_
  rintro e w1 ⟨b, m, rfl, hb, rfl⟩
  have hB1 : Below w₀.heap.size w₀ (w₀.drewN m) := below_drewN (Below.refl _ w₀) m
  have hS1 : Sess w₀ (w₀.drewN m) := ⟨hB1, HA.out.2.2.1, HA.out.2.2.2⟩
  have hW := awake_any (w₀.drewN m) hS1.glob hS1.mayt
  clear hL hB1
  generalize w₀.drewN m = w1 at *
  cases b
  · have HS := Lib.hid (And.intro hS1 (hb rfl))
    clear hS1 hb
    go_wp2_with fail
    refine hW.mono ?_
    rintro e w2 ⟨rfl, hB2⟩
    have hS2 := HS.out.1.next hB2
    by_cases hn1 : 1 ≤ names
    · by_cases hn2 : names ≤ 8
      · have hN := new_step hS2 names hn1 hn2
        have HS2 := Lib.hid hS2
        have HN := Lib.hid (And.intro hn1 hn2)
        clear hW hB2 hS2 hn1 hn2
        go_wp2_with fail
        refine hN.mono ?_
        rintro e w3 ⟨rfl, hT, hB3⟩
        obtain ⟨b1, hb1⟩ : ∃ b, b = w2.heap.size + 1 := ⟨_, rfl⟩
        obtain ⟨bm1, hbm1⟩ : ∃ b, b = w2.heap.size := ⟨_, rfl⟩
        rw [← hb1, ← hbm1] at hT
        rw [← hb1]
        have HS3 := Lib.hid (And.intro (HS2.out.next hB3) hT)
        clear hN hB3 hT HS2 hb1 hbm1
        go_wp2_with fail
        go_loopw [7, 8] (fun cv iv wr => ∃ (i : Nat) (l : Ent) (acc : List Res), iv = .int .i64 (i : Int) ∧ i ≤ rs.length ∧ acc.length ≤ i ∧ Sess w₀ wr ∧ Tal w₀ wr b1 bm1 names l acc ∧ CntAt wr w₀.heap.size cv acc)
          (fun _ iv _ => rs.length - natOf iv)
        case atStart => exact ⟨0, [], [], rfl, Nat.zero_le _, Nat.le_refl _, HS3.out.1, HS3.out.2, ⟨rfl, .inl ⟨rfl, rfl⟩⟩⟩
        case round =>
          obtain ⟨i, l, acc, rfl, hi, hai, hS, hT, hC⟩ := hrel
          by_cases hlast : i < rs.length
          · have hli : (i : Int) < (rs.length : Int) := by omega
            have h133 : (i : Int) < 134 := by have := HS.out.2; omega
            have hacc : acc.length ≤ 1000 := by omega
            have hR := rows_step hT hacc
            have HQ := Lib.hid (And.intro hS (And.intro hT (And.intro hC (And.intro hacc (And.intro hai hi)))))
            clear hS hT hC hacc hai hi HS3
            go_wp2_with fail
            refine hR.mono ?_
            rintro e w4 ⟨va, pa, rfl, hPa, hRa, hB4⟩
            have hT4 := HQ.out.2.1.next hB4
            have hD := domains_any' b1 bm1 names l w4 hT4.at_ (hT4.goodL HQ.out.2.2.2.1).2
            have HQ4 := Lib.hid (And.intro hPa (And.intro hRa (And.intro (HQ.out.1.next hB4) (And.intro hT4 (HQ.out.2.2.1.below hB4)))))
            clear hR hPa hRa hB4 hT4
            go_wp2_with fail
            refine hD.mono ?_
            rintro e w5 ⟨vd, rfl, hod, hB5⟩
            have hdl : (domsL l).length ≤ 1000 := by
              have h1 := length_domsL l
              have h2 := HQ.out.2.1.inv.len
              have h3 := HQ.out.2.2.2.1
              omega
            have hsh : ∃ pd cd, vd = .slice pd (domsL l).length cd := by
              rcases hod.2 with ⟨rfl, h0⟩ | ⟨g, cap, cur, rfl, _⟩
              · exact ⟨none, 0, by rw [h0]⟩
              · exact ⟨_, _, rfl⟩
            obtain ⟨pd, cd, rfl⟩ := hsh
            obtain ⟨a, rfl, hc, hE⟩ := HA.out.2.1 i hlast
            obtain ⟨q1, q2, q3⟩ := HA.out.1.lim rs[i] (List.getElem_mem hlast)
            have HE := Lib.hid (And.intro hE (And.intro q1 (And.intro q2 q3)))
            clear hE q1 q2 q3 hD
            obtain ⟨ds, hds⟩ : ∃ ds, ds = domsL l := ⟨_, rfl⟩
            rw [← hds] at hod hdl ⊢
            have HQ5 := Lib.hid (And.intro (HQ4.out.2.2.1.next hB5) (And.intro (HQ4.out.2.2.2.1.next hB5) (And.intro (HQ4.out.2.2.2.2.below hB5) (And.intro hod (And.intro (RowsT.below (T := 41) HQ4.out.2.1 hB5) (And.intro hds HQ4.out.1))))))
            clear hB5 hod hds HQ4
            generalize rs[i] = r at *
            go_wp2_with fail
            go_loopw [11, 12] (fun hv kv wr => ∃ k m : Nat, kv = .int .i64 (k : Int) ∧ k ≤ ds.length ∧ hv = .bool (decide (r.1.1 ∈ ds.take k)) ∧ wr = w5.drewN m)
              (fun _ kv _ => ds.length - natOf kv)
            case atStart => exact ⟨0, 0, rfl, Nat.zero_le _, by simp, rfl⟩
            case round =>
              obtain ⟨k, m2, rfl, hk, rfl, rfl⟩ := hrel
              by_cases hk1 : k < ds.length
              · have hki : (k : Int) < (ds.length : Int) := by omega
                obtain ⟨g, rfl, hdc, hcell⟩ : ∃ g, pd = some ⟨g, 0, none⟩ ∧ ds.length ≤ cd ∧ w5.cell? ⟨g, k, none⟩ = some (.string ⟨ds[k].toArray⟩) := by
                  have hod := HQ5.out.2.2.2.1
                  rcases hod.2 with ⟨e0, h0⟩ | ⟨g, cap, cur, e, hgb, hgg, hcc, hmm, hss, htt⟩
                  · omega
                  · injection e with e1 _ e3
                    subst e1 e3
                    refine ⟨g, rfl, hcc, own_cell hod (j := k) (by omega) ?_⟩
                    rw [List.getElem?_map, List.getElem?_eq_getElem hk1]
                    rfl
                obtain ⟨Ab, Ao, As, ead, c0, -, -⟩ := HE.out.1 w5 HQ5.out.1.below
                have htk : ds.take (k + 1) = ds.take k ++ [ds[k]] := List.take_succ_eq_append_getElem hk1
                have h1000 : (k : Int) < 1000 := by omega
                by_cases h1 : r.1.1 ∈ ds.take k
                · have h1d : decide (r.1.1 ∈ ds.take k) = true := decide_eq_true h1
                  have h2d : decide (r.1.1 ∈ ds.take (k + 1)) = true := decide_eq_true (by rw [htk]; exact List.mem_append_left _ h1)
                  have HK := Lib.hid h2d
                  rw [h1d]
                  clear htk h1 h1d h2d c0 hcell ead
                  go_wp2_with fail
                  go_quiet (fail)
                  go_wp2
                  go_roundw
                  case rel => exact ⟨k + 1, _, by simp, by omega, by rw [HK.out], by first | rfl | exact World.drewN_drewN _ _ _⟩
                  case measure => simp [natOf]; omega
                · have h1d : decide (r.1.1 ∈ ds.take k) = false := decide_eq_false h1
                  rw [h1d]
                  by_cases h3 : ds[k] = r.1.1
                  · have h2d : decide (r.1.1 ∈ ds.take (k + 1)) = true := decide_eq_true (by rw [htk, h3]; exact List.mem_append_right _ (List.mem_singleton.2 rfl))
                    have HK := Lib.hid h2d
                    rw [h3] at hcell
                    clear htk h1 h1d h2d h3
                    generalize (⟨r.1.1.toArray⟩ : ByteArray) = sa at hcell c0
                    have f : (sa.toList == sa.toList) = true := beq_self_eq_true _
                    go_wp2_with fail
                    go_quiet (fail)
                    go_wp2
                    go_roundw
                    case rel => exact ⟨k + 1, _, by simp, by omega, by rw [HK.out], by first | rfl | exact World.drewN_drewN _ _ _⟩
                    case measure => simp [natOf]; omega
                  · have h2d : decide (r.1.1 ∈ ds.take (k + 1)) = false := decide_eq_false (by rw [htk]; exact fun e => (List.mem_append.1 e).elim h1 fun e => h3 (List.mem_singleton.1 e).symm)
                    have HK := Lib.hid h2d
                    have f := strB_ne h3
                    clear htk h1 h1d h2d h3
                    generalize (⟨r.1.1.toArray⟩ : ByteArray) = sa at f c0
                    generalize (⟨ds[k].toArray⟩ : ByteArray) = sb at f hcell
                    go_wp2_with fail
                    go_quiet (fail)
                    go_wp2
                    go_roundw
                    case rel => exact ⟨k + 1, _, by simp, by omega, by rw [HK.out], by first | rfl | exact World.drewN_drewN _ _ _⟩
                    case measure => simp [natOf]; omega
              · have hki : ¬ (k : Int) < (ds.length : Int) := by omega
                obtain rfl : k = ds.length := by omega
                rw [List.take_length]
                obtain ⟨Ab, Ao, As, ead, c0, c1, c2⟩ := HE.out.1 (w5.drewN m2) (below_drewN HQ5.out.1.below m2)
                have hB6 : Below w5.heap.size w5 (w5.drewN m2) := below_drewN (Below.refl _ w5) m2
                have hS6 := HQ5.out.1.next hB6
                have hT6 := HQ5.out.2.1.next hB6
                have hC6 := HQ5.out.2.2.1.below hB6
                have hR6 := HQ5.out.2.2.2.2.1.below hB6
                have hadd := add_step hS6 hT6 r HE.out.2.1 HE.out.2.2.1 HE.out.2.2.2 HQ.out.2.2.2.1
                have HR := Lib.hid (And.intro hS6 (And.intro hT6 (And.intro hC6 hR6)))
                clear hB6 hS6 hT6 hC6 hR6
                generalize w5.drewN m2 = w6 at *
                go_wp2_with fail
                refine hadd.mono ?_
                rintro e w7 ⟨rfl, hS7, hT7, hg7⟩
                have hbm : bm1 < w6.heap.size := HR.out.2.1.bmlt
                have hC7 := HR.out.2.2.1.kept hg7 (fun cur => HR.out.2.1.notRes cur _)
                have hR7 := HR.out.2.2.2.kept hg7 HR.out.2.1.notRes hbm
                have HR7 := Lib.hid (And.intro hS7 (And.intro hT7 (And.intro hC7 hR7)))
                clear hadd hS7 hT7 hC7 hR7 hg7 hbm c0 c1 c2 ead
                obtain ⟨Ab, Ao, As, ead, c0, c1, c2⟩ := HE.out.1 w7 HR7.out.1.below
                rcases addB_cases names l r with ⟨k1, k2⟩ | ⟨k1, k2, k3⟩ | ⟨k1, k2, k3⟩
                · have hne0 : ¬ addB names l r.1.1 r.1.2 r.2 = 0 := by rw [k2]; decide
                  have haS : addS names l r.1.1 r.1.2 r.2 = l := by unfold addS; rw [if_neg hne0]
                  have hcS : accS names l acc r = acc := by unfold accS; rw [if_neg hne0]
                  rw [haS, hcS] at HR7
                  have hla : (rowsOf l pa).length ≤ 1000000 := by rw [rows_len HQ5.out.2.2.2.2.2.2]; exact (HQ.out.2.1.goodL HQ.out.2.2.2.1).2
                  have hTo := told_any 0 va _ w7 HR7.out.2.2.2.zero hla (Nat.zero_le _)
                  rw [k2]
                  clear hne0 haS hcS c0 c1 c2 ead k1 k2
                  go_wp2_with fail
                  refine hTo.mono ?_
                  rintro e w8 ⟨ua, rfl, hRT, hB8⟩
                  have hT8 := HR7.out.2.1.next hB8
                  have hR2 := rows_step hT8 HQ.out.2.2.2.1
                  have HA8 := Lib.hid (And.intro (HR7.out.1.next hB8) (And.intro hT8 (And.intro (HR7.out.2.2.1.below hB8) hRT.zero)))
                  clear hTo hRT hB8 hT8
                  go_wp2_with fail
                  refine hR2.mono ?_
                  rintro e w9 ⟨vb, pb, rfl, hPb, hRb, hB9⟩
                  have hlb : (rowsOf l pb).length ≤ 1000000 := by rw [rows_len hPb]; exact (HQ.out.2.1.goodL HQ.out.2.2.2.1).2
                  have hTo2 := told_any _ vb _ w9 hRb hlb hB9.size
                  have HA9 := Lib.hid (And.intro (HA8.out.1.next hB9) (And.intro (HA8.out.2.1.next hB9) (And.intro (HA8.out.2.2.1.below hB9) (HA8.out.2.2.2.below hB9))))
                  have HP9 := Lib.hid (And.intro hPb hlb)
                  clear hR2 hRb hB9 hPb hlb
                  go_wp2_with fail
                  refine hTo2.mono ?_
                  rintro e w10 ⟨ub, rfl, hRT2, hB10⟩
                  have hSa := same_any 0 ua ub _ _ w10 (HA9.out.2.2.2.below hB10) hRT2.zero (rows_11 HQ.out.2.1.inv pa) (rows_11 HQ.out.2.1.inv pb) hla HP9.out.2
                  have heq : rowsOf l pa = rowsOf l pb := HQ.out.2.1.places HQ5.out.2.2.2.2.2.2 HP9.out.1
                  rw [decide_eq_true heq] at hSa
                  have HA10 := Lib.hid (And.intro (HA9.out.1.next hB10) (And.intro (HA9.out.2.1.next hB10) (HA9.out.2.2.1.below hB10)))
                  clear hTo2 hRT2 hB10 heq hla
                  go_wp2_with fail
                  refine hSa.mono ?_
                  rintro e w11 ⟨rfl, hB11⟩
                  have HA11 := Lib.hid (And.intro (HA10.out.1.next hB11) (And.intro (HA10.out.2.1.next hB11) (HA10.out.2.2.below hB11)))
                  clear hSa hB11
                  go_wp2
                  go_roundw
                  case rel => exact ⟨i + 1, l, acc, by simp, by omega, by have := HQ.out.2.2.2.2.1; omega, HA11.out.1, HA11.out.2.1, HA11.out.2.2⟩
                  case measure => simp [natOf]; omega
                · have hno : decide (r.1.1 ∈ ds) = false := by
                    unfold roomB at k2
                    rw [Bool.or_eq_false_iff] at k2
                    rw [HQ5.out.2.2.2.2.2.1]
                    exact k2.2
                  have hle : (ds.length : Int) = names := by
                    unfold roomB at k2
                    rw [Bool.or_eq_false_iff] at k2
                    have h1 := of_decide_eq_false k2.1
                    have h2 := HQ.out.2.1.inv.room
                    rw [HQ5.out.2.2.2.2.2.1]
                    omega
                  rw [hno]
                  have HNL := Lib.hid hle
                  clear hno hle
                  have hne0 : ¬ addB names l r.1.1 r.1.2 r.2 = 0 := by rw [k3]; decide
                  have haS : addS names l r.1.1 r.1.2 r.2 = l := by unfold addS; rw [if_neg hne0]
                  have hcS : accS names l acc r = acc := by unfold accS; rw [if_neg hne0]
                  rw [haS, hcS] at HR7
                  have hla : (rowsOf l pa).length ≤ 1000000 := by rw [rows_len HQ5.out.2.2.2.2.2.2]; exact (HQ.out.2.1.goodL HQ.out.2.2.2.1).2
                  have hTo := told_any 0 va _ w7 HR7.out.2.2.2.zero hla (Nat.zero_le _)
                  rw [k3]
                  clear hne0 haS hcS c0 c1 c2 ead k1 k2 k3
                  go_wp2_with fail
                  refine hTo.mono ?_
                  rintro e w8 ⟨ua, rfl, hRT, hB8⟩
                  have hT8 := HR7.out.2.1.next hB8
                  have hR2 := rows_step hT8 HQ.out.2.2.2.1
                  have HA8 := Lib.hid (And.intro (HR7.out.1.next hB8) (And.intro hT8 (And.intro (HR7.out.2.2.1.below hB8) hRT.zero)))
                  clear hTo hRT hB8 hT8
                  go_wp2_with fail
                  refine hR2.mono ?_
                  rintro e w9 ⟨vb, pb, rfl, hPb, hRb, hB9⟩
                  have hlb : (rowsOf l pb).length ≤ 1000000 := by rw [rows_len hPb]; exact (HQ.out.2.1.goodL HQ.out.2.2.2.1).2
                  have hTo2 := told_any _ vb _ w9 hRb hlb hB9.size
                  have HA9 := Lib.hid (And.intro (HA8.out.1.next hB9) (And.intro (HA8.out.2.1.next hB9) (And.intro (HA8.out.2.2.1.below hB9) (HA8.out.2.2.2.below hB9))))
                  have HP9 := Lib.hid (And.intro hPb hlb)
                  clear hR2 hRb hB9 hPb hlb
                  go_wp2_with fail
                  refine hTo2.mono ?_
                  rintro e w10 ⟨ub, rfl, hRT2, hB10⟩
                  have hSa := same_any 0 ua ub _ _ w10 (HA9.out.2.2.2.below hB10) hRT2.zero (rows_11 HQ.out.2.1.inv pa) (rows_11 HQ.out.2.1.inv pb) hla HP9.out.2
                  have heq : rowsOf l pa = rowsOf l pb := HQ.out.2.1.places HQ5.out.2.2.2.2.2.2 HP9.out.1
                  rw [decide_eq_true heq] at hSa
                  have HA10 := Lib.hid (And.intro (HA9.out.1.next hB10) (And.intro (HA9.out.2.1.next hB10) (HA9.out.2.2.1.below hB10)))
                  clear hTo2 hRT2 hB10 heq hla
                  go_wp2_with fail
                  refine hSa.mono ?_
                  rintro e w11 ⟨rfl, hB11⟩
                  have HA11 := Lib.hid (And.intro (HA10.out.1.next hB11) (And.intro (HA10.out.2.1.next hB11) (HA10.out.2.2.below hB11)))
                  clear hSa hB11
                  have hle := HNL.out
                  go_wp2
                  go_roundw
                  case rel => exact ⟨i + 1, l, acc, by simp, by omega, by have := HQ.out.2.2.2.2.1; omega, HA11.out.1, HA11.out.2.1, HA11.out.2.2⟩
                  case measure => simp [natOf]; omega
                · have haS : addS names l r.1.1 r.1.2 r.2 = addS names l r.1.1 r.1.2 r.2 := rfl
                  have hcS : accS names l acc r = acc ++ [r] := by unfold accS; rw [if_pos k3]
                  rw [hcS] at HR7
                  have hroom : decide (r.1.1 ∈ ds) = true ∨ (decide (r.1.1 ∈ ds) = false ∧ (ds.length : Int) < names) := by
                    unfold roomB at k2
                    rw [Bool.or_eq_true] at k2
                    rw [HQ5.out.2.2.2.2.2.1]
                    rcases k2 with k2 | k2
                    · cases hq : decide (r.1.1 ∈ domsL l)
                      · exact .inr ⟨rfl, of_decide_eq_true k2⟩
                      · exact .inl rfl
                    · exact .inl k2
                  rw [k3]
                  have hnews : acc.flatMap resCells ++ [.string ⟨r.1.1.toArray⟩, .int .u8 (r.1.2 : Int), .int .u8 (r.2 : Int)] = (acc ++ [r]).flatMap resCells := by
                    rw [List.flatMap_append]
                    simp [resCells]
                  have hacl := HQ.out.2.2.2.1
                  have HRM := Lib.hid (And.intro hroom hnews)
                  clear hroom hnews haS hcS k1 k2 k3
                  go_wp2_with (at_builtin; refine Bx.h ?_)
                  refine ⟨?_⟩
                  refine wpList_append_own _ rfl _ _ 22 rfl w₀.heap.size 34 i1 (.agg #[.string ⟨#[]⟩, .int .u8 0, .int .u8 0]) 3 24 Tryd.underlying22 hi1 hr0 hr1 hr2 rfl (by decide) _ _ _ rfl (HR7.out.2.2.1.alloc _) ⟨w7.heap.size, 0, none⟩ 1 1 [.string ⟨r.1.1.toArray⟩, .int .u8 (r.1.2 : Int), .int .u8 (r.2 : Int)] rfl rfl (cell_three rfl) (by simp [Value.oneCell']) (by unfold maxLen; omega) (by omega) (by have := HR7.out.1.size; simp; omega) ?_
                  intro v' w8 hown3 hgrow3 hnil3
                  have hg8 : w7.grownBy w8 u7.ownBlock := World.grownBy.trans (World.grownBy_alloc _ _ _) hgrow3
                  have hS8 := HR7.out.1.to (HR7.out.1.below.grown hg8 HR7.out.1.size (fun k e => (HR7.out.2.2.1.lt k e).1))
                  have hT8 := HR7.out.2.1.grow HR7.out.2.2.1 hg8
                  rw [HRM.out.2] at hown3
                  have hC8 : CntAt w8 w₀.heap.size v' (acc ++ [r]) := by
                    unfold CntAt
                    rw [List.length_append]
                    exact hown3
                  have HA8 := Lib.hid (And.intro hS8 (And.intro hT8 hC8))
                  clear hown3 hgrow3 hnil3 hg8 hS8 hT8 hC8 c0 c1 c2 ead hacl
                  rcases HRM.out.1 with hd | ⟨hd, hlt⟩
                  · rw [hd]
                    clear hd
                    go_wp2
                    go_roundw
                    case rel => exact ⟨i + 1, addS names l r.1.1 r.1.2 r.2, acc ++ [r], by simp, by omega, by have := HQ.out.2.2.2.2.1; simp; omega, HA8.out.1, HA8.out.2.1, HA8.out.2.2⟩
                    case measure => simp [natOf]; omega
                  · rw [hd]
                    clear hd
                    have hlt2 : ¬ names ≤ (ds.length : Int) := by omega
                    go_wp2
                    go_roundw
                    case rel => exact ⟨i + 1, addS names l r.1.1 r.1.2 r.2, acc ++ [r], by simp, by omega, by have := HQ.out.2.2.2.2.1; simp; omega, HA8.out.1, HA8.out.2.1, HA8.out.2.2⟩
                    case measure => simp [natOf]; omega
          · have hli : ¬ (i : Int) < (rs.length : Int) := by omega
            have hacc : acc.length ≤ 1000 := by have := HS.out.2; omega
            have hR := rows_step hT hacc
            have hsh : ∃ pv cv, u7 = .slice pv acc.length cv := by
              rcases hC.2 with ⟨e, h0⟩ | ⟨g, cap, cur, e, _⟩
              · exact ⟨none, 0, by rw [e, h0]⟩
              · exact ⟨_, _, e⟩
            obtain ⟨pv, cv, rfl⟩ := hsh
            have HQ := Lib.hid (And.intro hS (And.intro hT (And.intro hC hacc)))
            clear hS hT hC hacc hai hi HS3
            go_wp2_with fail
            refine hR.mono ?_
            rintro e w4 ⟨va, pa, rfl, hPa, hRa, hB4⟩
            have hHc := HQ.out.2.1.inv.cnts
            have htot := HQ.out.2.1.inv.total hPa
            have hxl : (rowsOf l pa).length ≤ 1000000 := by rw [rows_len hPa]; exact (HQ.out.2.1.goodL HQ.out.2.2.2).2
            have hnn : ∀ x ∈ rowsOf l pa, ∀ c ∈ x.2, 0 ≤ c := fun x hx c hc => ((rows_good (HQ.out.2.1.goodL HQ.out.2.2.2).1 x hx).2 c hc).1
            have hx11 := rows_11 HQ.out.2.1.inv pa
            have hxe : ∀ x ∈ rowsOf l pa, x.2 = (List.range 11).map fun k => (manyR acc (x.1, k) : Int) := by
              intro x hx
              obtain ⟨q, _, rfl⟩ := List.mem_map.1 hx
              exact hHc q
            generalize rowsOf l pa = xs at *
            have hsh : ∃ pr cr, va = .slice pr xs.length cr := by
              obtain ⟨vs, _, _, hvo⟩ := hRa
              rcases hvo.2 with ⟨rfl, h0⟩ | ⟨g, cap, cur, rfl, _⟩
              · exact ⟨none, 0, by rw [h0]⟩
              · exact ⟨_, _, rfl⟩
            obtain ⟨pr, cr, rfl⟩ := hsh
            have HQ4 := Lib.hid (And.intro (HQ.out.1.next hB4) (And.intro (HQ.out.2.1.next hB4) (And.intro (HQ.out.2.2.1.below hB4) (RowsT.zero (T := 41) hRa))))
            have HX := Lib.hid (And.intro htot (And.intro hxl (And.intro hnn (And.intro hx11 hxe))))
            clear hR hRa hB4 hPa hHc htot hxl hnn hx11 hxe
            go_wp2_with fail
            go_loopw [15, 16] (fun sv iv wr => ∃ i : Nat, iv = .int .i64 (i : Int) ∧ i ≤ xs.length ∧ sv = .int .i64 (tot (xs.take i)) ∧ Below w4.heap.size w4 wr)
              (fun _ iv _ => xs.length - natOf iv)
            case atStart => exact ⟨0, rfl, Nat.zero_le _, rfl, Below.refl _ _⟩
            case round =>
              obtain ⟨i, rfl, hi, rfl, hBr⟩ := hrel
              by_cases hlast : i < xs.length
              · have hli : (i : Int) < (xs.length : Int) := by omega
                have hx1 := HX.out.2.2.2.1 xs[i] (List.getElem_mem hlast)
                have hx2 := HX.out.2.2.2.2 xs[i] (List.getElem_mem hlast)
                have hx3 := HX.out.2.2.1 xs[i] (List.getElem_mem hlast)
                have hts := tot_take_succ hlast
                have htl := tot_take_le HX.out.2.2.1 i
                have htl2 := tot_take_le HX.out.2.2.1 (i + 1)
                rw [HX.out.1] at htl htl2
                have ha1 := HQ.out.2.2.2
                have hcellsAll : ∀ W, Below w4.heap.size w4 W → ∃ g g2 cap2, pr = some ⟨g, 0, none⟩ ∧ xs.length ≤ cr ∧ W4 W g i xs[i] g2 cap2 ∧ 10 ≤ cap2 := by
                  intro W hBW
                  obtain ⟨vs, hvl, hvf, hvo⟩ := HQ4.out.2.2.2.below hBW
                  obtain ⟨g, g2, cap2, e, hcr, x0, x1, x2, x3, x4, x5⟩ := rows_at hvl hvf hvo HX.out.2.2.2.1 hlast
                  exact ⟨g, g2, cap2, e, hcr, ⟨x0, x1, x2, x3, x5⟩, x4⟩
                generalize xs[i] = q at *
                obtain ⟨T, hTT⟩ : ∃ T, T = tot (xs.take i) := ⟨_, rfl⟩
                rw [← hTT] at hts htl ⊢
                have HI := Lib.hid (And.intro hx1 (And.intro hx2 (And.intro hx3 (And.intro hts (And.intro htl (And.intro htl2 (And.intro ha1 hcellsAll)))))))
                clear hx1 hx2 hx3 hts htl htl2 ha1 hcellsAll hTT
                go_wp2_with fail
                go_loopw [15, 17] (fun sv kv wr => ∃ k : Nat, kv = .int .i64 (k : Int) ∧ k ≤ 11 ∧ sv = .int .i64 (T + (q.2.take k).sum) ∧ Below w4.heap.size w4 wr)
                  (fun _ kv _ => 11 - natOf kv)
                case atStart => exact ⟨0, rfl, Nat.zero_le _, by simp, hBr⟩
                case round =>
                  obtain ⟨k, rfl, hk, rfl, hBk⟩ := hrel
                  by_cases hk1 : k < 11
                  · have hki : (k : Int) ≤ 10 := by omega
                    obtain ⟨g, g2, cap2, rfl, hcr, ⟨x0, x1, x2, x3, x5⟩, hc2⟩ := HI.out.2.2.2.2.2.2.2 _ hBk
                    obtain ⟨h11, hqm, hnn, hts, htl, htl2, ha1, -⟩ := HI.out
                    have hqk : ∀ j, j < 11 → q.2.getD j 0 = (manyR acc (q.1, j) : Int) := by
                      intro j hj
                      rw [hqm]
                      simp [hj]
                    have hnext : T + (q.2.take (k + 1)).sum = T + (q.2.take k).sum + (manyR acc (q.1, k) : Int) := by
                      rw [sum_take_succ (by omega), ← hqk k hk1]
                      have : q.2.getD k 0 = q.2[k]'(by omega) := by simp [show k < q.2.length by omega]
                      rw [this]
                      omega
                    have hb0 : 0 ≤ T + (q.2.take k).sum := by
                      have := sum_nonneg (l := q.2.take k) (fun x hx => hnn x (List.mem_of_mem_take hx))
                      omega
                    have hb1 : T + (q.2.take (k + 1)).sum ≤ 1000 := by
                      have := sum_take_le hnn (k + 1)
                      omega
                    rw [hnext] at hb1
                    have hM := many_any wr.drew (.slice pv acc.length cv) acc (q.1, k) (((HQ4.out.2.2.1.below hBk).below (below_drewN (Below.refl _ wr) 1)).res).1 (by omega) (((HQ4.out.2.2.1.below hBk).below (below_drewN (Below.refl _ wr) 1)).res).2
                    have hw8 : IntKind.u8.wrap (k : Int) = (k : Int) := by
                      simp [IntKind.wrap, IntKind.bits, IntKind.signed]
                      omega
                    have hcount : ∃ n : Int, n = (manyR acc (q.1, k) : Int) := ⟨_, rfl⟩
                    obtain ⟨⟨qd, qt⟩, qc⟩ := q
                    dsimp only at x0 x1 x2 x5 hqk hnext hb0 hb1 hM
                    obtain ⟨S, hSS⟩ : ∃ S, S = T + (qc.take k).sum := ⟨_, rfl⟩
                    rw [← hSS] at hnext hb0 hb1 ⊢
                    have HNX := Lib.hid (And.intro hnext hBk)
                    have hm0 : 0 ≤ (manyR acc ((qd, qt), k) : Int) := by omega
                    have hglt : g < wr.drew.heap.size := cell_lt x0
                    by_cases hk0 : k = 0
                    · have x2' : wr.cell? ⟨g, i * 4 + 2, none⟩ = some (.int .i64 (manyR acc ((qd, qt), k) : Int)) := by
                        have := hqk k hk1
                        rw [x2]
                        rw [← this, hk0]
                      have hkz : ¬ (0 : Int) < (k : Int) := by omega
                      clear hqk x2 x5 x3 hnext hBk hqm hnn hts htl htl2 ha1 h11 hcount hSS hk0
                      generalize (manyR acc ((qd, qt), k) : Int) = z at *
                      generalize (⟨qd.toArray⟩ : ByteArray) = sd at *
                      go_wp2_with fail
                      go_region_held3 (fun w' => w'.cell? ⟨g, i * 4, none⟩ = some (.string sd) ∧ w'.cell? ⟨g, i * 4 + 1, none⟩ = some (.int .u8 (qt : Int))) (first | go_keep | (refine ⟨k0, k1⟩))
                          ((go_at_call 17; refine hM.mono ?_; rintro e w5 ⟨rfl, hB5⟩; have k0 := (hB5.cell hglt).trans x0; have k1 := (hB5.cell hglt).trans x1))
                      have HB5 := Lib.hid ((HNX.out.2.trans (Below.less (below_drewN (Below.refl _ wr) 1) HNX.out.2.size)).trans (Below.less hB5 HNX.out.2.size))
                      clear hB5 hM x0 x1
                      go_wp2
                      go_roundw
                      case rel => exact ⟨k + 1, by simp, by omega, by rw [HNX.out.1], HB5.out⟩
                      case measure => simp [natOf]; omega
                    · obtain ⟨j, hj⟩ : ∃ j, k = j + 1 := ⟨k - 1, by omega⟩
                      have x6 := x5 j (by omega)
                      rw [← hj, hqk k hk1] at x6
                      have hkz : (0 : Int) < (k : Int) := by omega
                      have hsub : (k : Int) - 1 = (j : Int) := by omega
                      have hj10 : (j : Int) < 10 := by omega
                      clear hqk x5 hnext hBk hqm hnn hts htl htl2 ha1 h11 hcount hSS hk0 hj
                      generalize (manyR acc ((qd, qt), k) : Int) = z at *
                      generalize qc.getD 0 0 = z0 at *
                      generalize (⟨qd.toArray⟩ : ByteArray) = sd at *
                      go_wp2_with fail
                      go_region_held3 (fun w' => w'.cell? ⟨g, i * 4, none⟩ = some (.string sd) ∧ w'.cell? ⟨g, i * 4 + 1, none⟩ = some (.int .u8 (qt : Int))) (first | go_keep | (refine ⟨k0, k1⟩))
                          ((go_at_call 17; refine hM.mono ?_; rintro e w5 ⟨rfl, hB5⟩; have k0 := (hB5.cell hglt).trans x0; have k1 := (hB5.cell hglt).trans x1))
                      have HB5 := Lib.hid ((HNX.out.2.trans (Below.less (below_drewN (Below.refl _ wr) 1) HNX.out.2.size)).trans (Below.less hB5 HNX.out.2.size))
                      clear hB5 hM x0 x1
                      go_wp2
                      go_roundw
                      case rel => exact ⟨k + 1, by simp, by omega, by rw [HNX.out.1], HB5.out⟩
                      case measure => simp [natOf]; omega
                  · have hki : ¬ (k : Int) ≤ 10 := by omega
                    obtain rfl : k = 11 := by omega
                    obtain ⟨h11, -, -, hts, -, -, -, -⟩ := HI.out
                    have hsum : T + (q.2.take 11).sum = tot (xs.take (i + 1)) := by
                      rw [hts, List.take_of_length_le (by omega)]
                    rw [hsum]
                    have HK := Lib.hid (And.intro hBk hi)
                    have hil : (i : Int) < 1000000 := by have := HX.out.2.1; omega
                    clear hBk hts h11 hsum
                    generalize hT2 : tot (xs.take (i + 1)) = T2 at *
                    go_wp2
                    go_roundw
                    case rel => exact ⟨i + 1, by simp, by omega, by rw [hT2], HK.out.1⟩
                    case measure => simp [natOf]; omega
              · have hli : ¬ (i : Int) < (xs.length : Int) := by omega
                obtain rfl : i = xs.length := by omega
                rw [List.take_length, HX.out.1]
                have hT := HQ4.out.2.1.next hBr
                have hAl := all_step hT HQ.out.2.2.2
                have HF := Lib.hid (And.intro (HQ4.out.1.next hBr) hT)
                clear hBr hT hi
                go_wp2_with fail
                refine hAl.mono ?_
                rintro e w5 ⟨rfl, hB5⟩
                have hT5 := HF.out.2.next hB5
                have hD := domains_any' b1 bm1 names l w5 hT5.at_ (hT5.goodL HQ.out.2.2.2).2
                have HF5 := Lib.hid (And.intro (HF.out.1.next hB5) hT5.inv.room)
                clear hAl hB5 hT5
                go_wp2_with fail
                refine hD.mono ?_
                rintro e w6 ⟨vd, rfl, hod, hB6⟩
                have hsh : ∃ pd cd, vd = .slice pd (domsL l).length cd := by
                  rcases hod.2 with ⟨rfl, h0⟩ | ⟨g, cap, cur, rfl, _⟩
                  · exact ⟨none, 0, by rw [h0]⟩
                  · exact ⟨_, _, rfl⟩
                obtain ⟨pd, cd, rfl⟩ := hsh
                have hroom := HF5.out.2
                have HF6 := Lib.hid (HF5.out.1.next hB6)
                clear hD hod hB6
                go_wp2
                refine bodyPost_ret (v := .bool true) (by simp [results, Tryd.results3, go_sem]) rfl ⟨rfl, HF6.out.below⟩
      · have hN := tallyNew_bad names w2 (.inr (by omega))
        have HS2 := Lib.hid hS2
        clear hW hB2 hS2 hn1 hn2
        go_wp2_with fail
        refine hN.mono ?_
        rintro e w3 ⟨rfl, rfl⟩
        go_wp2
        refine bodyPost_ret (v := .bool true) (by simp [results, Tryd.results3, go_sem]) rfl ⟨rfl, HS2.out.below⟩
    · have hN := tallyNew_bad names w2 (.inl (by omega))
      have HS2 := Lib.hid hS2
      clear hW hB2 hS2 hn1
      go_wp2_with fail
      refine hN.mono ?_
      rintro e w3 ⟨rfl, rfl⟩
      go_wp2
      refine bodyPost_ret (v := .bool true) (by simp [results, Tryd.results3, go_sem]) rfl ⟨rfl, HS2.out.below⟩
  · have HS := Lib.hid hS1
    clear hS1 hb
    go_wp2_with fail
    refine hW.mono ?_
    rintro e w2 ⟨rfl, hB2⟩
    have HS2 := Lib.hid (HS.out.next hB2)
    clear hW hB2
    go_wp2
    refine bodyPost_ret (v := .bool true) (by simp [results, Tryd.results3, go_sem]) rfl ⟨rfl, HS2.out.below⟩
end Go.Proofs.YthhcigmdocldnaaDoor
