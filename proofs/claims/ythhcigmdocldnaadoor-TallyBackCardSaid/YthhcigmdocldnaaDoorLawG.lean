/- TallyBack: the walk. -/
import Derived.Test.YthhcigmdocldnaaDoorLawD
import Derived.Test.YthhcigmdocldnaaDoorLawE
import Derived.Test.YthhcigmdocldnaaDoorOfC
import Derived.Test.YthhcigmdocldnaaDoorPlayC
namespace Go.Proofs.YthhcigmdocldnaaDoor
open Go Go.RowKit Go.Shelf Go.Sort

set_option maxRecDepth 100000 in
set_option maxHeartbeats 2000000 in
theorem back_any (w₀ : World) (names : Int) (v v2 : Value) (rs rs2 : List Res) (hA : ArgR w₀ v rs) (hA2 : ArgR w₀ v2 rs2) (hg : Glob w₀) (hm : MayT w₀) :
    Calls Tryd.prog 6 #[.int .i64 names, v, v2] w₀ fun e w' => e = .returned (.bool true) ∧ Below w₀.heap.size w₀ w' := by
  have hL := long_any w₀ v rs hA.at_
  obtain ⟨p, c, rfl, hel⟩ := hA.shape
  obtain ⟨p2, c2, rfl, hel2⟩ := hA2.shape
  have HA := Lib.hid (And.intro hA (And.intro hel (And.intro hg hm)))
  have HA2 := Lib.hid (And.intro hA2 hel2)
  clear hA hel hg hm hA2 hel2
  go_enter Tryd.func6, Tryd.ntmps6
  go_wp2_with fail
  refine hL.mono ?_
  rintro e w1 ⟨b, m, rfl, hb, rfl⟩
  have hB1 : Below w₀.heap.size w₀ (w₀.drewN m) := below_drewN (Below.refl _ w₀) m
  have hS1 : Sess w₀ (w₀.drewN m) := ⟨hB1, HA.out.2.2.1, HA.out.2.2.2⟩
  have hres2 : ResAt (w₀.drewN m) (.slice p2 rs2.length c2) rs2 := HA2.out.1.at_
  have hL2 := long_any (w₀.drewN m) _ rs2 hres2
  have hW := awake_any (w₀.drewN m) hS1.glob hS1.mayt
  clear hL hB1 hres2
  generalize w₀.drewN m = w1 at *
  cases b
  · have hlen := hb rfl
    have HS := Lib.hid (And.intro hS1 hlen)
    clear hS1 hb hlen hW
    go_wp2_with fail
    refine hL2.mono ?_
    rintro e w1' ⟨b, m', rfl, hb, rfl⟩
    have hB1 : Below w1.heap.size w1 (w1.drewN m') := below_drewN (Below.refl _ w1) m'
    have hS1 := HS.out.1.next hB1
    have hW := awake_any (w1.drewN m') hS1.glob hS1.mayt
    clear hL2 hB1
    generalize w1.drewN m' = w1' at *
    cases b
    · have HS' := Lib.hid (And.intro hS1 (And.intro HS.out.2 (hb rfl)))
      clear hS1 hb HS
      go_wp2_with fail
      refine hW.mono ?_
      rintro e w2 ⟨rfl, hB2⟩
      have hS2 := HS'.out.1.next hB2
      by_cases hn1 : 1 ≤ names
      · by_cases hn2 : names ≤ 8
        · have hN := new_step hS2 names hn1 hn2
          have HS2 := Lib.hid hS2
          have HN := Lib.hid (And.intro hn1 hn2)
          clear hW hB2 hS2 hn1 hn2
          go_wp2_with fail
          refine hN.mono ?_
          rintro e w3 ⟨rfl, hT, hB3⟩
          obtain ⟨b1, hb1⟩ : ∃ b, b = w2.heap.size + 1 := ⟨_, rfl⟩
          obtain ⟨bm1, hbm1⟩ : ∃ b, b = w2.heap.size := ⟨_, rfl⟩
          rw [← hb1, ← hbm1] at hT
          rw [← hb1]
          have HS3 := Lib.hid (And.intro (HS2.out.next hB3) hT)
          clear hN hB3 hT HS2 hb1 hbm1
          go_wp2_with fail
          go_loopw [9] (fun iv wr => ∃ (i : Nat) (l : Ent) (acc : List Res), iv = .int .i64 (i : Int) ∧ i ≤ rs.length ∧ acc.length ≤ i ∧ (∀ x ∈ acc, x ∈ rs) ∧ Sess w₀ wr ∧ Tal w₀ wr b1 bm1 names l acc)
            (fun iv _ => rs.length - natOf iv)
          case atStart => exact ⟨0, [], [], rfl, Nat.zero_le _, Nat.le_refl _, fun x hx => by simp at hx, HS3.out.1, HS3.out.2⟩
          case round =>
            obtain ⟨i, l, acc, rfl, hi, hai, har, hS, hT⟩ := hrel
            by_cases hlast : i < rs.length
            · have hli : (i : Int) < (rs.length : Int) := by omega
              have h133 : (i : Int) < 134 := by have := HS'.out.2.1; omega
              obtain ⟨a, rfl, hc, hE⟩ := HA.out.2.1 i hlast
              obtain ⟨Ab, Ao, As, ead, c0, c1, c2⟩ := hE wr hS.below
              obtain ⟨q1, q2, q3⟩ := HA.out.1.lim rs[i] (List.getElem_mem hlast)
              have hmem : rs[i] ∈ rs := List.getElem_mem hlast
              have hadd := add_step hS hT rs[i] q1 q2 q3 (by omega)
              have HR := Lib.hid (And.intro hi (And.intro hai (And.intro har hmem)))
              clear hE hS hT q1 q2 q3 hi hai har hmem
              generalize rs[i] = r at *
              go_wp2_with fail
              refine hadd.mono ?_
              rintro e wr2 ⟨rfl, hS, hT, -⟩
              have HQ := Lib.hid (And.intro hS hT)
              clear c0 c1 c2 ead hadd hS hT
              generalize hz : addB names l r.1.1 r.1.2 r.2 = z at *
              go_wp2
              go_roundw
              case rel =>
                refine ⟨i + 1, addS names l r.1.1 r.1.2 r.2, accS names l acc r, by simp, by omega, ?_, ?_, HQ.out.1, HQ.out.2⟩
                · have h1 := accS_len names l acc r
                  have h2 := HR.out.2.1
                  omega
                · intro x hx
                  rcases accS_mem hx with h1 | rfl
                  · exact HR.out.2.2.1 x h1
                  · exact HR.out.2.2.2
              case measure => simp [natOf]; omega
            · have hli : ¬ (i : Int) < (rs.length : Int) := by omega
              have ha1 : acc.length ≤ 134 := by have := HS'.out.2.1; omega
              have hR := rows_step hT (by omega)
              have HQ := Lib.hid (And.intro hS (And.intro hT (And.intro ha1 har)))
              clear hS hT ha1 har hi hai HS3
              go_wp2_with fail
              refine hR.mono ?_
              rintro e w5 ⟨va, pa, rfl, hPa, hRa, hB5⟩
              have hinv := HQ.out.2.1.inv
              have hS5 := HQ.out.1.next hB5
              have hxl : (rowsOf l pa).length ≤ 1000 := by
                rw [rows_len hPa]
                have h1 := hinv.len
                have h2 := HQ.out.2.2.1
                omega
              have hrinv := hinv.rowsInv hPa
              have hOf := of_good w5 names HN.out.1 HN.out.2 va (rowsOf l pa) _ hRa (hinv.rowOk (fun r hr => by
                have := HA.out.1.lim r (HQ.out.2.2.2 r hr)
                exact ⟨this.1, this.2.1⟩) hPa) (by rw [rows_fst]; exact hPa.asc) hrinv.room hxl hS5.glob hS5.mayt
              have HQ5 := Lib.hid (And.intro hS5 (And.intro (HQ.out.2.1.next hB5) hrinv))
              clear hR hRa hB5 hS5 hinv hrinv
              go_wp2_with fail
              refine hOf.mono ?_
              rintro e w6 ⟨rfl, hT6, hB6⟩
              obtain ⟨b2, hb2⟩ : ∃ b, b = w5.heap.size + 1 := ⟨_, rfl⟩
              obtain ⟨bm2, hbm2⟩ : ∃ b, b = w5.heap.size := ⟨_, rfl⟩
              have hb1l : b1 < w5.heap.size := HQ5.out.2.1.blt
              have hTb : Tal w₀ w6 b2 bm2 names (rowsOf l pa) acc := ⟨by rw [hb2, hbm2]; exact hT6, HQ5.out.2.2, by rw [hbm2]; exact HQ5.out.1.size, by omega⟩
              have HQ6 := Lib.hid (And.intro (HQ5.out.1.next hB6) (And.intro (HQ5.out.2.1.next hB6) (And.intro hTb (show b1 < bm2 by omega))))
              rw [← hb2]
              clear hOf hT6 hB6 hTb hb1l hb2 hbm2
              go_wp2_with fail
              go_loopw [12] (fun iv wr => ∃ (i : Nat) (la lb : Ent) (ac : List Res), iv = .int .i64 (i : Int) ∧ i ≤ rs2.length ∧ ac.length ≤ 134 + i ∧ Sess w₀ wr ∧ Tal w₀ wr b1 bm1 names la ac ∧ Tal w₀ wr b2 bm2 names lb ac)
                (fun iv _ => rs2.length - natOf iv)
              case atStart => exact ⟨0, l, rowsOf l pa, acc, rfl, Nat.zero_le _, by have := HQ.out.2.2.1; omega, HQ6.out.1, HQ6.out.2.1, HQ6.out.2.2.1⟩
              case round =>
                obtain ⟨i, la, lb, ac, rfl, hi, hai, hS, hTa, hTb⟩ := hrel
                by_cases hlast : i < rs2.length
                · have hli : (i : Int) < (rs2.length : Int) := by omega
                  have h133 : (i : Int) < 134 := by have := HS'.out.2.2; omega
                  obtain ⟨a, rfl, hc, hE⟩ := HA2.out.2 i hlast
                  have hSd : Sess w₀ wr.drew := hS.to (hS.below.drew)
                  obtain ⟨Ab, Ao, As, ead, c0, c1, c2⟩ := hE wr.drew hSd.below
                  have hK : ∀ W, Below w₀.heap.size w₀ W → W.cell? ⟨Ab, Ao, As⟩ = some (.string ⟨rs2[i].1.1.toArray⟩) ∧ W.cell? ⟨Ab, Ao + 1, none⟩ = some (.int .u8 (rs2[i].1.2 : Int)) ∧ W.cell? ⟨Ab, Ao + 2, none⟩ = some (.int .u8 (rs2[i].2 : Int)) := by
                    intro W hW
                    obtain ⟨b', o', s', e', d0, d1, d2⟩ := hE W hW
                    rw [ead] at e'
                    injection e' with e1 e2 e3
                    subst e1 e2 e3
                    exact ⟨d0, d1, d2⟩
                  obtain ⟨q1, q2, q3⟩ := HA2.out.1.lim rs2[i] (List.getElem_mem hlast)
                  have hTad : Tal w₀ wr.drew b1 bm1 names la ac := hTa.next ((Below.refl _ wr).drew)
                  have hTbd : Tal w₀ wr.drew b2 bm2 names lb ac := hTb.next ((Below.refl _ wr).drew)
                  have hal : ac.length ≤ 1000 := by omega
                  have hadd := add_step hSd hTad rs2[i] q1 q2 q3 hal
                  have hsame := hTa.inv.same hTb.inv rs2[i]
                  rw [hsame] at hadd
                  have hsacc := hTa.inv.sameAcc hTb.inv rs2[i]
                  have n1 : bm1 ≠ b2 := by have := hTa.lt; have := HQ6.out.2.2.2; have := hTb.lt; omega
                  have n2 : bm1 ≠ bm2 := by have := hTa.lt; have := HQ6.out.2.2.2; omega
                  have n3 : bm2 ≠ b1 := by have := HQ6.out.2.2.2; omega
                  have HL := Lib.hid (And.intro hal (And.intro hai hi))
                  clear hE hS hTa hTb hSd hTad hai hi hal
                  generalize rs2[i] = r at *
                  have HK := Lib.hid (And.intro hK (And.intro q1 (And.intro q2 (And.intro q3 (And.intro hTbd (And.intro hsame (And.intro hsacc (And.intro n1 (And.intro n2 n3)))))))))
                  clear hK q1 q2 q3 hTbd hsame hsacc n1 n2 n3
                  go_wp2_with fail
                  go_region_held3 (fun w' => w'.cell? ⟨Ab, Ao, As⟩ = some (.string ⟨r.1.1.toArray⟩) ∧ w'.cell? ⟨Ab, Ao + 1, none⟩ = some (.int .u8 (r.1.2 : Int)) ∧ w'.cell? ⟨Ab, Ao + 2, none⟩ = some (.int .u8 (r.2 : Int))) (first | go_keep | (exact k6) | (exact k5))
                    ((first
                      | (go_at_call_of 14 (Value.pointer (some (Addr.mk b1 0 none))); refine hadd.mono ?_; rintro e w5 ⟨rfl, hS5, hT5, hg5⟩; have k5 := HK.out.1 w5 hS5.below)
                      | (go_at_call_of 14 (Value.pointer (some (Addr.mk b2 0 none))); refine (add_step hS5 (HK.out.2.2.2.2.1.kept hg5 HK.out.2.2.2.2.2.2.2.1 HK.out.2.2.2.2.2.2.2.2.1) r HK.out.2.1 HK.out.2.2.1 HK.out.2.2.2.1 HL.out.1).mono ?_; rintro e w6 ⟨rfl, hS6, hT6, hg6⟩; have k6 := HK.out.1 w6 hS6.below)))
                  have HT := Lib.hid (And.intro hS6 (And.intro (hT5.kept hg6 HK.out.2.2.2.2.2.2.2.2.2 (fun e => HK.out.2.2.2.2.2.2.2.2.1 e.symm)) hT6))
                  have hneq : (addB names lb r.1.1 r.1.2 r.2 != addB names lb r.1.1 r.1.2 r.2) = false := bne_self_eq_false _
                  clear hS5 hT5 hg5 hS6 hT6 hg6 k5 k6 hadd c0 c1 c2 ead
                  go_wp2
                  go_roundw
                  case rel =>
                    refine ⟨i + 1, addS names la r.1.1 r.1.2 r.2, addS names lb r.1.1 r.1.2 r.2, accS names lb ac r, by simp, by omega, ?_, HT.out.1, ?_, HT.out.2.2⟩
                    · have h1 := accS_len names lb ac r
                      have h2 := HL.out.2.1
                      omega
                    · rw [← HK.out.2.2.2.2.2.2.1]
                      exact HT.out.2.1
                  case measure => simp [natOf]; omega
                · have hli : ¬ (i : Int) < (rs2.length : Int) := by omega
                  have ha1 : ac.length ≤ 1000 := by have := HS'.out.2.2; omega
                  have hR := rows_step hTa ha1
                  have HP := Lib.hid (And.intro ha1 (And.intro hS (And.intro hTa hTb)))
                  clear ha1 hS hTa hTb hi hai
                  go_wp2_with fail
                  refine hR.mono ?_
                  rintro e w7 ⟨va2, pa2, rfl, hPa2, hRa2, hB7⟩
                  have hla : (rowsOf la pa2).length ≤ 1000000 := by rw [rows_len hPa2]; exact (HP.out.2.2.1.goodL HP.out.1).2
                  have hTo := told_any _ va2 _ w7 hRa2 hla hB7.size
                  have HA7 := Lib.hid (And.intro hPa2 (And.intro hla (And.intro (HP.out.2.1.next hB7) (And.intro (HP.out.2.2.1.next hB7) (HP.out.2.2.2.next hB7)))))
                  clear hR hRa2 hB7 hPa2 hla
                  go_wp2_with fail
                  refine hTo.mono ?_
                  rintro e w8 ⟨ua, rfl, hRT, hB8⟩
                  have hT8 := HA7.out.2.2.2.2.next hB8
                  have hR2 := rows_step hT8 HP.out.1
                  have HA8 := Lib.hid (And.intro (HA7.out.2.2.1.next hB8) (And.intro (HA7.out.2.2.2.1.next hB8) (And.intro hT8 hRT.zero)))
                  clear hTo hB8 hT8 hRT
                  go_wp2_with fail
                  refine hR2.mono ?_
                  rintro e w9 ⟨vb, pb, rfl, hPb, hRb, hB9⟩
                  have hlb : (rowsOf lb pb).length ≤ 1000000 := by rw [rows_len hPb]; exact (HP.out.2.2.2.goodL HP.out.1).2
                  have hTo2 := told_any _ vb _ w9 hRb hlb hB9.size
                  have HA9 := Lib.hid (And.intro hPb (And.intro hlb (And.intro (HA8.out.1.next hB9) (And.intro (HA8.out.2.1.next hB9) (And.intro (HA8.out.2.2.1.next hB9) (HA8.out.2.2.2.below hB9))))))
                  clear hR2 hRb hB9 hPb hlb
                  go_wp2_with fail
                  refine hTo2.mono ?_
                  rintro e w10 ⟨ub, rfl, hRT2, hB10⟩
                  have hSa := same_any 0 ua ub _ _ w10 (HA9.out.2.2.2.2.2.below hB10) hRT2.zero (rows_11 HP.out.2.2.1.inv pa2) (rows_11 HP.out.2.2.2.inv pb) HA7.out.2.1 HA9.out.2.1
                  have heq : rowsOf la pa2 = rowsOf lb pb := HP.out.2.2.1.inv.rows HP.out.2.2.2.inv (List.Perm.refl _) HA7.out.1 HA9.out.1
                  rw [decide_eq_true heq] at hSa
                  have HA10 := Lib.hid (And.intro (HA9.out.2.2.1.next hB10) (And.intro (HA9.out.2.2.2.1.next hB10) (HA9.out.2.2.2.2.1.next hB10)))
                  clear hTo2 hB10 hRT2 heq
                  go_wp2_with fail
                  refine hSa.mono ?_
                  rintro e w11 ⟨rfl, hB11⟩
                  have hT11 := HA10.out.2.1.next hB11
                  have hR3 := rows_step hT11 HP.out.1
                  have HA11 := Lib.hid (And.intro (HA10.out.1.next hB11) (And.intro hT11 (HA10.out.2.2.next hB11)))
                  clear hSa hB11 hT11
                  go_wp2_with fail
                  refine hR3.mono ?_
                  rintro e w12 ⟨vc, pc', rfl, hPc, hRc, hB12⟩
                  have hT12 := HA11.out.2.2.next hB12
                  have hR4 := rows_step hT12 HP.out.1
                  have HA12 := Lib.hid (And.intro (HA11.out.1.next hB12) (And.intro (HA11.out.2.1.next hB12) (And.intro hT12 (And.intro (RowsT.zero (T := 41) hRc) hPc))))
                  clear hR3 hRc hB12 hPc hT12
                  go_wp2_with fail
                  refine hR4.mono ?_
                  rintro e w13 ⟨vd, pd', rfl, hPd, hRd, hB13⟩
                  have heq : rowsOf la pc' = rowsOf lb pd' := HP.out.2.2.1.inv.rows HP.out.2.2.2.inv (List.Perm.refl _) HA12.out.2.2.2.2 hPd
                  have hRd0 := RowsT.zero (T := 41) hRd
                  rw [← heq] at hRd0
                  have hSt := sameT_eq w13 0 vc vd _ (HA12.out.2.2.2.1.below hB13) hRd0 (rows_11 HP.out.2.2.1.inv pc') (by rw [rows_len HA12.out.2.2.2.2]; exact (HP.out.2.2.1.goodL HP.out.1).2)
                  have HA13 := Lib.hid (And.intro (HA12.out.1.next hB13) (And.intro (HA12.out.2.1.next hB13) (HA12.out.2.2.1.next hB13)))
                  clear hR4 hRd hRd0 hB13 hPd heq
                  go_wp2_with fail
                  refine hSt.mono ?_
                  rintro e w14 ⟨rfl, hB14⟩
                  have hAl := all_step (HA13.out.2.1.next hB14) HP.out.1
                  have HA14 := Lib.hid (And.intro (HA13.out.1.next hB14) (HA13.out.2.2.next hB14))
                  clear hSt hB14
                  go_wp2_with fail
                  refine hAl.mono ?_
                  rintro e w15 ⟨rfl, hB15⟩
                  have hAl2 := all_step (HA14.out.2.next hB15) HP.out.1
                  have HA15 := Lib.hid (HA14.out.1.next hB15)
                  clear hAl hB15
                  go_wp2_with fail
                  refine hAl2.mono ?_
                  rintro e w16 ⟨rfl, hB16⟩
                  have HA16 := Lib.hid (HA15.out.next hB16)
                  clear hAl2 hB16
                  go_wp2
                  refine bodyPost_ret (v := .bool true) (by simp [results, Tryd.results6, go_sem]) rfl ⟨rfl, HA16.out.below⟩
        · have hN := tallyNew_bad names w2 (.inr (by omega))
          have HS2 := Lib.hid hS2
          clear hW hB2 hS2 hn1 hn2
          go_wp2_with fail
          refine hN.mono ?_
          rintro e w3 ⟨rfl, rfl⟩
          go_wp2
          refine bodyPost_ret (v := .bool true) (by simp [results, Tryd.results6, go_sem]) rfl ⟨rfl, HS2.out.below⟩
      · have hN := tallyNew_bad names w2 (.inl (by omega))
        have HS2 := Lib.hid hS2
        clear hW hB2 hS2 hn1
        go_wp2_with fail
        refine hN.mono ?_
        rintro e w3 ⟨rfl, rfl⟩
        go_wp2
        refine bodyPost_ret (v := .bool true) (by simp [results, Tryd.results6, go_sem]) rfl ⟨rfl, HS2.out.below⟩
    · have HS' := Lib.hid hS1
      clear hS1 hb
      go_wp2_with fail
      refine hW.mono ?_
      rintro e w2 ⟨rfl, hB2⟩
      have HS2 := Lib.hid (HS'.out.next hB2)
      clear hW hB2
      go_wp2
      refine bodyPost_ret (v := .bool true) (by simp [results, Tryd.results6, go_sem]) rfl ⟨rfl, HS2.out.below⟩
  · have HS := Lib.hid hS1
    clear hS1 hb hL2
    go_wp2_with fail
    refine hW.mono ?_
    rintro e w2 ⟨rfl, hB2⟩
    have HS2 := Lib.hid (HS.out.next hB2)
    clear hW hB2
    go_wp2
    refine bodyPost_ret (v := .bool true) (by simp [results, Tryd.results6, go_sem]) rfl ⟨rfl, HS2.out.below⟩
end Go.Proofs.YthhcigmdocldnaaDoor
