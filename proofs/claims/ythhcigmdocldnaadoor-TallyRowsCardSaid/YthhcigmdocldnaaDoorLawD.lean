/- TallyOrder: the walk. -/
import Derived.Test.YthhcigmdocldnaaDoorLawC
namespace Go.Proofs.YthhcigmdocldnaaDoor
open Go Go.RowKit Go.Shelf Go.Sort

/-- The results that a law was handed. -/
structure ArgR (w₀ : World) (v : Value) (rs : List Res) : Prop where
  at_ : ResAt w₀ v rs
  lim : ∀ r ∈ rs, r.1.1.length ≤ maxLen ∧ r.1.2 < 256 ∧ r.2 < 256
/-- One of them. -/
def ElemAt (w : World) (a : Addr) (i : Nat) (r : Res) : Prop := ∃ b o s, a.add (i * 3) = ⟨b, o, s⟩ ∧ w.cell? ⟨b, o, s⟩ = some (.string ⟨r.1.1.toArray⟩) ∧ w.cell? ⟨b, o + 1, none⟩ = some (.int .u8 (r.1.2 : Int)) ∧ w.cell? ⟨b, o + 2, none⟩ = some (.int .u8 (r.2 : Int))
theorem ArgR.shape {w₀ : World} {v : Value} {rs : List Res} (h : ArgR w₀ v rs) : ∃ p c, v = .slice p rs.length c ∧ ∀ i (hi : i < rs.length), ∃ a, p = some a ∧ rs.length ≤ c ∧ ∀ w, Below w₀.heap.size w₀ w → ElemAt w a i rs[i] := by
  rcases h.at_ with ⟨rfl, rfl⟩ | ⟨a, cap, rfl, hcap, hc⟩
  · exact ⟨none, 0, rfl, fun i hi => by simp at hi⟩
  · refine ⟨some a, cap, rfl, fun i hi => ⟨a, rfl, hcap, fun w hw => ?_⟩⟩
    obtain ⟨c0, c1, c2⟩ := hc i hi
    have hb : a.block < w₀.heap.size := by
      have := cell_lt c0
      rwa [add_block] at this
    rw [← Deep.add_add] at c1 c2
    have hk : ∀ k v, w₀.cell? ((a.add (i * 3)).add k) = some v → w.cell? ((a.add (i * 3)).add k) = some v := fun k v hv => (hw.cell (by rw [add_block, add_block]; exact hb)).trans hv
    have d1 := hk 1 _ c1
    have d2 := hk 2 _ c2
    have d0 : w.cell? (a.add (i * 3)) = some (.string ⟨rs[i].1.1.toArray⟩) := (hw.cell (by rw [add_block]; exact hb)).trans c0
    obtain ⟨b, o, s, e⟩ : ∃ b o s, a.add (i * 3) = ⟨b, o, s⟩ := ⟨_, _, _, rfl⟩
    rw [e] at d0 d1 d2
    simp [Addr.add] at d1 d2
    exact ⟨b, o, s, e, d0, d1, d2⟩

theorem wrapU_len {n : Nat} (h : n < 134) : IntKind.u64.wrap (n : Int) = (n : Int) := by
  simp [IntKind.wrap, IntKind.bits, IntKind.signed]
  omega
theorem turn_nat (turn : Int) {n : Nat} (h0 : n ≠ 0) (h : n < 134) : ∃ k : Nat, k < n ∧ wrap64 ((IntKind.u64.wrap turn).tmod (n : Int)) = (k : Int) := by
  have h1 : 0 ≤ IntKind.u64.wrap turn := by
    simp [IntKind.wrap, IntKind.bits, IntKind.signed]
    omega
  generalize IntKind.u64.wrap turn = x at *
  obtain ⟨m, rfl⟩ := Int.eq_ofNat_of_zero_le h1
  have hm := Nat.mod_lt m (show 0 < n by omega)
  refine ⟨m % n, hm, ?_⟩
  have e : ((m : Int).tmod (n : Int)) = ((m % n : Nat) : Int) := rfl
  rw [e]
  unfold wrap64; omega

set_option maxRecDepth 100000 in
set_option maxHeartbeats 1000000 in
theorem order_any (w₀ : World) (names turn : Int) (v : Value) (rs : List Res) (hA : ArgR w₀ v rs) (hg : Glob w₀) (hm : MayT w₀) (ht1 : -9223372036854775808 ≤ turn) (ht2 : turn ≤ 9223372036854775807) :
    Calls Tryd.prog 4 #[.int .i64 names, v, .int .i64 turn] w₀ fun e w' => e = .returned (.bool true) ∧ Below w₀.heap.size w₀ w' := by
  have hL := long_any w₀ v rs hA.at_
  obtain ⟨p, c, rfl, hel⟩ := hA.shape
  have HA := Lib.hid (And.intro hA (And.intro hel (And.intro hg (And.intro hm (And.intro ht1 ht2)))))
  clear hA hel hg hm ht1 ht2
  go_enter Tryd.func4, Tryd.ntmps4
  go_wp2_with fail
  refine hL.mono ?_
  rintro e w1 ⟨b, m, rfl, hb, rfl⟩
  have hB1 : Below w₀.heap.size w₀ (w₀.drewN m) := below_drewN (Below.refl _ w₀) m
  have hS1 : Sess w₀ (w₀.drewN m) := ⟨hB1, HA.out.2.2.1, HA.out.2.2.2.1⟩
  have hW := awake_any (w₀.drewN m) hS1.glob hS1.mayt
  clear hL hB1
  generalize w₀.drewN m = w1 at *
  cases b
  · have hlen := hb rfl
    by_cases h0 : rs.length = 0
    · have h0i : (rs.length : Int) = 0 := by omega
      have HS := Lib.hid hS1
      clear hS1 hb h0
      go_wp2_with fail
      refine hW.mono ?_
      rintro e w2 ⟨rfl, hB2⟩
      have HS2 := Lib.hid (HS.out.next hB2)
      clear hW hB2
      go_wp2
      refine bodyPost_ret (v := .bool true) (by simp [results, Tryd.results4, go_sem]) rfl ⟨rfl, HS2.out.below⟩
    · have h0i : ((rs.length : Int) == 0) = false := beq_eq_false_iff_ne.2 (by omega)
      have HS := Lib.hid (And.intro hS1 (And.intro hlen h0))
      clear hS1 hb h0 hlen
      go_wp2_with fail
      refine hW.mono ?_
      rintro e w2 ⟨rfl, hB2⟩
      have hS2 := HS.out.1.next hB2
      by_cases hn1 : 1 ≤ names
      · by_cases hn2 : names ≤ 8
        · have hN := new_step hS2 names hn1 hn2
          have HS2 := Lib.hid (And.intro hS2 (And.intro hn1 hn2))
          clear hW hB2 hS2 hn1 hn2
          go_wp2_with fail
          refine hN.mono ?_
          rintro e w3 ⟨rfl, hT, hB3⟩
          have hS3 := HS2.out.1.next hB3
          have hN' := new_step hS3 names HS2.out.2.1 HS2.out.2.2
          have HS3 := Lib.hid (And.intro hS3 hT)
          have hlt : w2.heap.size + 1 < w3.heap.size := hT.blt
          obtain ⟨b1, hb1⟩ : ∃ b, b = w2.heap.size + 1 := ⟨_, rfl⟩
          obtain ⟨bm1, hbm1⟩ : ∃ b, b = w2.heap.size := ⟨_, rfl⟩
          rw [← hb1, ← hbm1] at HS3
          rw [← hb1] at hlt ⊢
          clear hN hB3 hS3 hT HS2 hb1
          go_wp2_with fail
          refine hN'.mono ?_
          rintro e w4 ⟨rfl, hT2, hB4⟩
          have hS4 := HS3.out.1.next hB4
          have hT1 := HS3.out.2.next hB4
          obtain ⟨b2, hb2⟩ : ∃ b, b = w3.heap.size + 1 := ⟨_, rfl⟩
          obtain ⟨bm2, hbm2⟩ : ∃ b, b = w3.heap.size := ⟨_, rfl⟩
          rw [← hb2, ← hbm2] at hT2
          rw [← hb2]
          rw [← hbm2] at hlt hb2
          have H4 := Lib.hid (And.intro hS4 (And.intro hT1 (And.intro hT2 (And.intro hlt (And.intro HS.out.2.1 hb2)))))
          clear hB4 hS4 hT1 hT2 hN' HS3 HS hlt hb2 hbm2 hbm1
          obtain ⟨-, -, -, -, hlen, -⟩ := H4.out
          have hwl := wrapU_len hlen
          have hdz : ¬ (rs.length : Int) = 0 := by simpa using h0i
          obtain ⟨k, hkn, hk⟩ := turn_nat turn (n := rs.length) (by omega) hlen
          have HK := Lib.hid hkn
          clear hkn hlen
          go_wp2_with fail
          rw [hk]
          have HZ := Lib.hid hdz
          clear hwl hk hdz h0i
          go_loopw [12] (fun iv wr => ∃ (i : Nat) (l : Ent), iv = .int .i64 (i : Int) ∧ i ≤ rs.length ∧ Sess w₀ wr ∧ Tal w₀ wr b1 bm1 names l ((rs.take i).filter okR) ∧ Tal w₀ wr b2 bm2 names [] [])
            (fun iv _ => rs.length - natOf iv)
          case atStart => exact ⟨0, [], rfl, Nat.zero_le _, H4.out.1, H4.out.2.1, H4.out.2.2.1⟩
          case round =>
            obtain ⟨i, l, rfl, hi, hS, hT1, hT2⟩ := hrel
            by_cases hlast : i < rs.length
            · have hli : (i : Int) < (rs.length : Int) := by omega
              have h133 : (i : Int) < 134 := by have := H4.out.2.2.2.2.1; omega
              obtain ⟨a, rfl, hc, hE⟩ := HA.out.2.1 i hlast
              obtain ⟨Ab, Ao, As, ead, c0, c1, c2⟩ := hE wr hS.below
              obtain ⟨q1, q2, q3⟩ := HA.out.1.lim rs[i] (List.getElem_mem hlast)
              have hacc : ((rs.take i).filter okR).length ≤ 1000 := by
                have h1 := List.length_filter_le okR (rs.take i)
                have h2 := H4.out.2.2.2.2.1
                simp at h1
                omega
              have hadd := add_step hS hT1 rs[i] q1 q2 q3 hacc
              have htk : rs.take (i + 1) = rs.take i ++ [rs[i]] := List.take_succ_eq_append_getElem hlast
              have HR := Lib.hid (And.intro hT2 (And.intro htk hi))
              clear hE hS hT1 hT2 htk q1 q2 q3 hacc
              generalize rs[i] = r at *
              go_wp2_with fail
              refine hadd.mono ?_
              rintro e wr2 ⟨rfl, hS, hT1, hg⟩
              clear c0 c1 c2 ead hadd
              by_cases hfull : addB names l r.1.1 r.1.2 r.2 = 41
              · rw [hfull]
                have HQ := Lib.hid hS
                clear hS hT1 hg hfull
                go_wp2
                refine bodyPost_ret (v := .bool true) (by simp [results, Tryd.results4, go_sem]) rfl ⟨rfl, HQ.out.below⟩
              · rw [acc_step hfull] at hT1
                have hT2 := HR.out.1.kept hg (by have := H4.out.2.2.2.1; have := H4.out.2.2.2.2.2; have := hT1.lt; omega) (by have := H4.out.2.2.2.1; have := hT1.lt; omega)
                have hf0 : (addB names l r.1.1 r.1.2 r.2 == 41) = false := beq_eq_false_iff_ne.2 hfull
                have HQ := Lib.hid (And.intro hS (And.intro hT1 hT2))
                clear hS hT1 hT2 hg hfull
                generalize hz : addB names l r.1.1 r.1.2 r.2 = z at *
                go_wp2
                go_roundw
                case rel =>
                  refine ⟨i + 1, addS names l r.1.1 r.1.2 r.2, by simp, by omega, HQ.out.1, ?_, HQ.out.2.2⟩
                  rw [HR.out.2.1, List.filter_append]
                  exact HQ.out.2.1
                case measure => simp [natOf]; omega
            · have hli : ¬ (i : Int) < (rs.length : Int) := by omega
              obtain rfl : i = rs.length := by omega
              rw [List.take_length] at hT1
              have HQ := Lib.hid (And.intro hS (And.intro hT1 hT2))
              clear hS hT1 hT2
              obtain ⟨back, hback⟩ : ∃ back : Bool, back = decide (turn.tmod 2 = 0) := ⟨_, rfl⟩
              go_wp2_with fail
              go_loopw [13, 14] (fun iv _ wr => ∃ (i : Nat) (l2 : Ent), iv = .int .i64 (i : Int) ∧ i ≤ rs.length ∧ Sess w₀ wr ∧ Tal w₀ wr b1 bm1 names l (rs.filter okR) ∧ Tal w₀ wr b2 bm2 names l2 ((turned rs k back i).filter okR))
                (fun iv _ _ => rs.length - natOf iv)
              case atStart => exact ⟨0, [], rfl, Nat.zero_le _, HQ.out.1, HQ.out.2.1, HQ.out.2.2⟩
              case round =>
                obtain ⟨i, l2, rfl, hi, hS, hT1, hT2⟩ := hrel
                by_cases hlast : i < rs.length
                · have hli : (i : Int) < (rs.length : Int) := by omega
                  have h133 : (rs.length : Int) < 134 := by have := H4.out.2.2.2.2.1; omega
                  have hkn := HK.out
                  have hji := jAt_lt (n := rs.length) (k := k) (i := i) (back := back) (by omega)
                  have hjm := Nat.mod_lt (i + k) (show 0 < rs.length by omega)
                  have hrem : ((i : Int) + (k : Int)).tmod (rs.length : Int) = (((i + k) % rs.length : Nat) : Int) := rfl
                  obtain ⟨a, rfl, hc, hE⟩ := HA.out.2.1 _ hji
                  obtain ⟨Ab, Ao, As, ead, c0, c1, c2⟩ := hE wr hS.below
                  obtain ⟨q1, q2, q3⟩ := HA.out.1.lim _ (List.getElem_mem hji)
                  have hacc : ((turned rs k back i).filter okR).length ≤ 1000 := by
                    have h1 := List.length_filter_le okR (turned rs k back i)
                    have h2 : (turned rs k back i).length = i := by simp [turned]
                    omega
                  have hadd := add_step hS hT2 rs[jAt rs.length k back i] q1 q2 q3 hacc
                  have hnf := no_full (names := names) (la := l) (rs := rs) hT1.inv hT2.inv (fun r hr => mem_turned hkn (List.mem_filter.1 hr).1) (List.getElem_mem hji)
                  have htk := turned_succ rs k back i hji
                  have HR := Lib.hid (And.intro hT1 (And.intro htk hi))
                  have hz := HZ.out
                  have hkk : (k : Int) < (rs.length : Int) := by omega
                  have hml : (((i + k) % rs.length : Nat) : Int) < (rs.length : Int) := by omega
                  clear hE hS hT2 htk q1 q2 q3 hacc
                  generalize rs[jAt rs.length k back i] = r at *
                  have hjdef : jAt rs.length k back i = if back then rs.length - 1 - (i + k) % rs.length else (i + k) % rs.length := rfl
                  generalize jAt rs.length k back i = j at *
                  generalize (i + k) % rs.length = im at *
                  by_cases hpar : turn.tmod 2 = 0
                  · rw [decide_eq_true hpar] at hback
                    subst hback
                    rw [if_pos rfl] at hjdef
                    have hjd : ((rs.length : Int) - 1) - (im : Int) = (j : Int) := by omega
                    have hj0 : (j : Int) < (rs.length : Int) := by omega
                    have hjn : rs.length - 1 - im = j := hjdef.symm
                    clear hjdef
                    go_wp2_with fail
                    refine hadd.mono ?_
                    rintro e wr2 ⟨rfl, hS, hT2, hg⟩
                    clear c0 c1 c2 ead hadd
                    rw [acc_step hnf] at hT2
                    have hT1 := HR.out.1.kept hg (by have := H4.out.2.2.2.1; omega) (by have := H4.out.2.2.2.1; have := HR.out.1.lt; omega)
                    have hf0 : (addB names l2 r.1.1 r.1.2 r.2 == 41) = false := beq_eq_false_iff_ne.2 hnf
                    have HQ2 := Lib.hid (And.intro hS (And.intro hT1 hT2))
                    clear hS hT1 hT2 hg hnf
                    generalize hz2 : addB names l2 r.1.1 r.1.2 r.2 = z at *
                    go_wp2
                    go_roundw
                    case rel =>
                      refine ⟨i + 1, addS names l2 r.1.1 r.1.2 r.2, by simp, by omega, HQ2.out.1, HQ2.out.2.1, ?_⟩
                      rw [HR.out.2.1, List.filter_append]
                      exact HQ2.out.2.2
                    case measure => simp [natOf]; omega
                  · rw [decide_eq_false hpar] at hback
                    subst hback
                    rw [if_neg (by decide)] at hjdef
                    subst hjdef
                    have hpb : (turn.tmod 2 == 0) = false := beq_eq_false_iff_ne.2 hpar
                    go_wp2_with fail
                    refine hadd.mono ?_
                    rintro e wr2 ⟨rfl, hS, hT2, hg⟩
                    clear c0 c1 c2 ead hadd
                    rw [acc_step hnf] at hT2
                    have hT1 := HR.out.1.kept hg (by have := H4.out.2.2.2.1; omega) (by have := H4.out.2.2.2.1; have := HR.out.1.lt; omega)
                    have hf0 : (addB names l2 r.1.1 r.1.2 r.2 == 41) = false := beq_eq_false_iff_ne.2 hnf
                    have HQ2 := Lib.hid (And.intro hS (And.intro hT1 hT2))
                    clear hS hT1 hT2 hg hnf
                    generalize hz2 : addB names l2 r.1.1 r.1.2 r.2 = z at *
                    go_wp2
                    go_roundw
                    case rel =>
                      refine ⟨i + 1, addS names l2 r.1.1 r.1.2 r.2, by simp, by omega, HQ2.out.1, HQ2.out.2.1, ?_⟩
                      rw [HR.out.2.1, List.filter_append]
                      exact HQ2.out.2.2
                    case measure => simp [natOf]; omega
                · have hli : ¬ (i : Int) < (rs.length : Int) := by omega
                  obtain rfl : i = rs.length := by omega
                  have hper := (perm_turned (back := back) HK.out).filter okR
                  have ha1 : (rs.filter okR).length ≤ 1000 := by
                    have h1 := List.length_filter_le okR rs
                    have h2 := H4.out.2.2.2.2.1
                    omega
                  have ha2 : ((turned rs k back rs.length).filter okR).length ≤ 1000 := by rw [hper.length_eq]; exact ha1
                  have hR := rows_step hT1 ha1
                  have HP := Lib.hid (And.intro hper (And.intro ha1 (And.intro ha2 (And.intro hS (And.intro hT1 hT2)))))
                  clear hper ha1 ha2 hS hT1 hT2
                  go_wp2_with fail
                  refine hR.mono ?_
                  rintro e w5 ⟨va, pa, rfl, hPa, hRa, hB5⟩
                  have hla : (rowsOf l pa).length ≤ 1000000 := by rw [rows_len hPa]; exact (HP.out.2.2.2.2.1.goodL HP.out.2.1).2
                  have hTo := told_any _ va _ w5 hRa hla hB5.size
                  have HA5 := Lib.hid (And.intro hPa (And.intro hla (And.intro (HP.out.2.2.2.1.next hB5) (And.intro (HP.out.2.2.2.2.1.next hB5) (HP.out.2.2.2.2.2.next hB5)))))
                  clear hR hRa hB5 hPa hla
                  go_wp2_with fail
                  refine hTo.mono ?_
                  rintro e w6 ⟨ua, rfl, hRT, hB6⟩
                  have hT6 := HA5.out.2.2.2.2.next hB6
                  have hR2 := rows_step hT6 HP.out.2.2.1
                  have HA6 := Lib.hid (And.intro (HA5.out.2.2.1.next hB6) (And.intro (HA5.out.2.2.2.1.next hB6) (And.intro hT6 hRT.zero)))
                  clear hTo hB6 hT6 hRT
                  go_wp2_with fail
                  refine hR2.mono ?_
                  rintro e w7 ⟨vb, pb, rfl, hPb, hRb, hB7⟩
                  have hlb : (rowsOf l2 pb).length ≤ 1000000 := by rw [rows_len hPb]; exact (HP.out.2.2.2.2.2.goodL HP.out.2.2.1).2
                  have hTo2 := told_any _ vb _ w7 hRb hlb hB7.size
                  have HA7 := Lib.hid (And.intro hPb (And.intro hlb (And.intro (HA6.out.1.next hB7) (And.intro (HA6.out.2.1.next hB7) (And.intro (HA6.out.2.2.1.next hB7) (HA6.out.2.2.2.below hB7))))))
                  clear hR2 hRb hB7 hPb hlb
                  go_wp2_with fail
                  refine hTo2.mono ?_
                  rintro e w8 ⟨ub, rfl, hRT2, hB8⟩
                  have hSa := same_any 0 ua ub _ _ w8 (HA7.out.2.2.2.2.2.below hB8) hRT2.zero (rows_11 HP.out.2.2.2.2.1.inv pa) (rows_11 HP.out.2.2.2.2.2.inv pb) HA5.out.2.1 HA7.out.2.1
                  have heq : rowsOf l pa = rowsOf l2 pb := HP.out.2.2.2.2.1.inv.rows HP.out.2.2.2.2.2.inv HP.out.1.symm HA5.out.1 HA7.out.1
                  rw [decide_eq_true heq] at hSa
                  have HA8 := Lib.hid (And.intro (HA7.out.2.2.1.next hB8) (And.intro (HA7.out.2.2.2.1.next hB8) (HA7.out.2.2.2.2.1.next hB8)))
                  clear hTo2 hB8 hRT2 heq
                  go_wp2_with fail
                  refine hSa.mono ?_
                  rintro e w9 ⟨rfl, hB9⟩
                  have hT9 := HA8.out.2.1.next hB9
                  have hAl := all_step hT9 HP.out.2.1
                  have HA9 := Lib.hid (And.intro (HA8.out.1.next hB9) (HA8.out.2.2.next hB9))
                  clear hSa hB9 hT9
                  go_wp2_with fail
                  refine hAl.mono ?_
                  rintro e w10 ⟨rfl, hB10⟩
                  have hT10 := HA9.out.2.next hB10
                  have hAl2 := all_step hT10 HP.out.2.2.1
                  have hll : ((turned rs k back rs.length).filter okR).length = (rs.filter okR).length := HP.out.1.length_eq
                  rw [hll] at hAl2
                  have HA10 := Lib.hid (HA9.out.1.next hB10)
                  clear hAl hB10 hT10 hll
                  go_wp2_with fail
                  refine hAl2.mono ?_
                  rintro e w11 ⟨rfl, hB11⟩
                  have HA11 := Lib.hid (HA10.out.next hB11)
                  clear hAl2 hB11
                  go_wp2
                  refine bodyPost_ret (v := .bool true) (by simp [results, Tryd.results4, go_sem]) rfl ⟨rfl, HA11.out.below⟩
        · have hN := tallyNew_bad names w2 (.inr (by omega))
          have HS2 := Lib.hid hS2
          clear hW hB2 hS2 hn1 hn2
          go_wp2_with fail
          refine hN.mono ?_
          rintro e w3 ⟨rfl, rfl⟩
          go_wp2_with fail
          refine hN.mono ?_
          rintro e w3 ⟨rfl, rfl⟩
          go_wp2
          refine bodyPost_ret (v := .bool true) (by simp [results, Tryd.results4, go_sem]) rfl ⟨rfl, HS2.out.below⟩
      · have hN := tallyNew_bad names w2 (.inl (by omega))
        have HS2 := Lib.hid hS2
        clear hW hB2 hS2 hn1
        go_wp2_with fail
        refine hN.mono ?_
        rintro e w3 ⟨rfl, rfl⟩
        go_wp2_with fail
        refine hN.mono ?_
        rintro e w3 ⟨rfl, rfl⟩
        go_wp2
        refine bodyPost_ret (v := .bool true) (by simp [results, Tryd.results4, go_sem]) rfl ⟨rfl, HS2.out.below⟩
  · have HS := Lib.hid hS1
    clear hS1 hb
    go_wp2_with fail
    refine hW.mono ?_
    rintro e w2 ⟨rfl, hB2⟩
    have HS2 := Lib.hid (HS.out.next hB2)
    clear hW hB2
    go_wp2
    refine bodyPost_ret (v := .bool true) (by simp [results, Tryd.results4, go_sem]) rfl ⟨rfl, HS2.out.below⟩
end Go.Proofs.YthhcigmdocldnaaDoor
