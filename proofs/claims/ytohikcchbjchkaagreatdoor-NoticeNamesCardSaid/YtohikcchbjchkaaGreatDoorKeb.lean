import Derived.Test.YtohikcchbjchkaaGreatDoorKea
import Derived.Laws.StructEq
import Derived.ChangeKeysEq
set_option linter.unusedVariables false
set_option linter.unusedSimpArgs false
/- The light operations: slices, lengths, iterators, assertions. -/
namespace Go.Proofs.YtohikcchbjchkaaGreatDoor.Sx
open Go
section
variable {P : Program} {c : Cx}
def OptR (ε : Env) (v : Option SV) (y : Option Value) : Prop := (v = none ∧ y = none) ∨ ∃ s z, v = some s ∧ den ε s = some z ∧ y = some z
theorem bnd_run {ε : Env} {v : SV} {y : Value} {n m : Nat} (h : bnd v n = some m) (hd : den ε v = some y) {n' : Nat} (hn : n ≤ n') (code : BoundsCode) (w : World) : (Instr.sliceBound y n' code).run P w = .ok m w ∧ m ≤ n := by
  unfold bnd at h
  obtain ⟨i, hi, h⟩ := Option.bind_eq_some_iff.1 h
  cases hb : Nat.ble i n with
  | false => rw [hb] at h; cases h
  | true =>
    rw [hb] at h
    cases h
    have hle := Nat.le_of_ble_eq_true hb
    obtain ⟨k, rfl⟩ := den_asN hi hd
    have : ((m : Int) ≤ (n' : Int)) := by omega
    exact ⟨by simp [Instr.sliceBound, asIntOf, this], hle⟩
theorem bnds_run {ε : Env} {len cap : Nat} {lo hi mx : Option SV} {lo' hi' mx' : Option Value} {l h m : Nat} (hb : bnds len cap lo hi mx = some (l, h, m)) (h1 : OptR ε lo lo') (h2 : OptR ε hi hi') (h3 : OptR ε mx mx') {cap' : Nat} (hc : cap ≤ cap') (isS : Bool) (w : World) :
    (Instr.sliceBounds isS len cap' lo' hi' mx').run P w = .ok (l, h, if mx.isSome then m else cap') w ∧ l ≤ h ∧ (mx = none → m = cap) ∧ (mx.isSome = true → h ≤ m) ∧ ((h = len ∧ hi = none ∧ mx = none) ∨ h ≤ m) := by
  unfold bnds at hb
  obtain ⟨m0, hm0, hb⟩ := Option.bind_eq_some_iff.1 hb
  obtain ⟨hh, hhh, hb⟩ := Option.bind_eq_some_iff.1 hb
  obtain ⟨ll, hll, hb⟩ := Option.bind_eq_some_iff.1 hb
  cases hb
  have low2 : l ≤ h := by
    rcases h1 with ⟨rfl, rfl⟩ | ⟨s, z, rfl, hz, rfl⟩
    · cases hll; exact Nat.zero_le _
    · exact (bnd_run (P := P) hll hz (Nat.le_refl _) .index w).2
  rcases h3 with ⟨rfl, rfl⟩ | ⟨s3, z3, rfl, hz3, rfl⟩
  · cases hm0
    rcases h2 with ⟨rfl, rfl⟩ | ⟨s2, z2, rfl, hz2, rfl⟩
    · cases hhh
      refine ⟨?_, low2, fun _ => rfl, fun h => (by cases h), .inl ⟨rfl, rfl, rfl⟩⟩
      unfold Instr.sliceBounds
      simp only [Sem.run_bind, Sem.run_pure, Result.andThen_ok]
      rcases h1 with ⟨rfl, rfl⟩ | ⟨s, z, rfl, hz, rfl⟩
      · cases hll; rfl
      · simp only [Sem.run_bind, (bnd_run (P := P) hll hz (Nat.le_refl _) _ w).1, Result.andThen_ok, Sem.run_pure]; rfl
    · obtain ⟨r1, r2⟩ := bnd_run (P := P) hhh hz2 hc (if isS then .sliceAcap else .sliceAlen) w
      refine ⟨?_, low2, fun _ => rfl, fun h => (by cases h), .inr r2⟩
      unfold Instr.sliceBounds
      simp only [Sem.run_bind, Sem.run_pure, Result.andThen_ok, r1]
      rcases h1 with ⟨rfl, rfl⟩ | ⟨s, z, rfl, hz, rfl⟩
      · cases hll; rfl
      · simp only [Sem.run_bind, (bnd_run (P := P) hll hz (Nat.le_refl _) _ w).1, Result.andThen_ok, Sem.run_pure]; rfl
  · obtain ⟨r3, r4⟩ := bnd_run (P := P) hm0 hz3 hc (if isS then .slice3Acap else .slice3Alen) w
    rcases h2 with ⟨rfl, rfl⟩ | ⟨s2, z2, rfl, hz2, rfl⟩
    · cases hhh
    · obtain ⟨r1, r2⟩ := bnd_run (P := P) hhh hz2 (Nat.le_refl _) .slice3B w
      refine ⟨?_, low2, fun h => (by cases h), fun _ => r2, .inr r2⟩
      unfold Instr.sliceBounds
      simp only [Sem.run_bind, Sem.run_pure, Result.andThen_ok, r1, r3]
      rcases h1 with ⟨rfl, rfl⟩ | ⟨s, z, rfl, hz, rfl⟩
      · cases hll; rfl
      · simp only [Sem.run_bind, (bnd_run (P := P) hll hz (Nat.le_refl _) _ w).1, Result.andThen_ok, Sem.run_pure]; rfl
theorem extract_bytes (bs : List UInt8) (l h : Nat) : (⟨bs.toArray⟩ : ByteArray).extract l h = ⟨((bs.drop l).take (h - l)).toArray⟩ := by
  apply ByteArray.ext
  rw [ByteArray.data_extract]
  simp [List.extract_eq_take_drop]
theorem add_if (b q o m l s : Nat) : (if m = l then (⟨b, q + o, none⟩ : Addr) else (⟨b, q + o, none⟩ : Addr).add (l * s)) = ⟨b, q + (if m = l then o else o + l * s), none⟩ := by
  split
  · rfl
  · rw [add_off]
theorem slV_ok {B : Nat} {ε : Env} {h : Tr SO} {w : World} (hs : Sat c B ε h w) {t el s : Nat} (ht : P.underlying t = some (.slice el)) (hel : (sizeOf el).run P w = .ok s w) {v : SV} {y : Value} (hv : den ε v = some y)
    {lo hi mx : Option SV} {lo' hi' mx' : Option Value} (h1 : OptR ε lo lo') (h2 : OptR ε hi hi') (h3 : OptR ε mx mx') {r : SV} (hr : slV h s v lo hi mx = some r) :
    ∃ z, den ε r = some z ∧ (Instr.slice t y lo' hi' mx').run P w = .ok z w := by
  have ur := run_underlying ht w
  cases v with
  | nilsl =>
    cases hv
    obtain ⟨⟨l, hh, m⟩, hb, hr⟩ := Option.bind_eq_some_iff.1 (show (bnds 0 0 lo hi mx).bind _ = some r from hr)
    cases hr
    obtain ⟨r1, r2, r3, r4, r5⟩ := bnds_run (P := P) hb h1 h2 h3 (Nat.le_refl 0) true w
    have hm : (if mx.isSome then m else 0) = 0 ∧ hh = 0 ∧ l = 0 := by
      cases mx with
      | none =>
        have := r3 rfl
        rcases r5 with ⟨h5, _⟩ | h5
        · exact ⟨rfl, h5, by omega⟩
        · exact ⟨rfl, by omega, by omega⟩
      | some s =>
        have h4 := r4 rfl
        have hm0 : m = 0 := by
          unfold bnds at hb
          obtain ⟨m0, hm0, hb⟩ := Option.bind_eq_some_iff.1 hb
          obtain ⟨_, _, hb⟩ := Option.bind_eq_some_iff.1 hb
          obtain ⟨_, _, hb⟩ := Option.bind_eq_some_iff.1 hb
          cases hb
          rcases h3 with ⟨e, _⟩ | ⟨s3, z3, e, hz3, _⟩
          · cases e
          · cases e
            have := (bnd_run (P := P) hm0 hz3 (Nat.le_refl _) .index w).2
            omega
        exact ⟨by simp [hm0], by omega, by omega⟩
    refine ⟨_, rfl, ?_⟩
    unfold Instr.slice
    simp only [Sem.run_bind, ur, Result.andThen_ok, r1, hm, hel, Sem.run_pure]
    rfl
  | sl n o len cap =>
    obtain ⟨x, k, hx, rfl, hex, hrel⟩ := den_sl hv
    have key : ∀ {l hh m m' : Nat}, (Instr.sliceBounds true len k lo' hi' mx').run P w = .ok (l, hh, m') w → (Instr.slice t (.slice (some ⟨x.b, x.q + o, none⟩) len k) lo' hi' mx').run P w =
        .ok (.slice (some ⟨x.b, x.q + (if m' = l then o else o + l * s), none⟩) (hh - l) (m' - l)) w := by
      intro l hh m m' hb
      unfold Instr.slice
      simp only [Sem.run_bind, ur, Result.andThen_ok, hb, hel, Sem.run_pure, Option.map_some]
      rw [← add_if]
      split <;> rfl
    cases cap with
    | ex k' =>
      have := hex k' rfl; subst this
      obtain ⟨⟨l, hh, m⟩, hb, hr⟩ := Option.bind_eq_some_iff.1 (show (bnds len k lo hi mx).bind _ = some r from hr)
      obtain ⟨r1, r2, r3, r4, r5⟩ := bnds_run (P := P) hb h1 h2 h3 (Nat.le_refl k) true w
      have hm : (if mx.isSome then m else k) = m := by
        cases mx with
        | none => exact (r3 rfl).symm
        | some _ => rfl
      rw [hm] at r1
      refine ⟨_, ?_, key (m := m) r1⟩
      dsimp only at hr
      cases hml : Nat.beq m l with
      | true =>
        rw [hml] at hr; cases hr
        have := Nat.eq_of_beq_eq_true hml
        unfold den; rw [hx, if_pos this]; rfl
      | false =>
        rw [hml] at hr; cases hr
        have hne : m ≠ l := fun e => by rw [e, Nat.beq_refl] at hml; cases hml
        unfold den; rw [hx, if_neg hne]; rfl
    | rel k' =>
      obtain ⟨hK, hk⟩ := hrel k' rfl
      cases mx with
      | none =>
        have e3 : mx' = none := by rcases h3 with ⟨_, e⟩ | ⟨_, _, e, _⟩
                                   · exact e
                                   · cases e
        subst e3
        obtain ⟨mo, hmo, hr⟩ := Option.bind_eq_some_iff.1 (show (most h n o s len k' hi).bind _ = some r from hr)
        obtain ⟨⟨l, hh, m⟩, hb, hr⟩ := Option.bind_eq_some_iff.1 hr
        have hmk : mo ≤ k := by
          unfold most at hmo
          cases hi with
          | none => cases hmo; omega
          | some v =>
            obtain ⟨kn, hkn, hmo⟩ := Option.bind_eq_some_iff.1 hmo
            cases hle : Nat.ble kn len with
            | true => rw [hle] at hmo; cases hmo; omega
            | false =>
              rw [hle] at hmo
              obtain ⟨ob, hob, hmo⟩ := Option.bind_eq_some_iff.1 (show (Tr.get n h).bind _ = some mo from hmo)
              cases ob with
              | cells vs et s' opn fz =>
                obtain ⟨hopn, m1⟩ := bif_t (b := opn) hmo
                subst hopn
                obtain ⟨hss, m2⟩ := bif_t m1
                obtain ⟨hs0, m3⟩ := bif_f m2
                obtain ⟨hq, m4⟩ := bif_t m3
                cases m4
                have hss' := Nat.eq_of_beq_eq_true hss
                subst hss'
                obtain ⟨x', hx', ho', _⟩ := hs.obj n _ hob
                rw [hx] at hx'; cases hx'
                obtain ⟨cs, fr, ys, q1, q2, q3, q4, _⟩ := CellsOk.ex ho'
                simp only [if_true] at q4
                have hl := denL_len q2
                have hq' := Nat.le_of_ble_eq_true hq
                have hs1 : 0 < s := Nat.pos_of_ne_zero fun e => by rw [e] at hs0; cases hs0
                have : (vs.length - o) / s ≤ (x.K * s - k' * s) / s := Nat.div_le_div_right (by omega)
                rw [← Nat.sub_mul, Nat.mul_div_cancel _ hs1] at this
                omega
              | _ => cases hmo
        obtain ⟨r1, r2, r3, r4, r5⟩ := bnds_run (P := P) hb h1 h2 h3 hmk true w
        simp only [Option.isSome_none, Bool.false_eq_true, if_false] at r1
        have hhk : hh ≤ k := by
          have := r3 rfl
          rcases r5 with ⟨h5, _⟩ | h5
          · omega
          · omega
        refine ⟨_, ?_, key (m := m) r1⟩
        dsimp only at hr
        cases hhl : Nat.beq hh l with
        | true =>
          have hhl' := Nat.eq_of_beq_eq_true hhl
          rw [hhl] at hr
          dsimp only [cond] at hr
          cases hl0 : Nat.beq l 0 with
          | true =>
            have hl0' := Nat.eq_of_beq_eq_true hl0
            rw [hl0] at hr; cases hr
            subst hl0'
            unfold den; rw [hx]
            dsimp only [Option.bind]
            rw [if_pos (by omega)]
            have : (if k = 0 then o else o + 0 * s) = o := by split <;> simp
            rw [this, hhl', hk]; rfl
          | false =>
            rw [hl0] at hr; cases hr
            unfold den; rw [hx]
            dsimp only [Option.bind]
            rw [hhl', hk]
            by_cases hc : x.K ≤ k' + l
            · rw [if_pos hc, if_pos (by omega), show l - l = 0 by omega, show x.K - k' - l = 0 by omega]
            · rw [if_neg hc, if_neg (by omega), show l - l = 0 by omega, show x.K - k' - l = x.K - (k' + l) by omega]
        | false =>
          have hne : hh ≠ l := fun e => by rw [e, Nat.beq_refl] at hhl; cases hhl
          rw [hhl] at hr; cases hr
          unfold den; rw [hx]
          dsimp only [Option.bind]
          rw [if_pos (by omega), if_neg (by omega), hk, show x.K - k' - l = x.K - (k' + l) by omega]
      | some v =>
        obtain ⟨m', hm', hr⟩ := Option.bind_eq_some_iff.1 (show (bnd v len).bind _ = some r from hr)
        obtain ⟨⟨l, hh, m⟩, hb, hr⟩ := Option.bind_eq_some_iff.1 hr
        have hmk : m' ≤ k := by
          rcases h3 with ⟨e, _⟩ | ⟨_, z, e, hz, _⟩
          · cases e
          · cases e
            have := (bnd_run (P := P) hm' hz (Nat.le_refl _) .index w).2
            omega
        obtain ⟨r1, r2, r3, r4, r5⟩ := bnds_run (P := P) hb h1 h2 h3 hmk true w
        simp only [Option.isSome_some, if_true] at r1
        refine ⟨_, ?_, key (m := m) r1⟩
        dsimp only at hr
        cases hml : Nat.beq m l with
        | true =>
          rw [hml] at hr; cases hr
          have := Nat.eq_of_beq_eq_true hml
          unfold den; rw [hx, if_pos this]; rfl
        | false =>
          rw [hml] at hr; cases hr
          have hne : m ≠ l := fun e => by rw [e, Nat.beq_refl] at hml; cases hml
          unfold den; rw [hx, if_neg hne]; rfl
  | slt n o o' q =>
    cases mx with
    | some _ => cases hr
    | none =>
      have e3 : mx' = none := by rcases h3 with ⟨_, e⟩ | ⟨_, _, e, _⟩
                                 · exact e
                                 · cases e
      subst e3
      obtain ⟨⟨l, hh, m⟩, hb, hr⟩ := Option.bind_eq_some_iff.1 (show (bnds 0 0 lo hi none).bind _ = some r from hr)
      cases hr
      obtain ⟨A, k, rfl⟩ := den_slt hv
      obtain ⟨r1, r2, r3, r4, r5⟩ := bnds_run (P := P) hb h1 h2 h3 (Nat.zero_le k) true w
      simp only [Option.isSome_none, Bool.false_eq_true, if_false] at r1
      have hh0 : hh = 0 := by
        have := r3 rfl
        rcases r5 with ⟨h5, _⟩ | h5 <;> omega
      have hl0 : l = 0 := by omega
      subst hh0 hl0
      refine ⟨_, hv, ?_⟩
      unfold Instr.slice
      simp only [Sem.run_bind, ur, Result.andThen_ok, r1, hel, Sem.run_pure, Option.map_some]
      have : (if k = 0 then some A else some (A.add (0 * s))) = some A := by split <;> simp [Addr.add]
      rw [this]; rfl
  | _ => cases hr
end
end Go.Proofs.YtohikcchbjchkaaGreatDoor.Sx

/- The light operations: slicing, lengths, iterators, assertions, as operations. -/
namespace Go.Proofs.YtohikcchbjchkaaGreatDoor.Sx
open Go
section
variable {P : Program} {c : Cx}
theorem optR_of {ε : Env} {f : Tr SV} {a : Act} (hf : FrOk ε f a.tmps) (hg : GEnv c ε) {X : Option Operand} {x : Option Opd} (h : optO (opdT c.ng) X = some x) {v : Option SV} (hv : optO (opv f) x = some v) : OptR ε v (X.map a.eval) := opto_ok hf hg h hv
theorem lok_slice (hP : POk P c) {t : Nat} {x : Operand} {lo hi mx : Option Operand} {k : Bool} {g : LF} (h : compL c (.slice t x lo hi mx) = some (k, g)) : LOk P c (.slice t x lo hi mx) g := by
  unfold compL at h; dsimp only at h
  obtain ⟨X, hX, h⟩ := Option.bind_eq_some_iff.1 h
  obtain ⟨L, hL, h⟩ := Option.bind_eq_some_iff.1 h
  obtain ⟨H, hH, h⟩ := Option.bind_eq_some_iff.1 h
  obtain ⟨M, hM, h⟩ := Option.bind_eq_some_iff.1 h
  obtain ⟨d, hd, hfin⟩ := Option.bind_eq_some_iff.1 h
  clear h
  have ud := und_ok hP hd
  cases d <;> try cases hfin
  case string =>
    cases M with
    | some _ => cases hfin
    | none =>
      have hmx : mx = none := by
        cases mx with
        | none => rfl
        | some m =>
          obtain ⟨_, _, e⟩ := Option.bind_eq_some_iff.1 (show (opdT c.ng m).bind _ = some none from hM)
          cases e
      subst hmx
      obtain ⟨rfl, rfl⟩ := some_pair (show some (false, _) = some (k, g) from hfin)
      refine lok_of fun B ε h nn f a w o ho hst hf hg => ⟨Instr.sliceAt t (a.eval x) (lo.map a.eval) (hi.map a.eval) none, by simp only [execOp, ho]; rfl, .obd fun v hv => .obd fun lo2 hlo => .obd fun hi2 hhi => ?_⟩
      obtain ⟨p, hp, e⟩ := opd_ok hf hg hX hv
      cases v with
      | str s =>
        cases hp
        refine .obd fun q hq => .obd fun b hb => ?_
        obtain ⟨l, hh, m⟩ := q
        obtain ⟨r1, r2, r3, r4, r5⟩ := bnds_run (P := P) (ε := ε) hq (optR_of hf hg hL hlo) (optR_of hf hg hH hhi) (.inl ⟨rfl, rfl⟩ : OptR ε none none) (Nat.le_refl _) false w
        obtain ⟨rfl, _⟩ := rd_eq hb
        refine ⟨_, rfl, ?_⟩
        rw [e]
        unfold Instr.sliceAt
        simp only [Sem.run_bind, run_underlying ud, Result.andThen_ok]
        unfold Instr.slice
        simp only [Sem.run_bind, run_underlying ud, Result.andThen_ok]
        have hsz : (⟨s.toArray⟩ : ByteArray).size = s.length := by simp [ByteArray.size]
        simp only [Option.isSome_none, Bool.false_eq_true, if_false, hsz, Sem.run_bind, r1, Result.andThen_ok, Sem.run_pure]
        rw [extract_bytes]
      | _ => trivial
  case slice el =>
    obtain ⟨s, hs, h⟩ := Option.bind_eq_some_iff.1 hfin
    cases h
    refine lok_of fun B ε h nn f a w o ho hst hf hg => ⟨Instr.sliceAt t (a.eval x) (lo.map a.eval) (hi.map a.eval) (mx.map a.eval), by simp only [execOp, ho], .obd fun v hv => .obd fun lo2 hlo => .obd fun hi2 hhi => .obd fun mx2 hmx => .lv fun r hr => ?_⟩
    obtain ⟨p, hp, e⟩ := opd_ok hf hg hX hv
    obtain ⟨z, hz, hzr⟩ := slV_ok (P := P) hst ud (run_size hP hs w) hp (optR_of hf hg hL hlo) (optR_of hf hg hH hhi) (optR_of hf hg hM hmx) hr
    refine ⟨z, hz, ?_⟩
    rw [e]
    unfold Instr.sliceAt
    simp only [Sem.run_bind, run_underlying ud, Result.andThen_ok]
    exact hzr
  case array n el =>
    obtain ⟨s, hs, h⟩ := Option.bind_eq_some_iff.1 hfin
    cases h
    refine lok_of fun B ε h nn f a w o ho hst hf hg => ⟨Instr.sliceAt t (a.eval x) (lo.map a.eval) (hi.map a.eval) (mx.map a.eval), by simp only [execOp, ho], .obd fun v hv => .obd fun lo2 hlo => .obd fun hi2 hhi => .obd fun mx2 hmx => ?_⟩
    obtain ⟨p, hp, e⟩ := opd_ok hf hg hX hv
    cases v with
    | ptr nm oo =>
      obtain ⟨blk, hb, rfl⟩ := den_ptr hp
      refine .obd fun q hq => ?_
      obtain ⟨l, hh, m⟩ := q
      obtain ⟨r1, r2, r3, r4, r5⟩ := bnds_run (P := P) (ε := ε) hq (optR_of hf hg hL hlo) (optR_of hf hg hH hhi) (optR_of hf hg hM hmx) (Nat.le_refl _) false w
      have hm : (if mx2.isSome then m else n) = m := by
        cases mx2 with
        | none => exact (r3 rfl).symm
        | some _ => rfl
      rw [hm] at r1
      have run : (Instr.sliceAt t (.pointer (some ⟨blk.b, blk.q + oo, none⟩)) (lo.map a.eval) (hi.map a.eval) (mx.map a.eval)).run P w = .ok (.slice (some ⟨blk.b, blk.q + (if m = l then oo else oo + l * s), none⟩) (hh - l) (m - l)) w := by
        unfold Instr.sliceAt
        simp only [Sem.run_bind, run_underlying ud, Result.andThen_ok, Instr.sureAddr, Sem.run_pure, r1, run_size hP hs]
        rw [add_if]
      refine .bif (fun hml => ?_) (fun hml => ?_)
      · have := Nat.eq_of_beq_eq_true hml
        refine ⟨_, ?_, by rw [e]; exact run⟩
        unfold den; rw [hb, if_pos this]; rfl
      · have hne : m ≠ l := fun e => by rw [e, Nat.beq_refl] at hml; cases hml
        refine ⟨_, ?_, by rw [e]; exact run⟩
        unfold den; rw [hb, if_neg hne]; rfl
    | _ => trivial
theorem builtin_exec {a : Act} {o : Oper} {b : Builtin} {xs : Array Operand} {ats : Array TypeId} (ho : o.op = .call ⟨.builtin b, xs, ats⟩) : ∃ cs, execOp a.eval o = builtin b ats o.type cs (xs.map a.eval) := by
  refine ⟨xs.map fun | .const _ => true | _ => false, ?_⟩
  simp only [execOp, ho, resolve]
  rfl
theorem args_of {ε : Env} {f : Tr SV} {a : Act} (hf : FrOk ε f a.tmps) (hg : GEnv c ε) {xs : Array Operand} {x : Opd} (h : mapO (opdT c.ng) xs.toList = some [x]) {v : SV} (hv : opv f x = some v) : ∃ y, den ε v = some y ∧ xs.map a.eval = #[y] := by
  obtain ⟨xs⟩ := xs
  cases xs with
  | nil => cases h
  | cons X l =>
    unfold mapO at h
    obtain ⟨p, hp, h⟩ := Option.bind_eq_some_iff.1 h
    obtain ⟨q, hq, h⟩ := Option.bind_eq_some_iff.1 h
    cases h
    have hl : l = [] := by
      cases l with
      | nil => rfl
      | cons Y l =>
        unfold mapO at hq
        obtain ⟨p, hp, h⟩ := Option.bind_eq_some_iff.1 hq
        obtain ⟨q, hq, h⟩ := Option.bind_eq_some_iff.1 h
        cases h
    subst hl
    obtain ⟨y, hy, e⟩ := opd_ok hf hg hp hv
    exact ⟨y, hy, by simp [e]⟩
theorem ltI_eq (a b : Int) : ltI a b = decide (a < b) := by
  cases a with
  | ofNat x =>
    cases b with
    | ofNat y =>
      show Nat.blt x y = _
      rw [Bool.eq_iff_iff, Nat.blt_eq, decide_eq_true_eq]
      exact Int.ofNat_lt.symm
    | negSucc y =>
      show false = _
      symm; rw [decide_eq_false_iff_not]
      have := Int.negSucc_lt_zero y
      show ¬ ((x : Int) < Int.negSucc y)
      omega
  | negSucc x =>
    cases b with
    | ofNat y =>
      show true = _
      symm; rw [decide_eq_true_eq]
      have := Int.negSucc_lt_zero x
      show Int.negSucc x < (y : Int)
      omega
    | negSucc y =>
      show Nat.blt y x = _
      rw [Bool.eq_iff_iff, Nat.blt_eq, decide_eq_true_eq, Int.negSucc_eq, Int.negSucc_eq]
      omega
theorem beqI_eq (a b : Int) : beqI a b = decide (a = b) := by
  cases a with
  | ofNat x =>
    cases b with
    | ofNat y =>
      show Nat.beq x y = _
      rw [Bool.eq_iff_iff, Nat.beq_eq, decide_eq_true_eq]
      exact Int.ofNat_inj.symm
    | negSucc y =>
      show false = _
      symm; rw [decide_eq_false_iff_not]
      intro e; cases e
  | negSucc x =>
    cases b with
    | ofNat y =>
      show false = _
      symm; rw [decide_eq_false_iff_not]
      intro e; cases e
    | negSucc y =>
      show Nat.beq x y = _
      rw [Bool.eq_iff_iff, Nat.beq_eq, decide_eq_true_eq]
      exact ⟨fun e => by rw [e], fun e => by cases e; rfl⟩
theorem mm_ok {ε : Env} (lo : Bool) : ∀ {l : List SV} {v r : SV} {ys : List Value} {y : Value}, den ε v = some y → denL ε l = some ys → mmV lo v l = some r → ∀ w, ∃ z, den ε r = some z ∧
    (bif lo then ys.foldlM Builtin.min2 y else ys.foldlM Builtin.max2 y : Sem Value).run P w = .ok z w
  | [], v, r, ys, y, hv, hl, h, w => by
    cases hl
    have : v = r := by unfold mmV at h; cases v <;> (cases h; rfl)
    subst this
    exact ⟨y, hv, by cases lo <;> rfl⟩
  | u :: l, v, r, ys, y, hv, hl, h, w => by
    obtain ⟨q, z, hq, hz, rfl⟩ := denL_cons hl
    cases v with
    | int k x =>
      cases u with
      | int k2 x2 =>
        cases hv; cases hq
        have h' : mmV lo (.int k (bif lo then (bif ltI x2 x then x2 else x) else (bif ltI x x2 then x2 else x))) l = some r := h
        obtain ⟨z2, h1, h2⟩ := mm_ok lo (y := .int k (bif lo then (bif ltI x2 x then x2 else x) else (bif ltI x x2 then x2 else x))) rfl hz h' w
        refine ⟨z2, h1, ?_⟩
        have hlt : ∀ a b : Int, ltI a b = decide (a < b) := by
          intro a b
          exact ltI_eq a b
        cases lo with
        | true =>
          simp only [cond_true] at h2 ⊢
          rw [List.foldlM_cons]
          simp only [Builtin.min2, Sem.run_bind, Sem.run_pure, Result.andThen_ok]
          rw [hlt] at h2
          simpa [Bool.cond_decide] using h2
        | false =>
          simp only [cond_false] at h2 ⊢
          rw [List.foldlM_cons]
          simp only [Builtin.max2, Sem.run_bind, Sem.run_pure, Result.andThen_ok]
          rw [hlt] at h2
          simpa [Bool.cond_decide] using h2
      | _ => cases h
    | _ => cases u <;> cases h
end
end Go.Proofs.YtohikcchbjchkaaGreatDoor.Sx

/- '==' and the operations on two values. -/
namespace Go.Proofs.YtohikcchbjchkaaGreatDoor.Sx
open Go
section
variable {P : Program} {c : Cx}
theorem beqK_eq {a b : IntKind} (h : beqK a b = true) : a = b := by
  cases a <;> cases b <;> first | rfl | cases h
theorem beqB_iff : ∀ {a b : List UInt8}, beqB a b = true ↔ a = b
  | [], [] => by simp [beqB]
  | [], _ :: _ => by simp [beqB]
  | _ :: _, [] => by simp [beqB]
  | x :: a, y :: b => by
    show (bif Nat.beq x.toNat y.toNat then beqB a b else false) = true ↔ _
    cases h : Nat.beq x.toNat y.toNat with
    | true =>
      have := Nat.eq_of_beq_eq_true h
      have hxy : x = y := UInt8.toNat_inj.1 this
      simp [beqB_iff (a := a) (b := b), hxy]
    | false =>
      have hxy : x ≠ y := fun e => by rw [e, Nat.beq_refl] at h; cases h
      simp [hxy]
theorem toList_mk (a : List UInt8) : (⟨a.toArray⟩ : ByteArray).toList = a := by rw [ByteArray.toList_eq]
theorem str_eq (a b : List UInt8) : ((⟨a.toArray⟩ : ByteArray).toList == (⟨b.toArray⟩ : ByteArray).toList) = beqB a b := by
  rw [toList_mk, toList_mk, Bool.eq_iff_iff, beqB_iff]; simp
theorem ltB_eq : ∀ (a b : List UInt8), Op.bytesLess a b = ltB a b
  | [], [] => rfl
  | [], _ :: _ => rfl
  | _ :: _, [] => rfl
  | x :: a, y :: b => by
    show (decide (x < y) || (x == y && Op.bytesLess a b)) = (bif Nat.blt x.toNat y.toNat then true else bif Nat.beq x.toNat y.toNat then ltB a b else false)
    rw [ltB_eq a b]
    cases h : Nat.blt x.toNat y.toNat with
    | true =>
      have : x < y := UInt8.lt_iff_toNat_lt.2 (blt_lt h)
      simp [this]
    | false =>
      have h1 : ¬ x < y := fun e => by
        have := UInt8.lt_iff_toNat_lt.1 e
        have h2 : Nat.blt x.toNat y.toNat = true := by rw [Nat.blt_eq]; exact this
        rw [h2] at h; cases h
      cases h2 : Nat.beq x.toNat y.toNat with
      | true =>
        have := UInt8.toNat_inj.1 (Nat.eq_of_beq_eq_true h2)
        simp [h1, this]
      | false =>
        have : x ≠ y := fun e => by rw [e, Nat.beq_refl] at h2; cases h2
        simp [h1, this]
theorem eqEs_run (hP : POk P c) {ε : Env} {l m : List SV} {xs ys : List Value} (hxs : denL ε l = some xs) (hys : denL ε m = some ys) {e s d : Nat} {q : Option Nat} (hq : aggT c.ty e = some q) {f : Nat → SV → SV → Option Bool} {w : World}
    (hf : ∀ v1 v2 r z1 z2, f e v1 v2 = some r → den ε v1 = some z1 → den ε v2 = some z2 → (Op.equalIn d e z1 z2).run P w = .ok r w) {b : Bool} : ∀ (n j : Nat), eqEs f l m e s q n j = some b →
    (Op.eqItems d e s xs.toArray ys.toArray (List.range' j n)).run P w = .ok b w
  | 0, j, h => by cases h; rfl
  | n + 1, j, h => by
    unfold eqEs at h
    obtain ⟨v1, hv1, h⟩ := Option.bind_eq_some_iff.1 h
    obtain ⟨v2, hv2, h⟩ := Option.bind_eq_some_iff.1 h
    obtain ⟨r, hr, h⟩ := Option.bind_eq_some_iff.1 h
    obtain ⟨z1, hz1, e1⟩ := pt_ok hP hxs hq hv1 w
    obtain ⟨z2, hz2, e2⟩ := pt_ok hP hys hq hv2 w
    have e3 := hf v1 v2 r z1 z2 hr hz1 hz2
    rw [List.range'_succ]
    unfold Op.eqItems
    simp only [Sem.run_bind, e1, e2, e3, Result.andThen_ok]
    cases r with
    | true => exact eqEs_run hP hxs hys hq hf n (j + 1) h
    | false => cases h; rfl
set_option maxHeartbeats 4000000 in
theorem eqT_ok (hP : POk P c) {ε : Env} : ∀ (g : Nat) (nk : Bool) (t : Nat) (x y : SV) (b : Bool), eqT c g nk t x y = some b → ∀ {x' y' : Value}, den ε x = some x' → den ε y = some y' → ∀ d, g ≤ d → ∀ w, (Op.equalIn d t x' y').run P w = .ok b w
  | 0, _, _, _, _, _, h, _, _, _, _, _, _, _ => by cases h
  | g + 1, nk, t, x, y, b, h, x', y', hx, hy, 0, hd, _ => by omega
  | g + 1, nk, t, x, y, b, h, x', y', hx, hy, d + 1, hd, w => by
    have ih := eqT_ok hP (ε := ε) g
    unfold eqT at h
    obtain ⟨de, hde, h⟩ := Option.bind_eq_some_iff.1 h
    have ud := und_ok hP hde
    cases de with
    | int ik =>
      cases x with
      | int k a =>
        cases y with
        | int k' a' =>
          obtain ⟨hk, h⟩ := bif_t (show (bif beqK k k' then some (beqI a a') else none) = some b from h)
          cases h; cases hx; cases hy
          rw [beqK_eq hk, run_equalIn_int w d t k' ik a a' ud, beqI_eq]
          congr 1
        | _ => cases h
      | _ => cases h
    | string =>
      cases x with
      | str a =>
        cases y with
        | str a' =>
          cases h; cases hx; cases hy
          rw [run_equalIn_string w d t _ _ ud, str_eq]
        | _ => cases h
      | _ => cases h
    | bool =>
      cases x with
      | bool a =>
        cases y with
        | bool a' =>
          cases h; cases hx; cases hy
          rw [run_equalIn_bool w d t _ _ ud]
          cases a <;> cases a' <;> rfl
        | _ => cases h
      | _ => cases h
    | pointer e =>
      have ru := run_underlying ud w
      cases x with
      | nilp =>
        cases y with
        | nilp => cases h; cases hx; cases hy; simp [Op.equalIn, ru]
        | ptr n o =>
          cases h; cases hx
          obtain ⟨blk, _, rfl⟩ := den_ptr hy
          simp [Op.equalIn, ru]
        | _ => cases h
      | ptr n o =>
        obtain ⟨blk, hb, rfl⟩ := den_ptr hx
        cases y with
        | nilp => cases h; cases hy; simp [Op.equalIn, ru]
        | ptr m q =>
          obtain ⟨blk2, hb2, rfl⟩ := den_ptr hy
          obtain ⟨s, hs, h⟩ := Option.bind_eq_some_iff.1 (show (sizeT c.ty e).bind _ = some b from h)
          obtain ⟨hs0, h⟩ := bif_f h
          obtain ⟨hnm, h⟩ := bif_t h
          cases h
          have := paEq_iff.1 hnm; subst this
          rw [hb] at hb2; cases hb2
          have hs1 : s ≠ 0 := fun e => by rw [e] at hs0; cases hs0
          have hbq : (({ block := blk.b, off := blk.q + o } : Addr) == { block := blk.b, off := blk.q + q }) = Nat.beq o q := by
            rw [Bool.eq_iff_iff, beq_iff_eq, Nat.beq_eq]
            constructor
            · intro e; injection e with _ e _; omega
            · intro e; rw [e]
          simp [Op.equalIn, ru, run_size hP hs, hs1, sameAddr, hbq]
        | _ => cases h
      | _ => cases h
    | interface ms =>
      have ru := run_underlying ud w
      cases x with
      | nilif =>
        cases y with
        | nilif =>
          obtain ⟨_, h⟩ := bif_t (show (bif nk then some true else none) = some b from h)
          cases h; cases hx; cases hy; simp [Op.equalIn, ru]
        | iface u v =>
          cases h; cases hx
          unfold den at hy
          obtain ⟨z, _, hy⟩ := Option.bind_eq_some_iff.1 hy
          cases hy
          simp [Op.equalIn, ru]
        | _ => cases h
      | iface u v =>
        unfold den at hx
        obtain ⟨z, hz, hx⟩ := Option.bind_eq_some_iff.1 hx
        cases hx
        cases y with
        | nilif => cases h; cases hy; simp [Op.equalIn, ru]
        | iface u' v' =>
          unfold den at hy
          obtain ⟨z', hz', hy⟩ := Option.bind_eq_some_iff.1 hy
          cases hy
          have h' : (bif Nat.beq u u' then (bif c.cmpok u then eqT c g false u v v' else none) else some false) = some b := h
          cases hu : Nat.beq u u' with
          | true =>
            rw [hu] at h'
            have := Nat.eq_of_beq_eq_true hu; subst this
            obtain ⟨hc, h2⟩ := bif_t (show (bif c.cmpok u then eqT c g false u v v' else none) = some b from h')
            obtain ⟨i, hi, hic⟩ := hP.cmpok u hc
            have hr := ih false u v v' b h2 hz hz' d (by omega) w
            simp [Op.equalIn, ru, typeInfo, hi, hic, hr]
          | false =>
            rw [hu] at h'; cases h'
            have hne : u ≠ u' := fun e => by rw [e, Nat.beq_refl] at hu; cases hu
            simp [Op.equalIn, ru, hne]
        | _ => cases h
      | _ => cases h
    | slice e =>
      have ru := run_underlying ud w
      have nn : ∀ {v : SV} {z : Value}, den ε v = some z → (match v with | .sl _ _ _ _ => True | .slt _ _ _ _ => True | _ => False) → ∃ A l k, z = .slice (some A) l k := by
        intro v z hv hm
        cases v <;> try exact hm.elim
        · obtain ⟨x, k, _, rfl, _⟩ := den_sl hv; exact ⟨_, _, _, rfl⟩
        · obtain ⟨A, k, rfl⟩ := den_slt hv; exact ⟨_, _, _, rfl⟩
      cases x with
      | nilsl =>
        cases y with
        | nilsl => cases h; cases hx; cases hy; simp [Op.equalIn, ru]
        | sl n o l q =>
          cases h; cases hx
          obtain ⟨A, l, k, rfl⟩ := nn hy trivial
          simp [Op.equalIn, ru]
        | slt n o l q =>
          cases h; cases hx
          obtain ⟨A, l, k, rfl⟩ := nn hy trivial
          simp [Op.equalIn, ru]
        | _ => cases h
      | sl n o l q =>
        cases y with
        | nilsl =>
          cases h; cases hy
          obtain ⟨A, l, k, rfl⟩ := nn hx trivial
          simp [Op.equalIn, ru]
        | _ => cases h
      | slt n o l q =>
        cases y with
        | nilsl =>
          cases h; cases hy
          obtain ⟨A, l, k, rfl⟩ := nn hx trivial
          simp [Op.equalIn, ru]
        | _ => cases h
      | _ => cases h
    | map kt e =>
      have ru := run_underlying ud w
      cases x with
      | nilmap =>
        cases y with
        | nilmap => cases h; cases hx; cases hy; simp [Op.equalIn, ru]
        | map n =>
          cases h; cases hx
          unfold den at hy
          obtain ⟨z, _, hy⟩ := Option.bind_eq_some_iff.1 hy
          cases hy
          simp [Op.equalIn, ru]
        | _ => cases h
      | map n =>
        cases y with
        | nilmap =>
          cases h; cases hy
          unfold den at hx
          obtain ⟨z, _, hx⟩ := Option.bind_eq_some_iff.1 hx
          cases hx
          simp [Op.equalIn, ru]
        | _ => cases h
      | _ => cases h
    | func ps rs vr =>
      have ru := run_underlying ud w
      cases x with
      | nilfn =>
        cases y with
        | nilfn => cases h; cases hx; cases hy; simp [Op.equalIn, ru]
        | fn f p q =>
          cases h; cases hx
          unfold den at hy
          obtain ⟨z, _, hy⟩ := Option.bind_eq_some_iff.1 hy
          obtain ⟨z', _, hy⟩ := Option.bind_eq_some_iff.1 hy
          cases hy
          simp [Op.equalIn, ru]
        | _ => cases h
      | fn f p q =>
        cases y with
        | nilfn =>
          cases h; cases hy
          unfold den at hx
          obtain ⟨z, _, hx⟩ := Option.bind_eq_some_iff.1 hx
          obtain ⟨z', _, hx⟩ := Option.bind_eq_some_iff.1 hx
          cases hx
          simp [Op.equalIn, ru]
        | _ => cases h
      | _ => cases h
    | struct fs =>
      cases x with
      | agg l =>
        cases y with
        | agg m =>
          obtain ⟨hok, h⟩ := bif_t (show (bif c.eqok t then _ else none) = some b from h)
          obtain ⟨xs, hxs, rfl⟩ := den_agg hx
          obtain ⟨ys, hys, rfl⟩ := den_agg hy
          have hfo : P.fieldsOf t = fs := by unfold Program.fieldsOf; rw [ud]
          rw [run_equalIn_agg w d t _ _ (by rw [hfo]; exact ud) (hP.eqok t hok).2, hfo]
          generalize fs.toList = L at h
          clear hfo hde ud hx hy
          induction L with
          | nil => cases h; rfl
          | cons f L ihL =>
            unfold eqFs at h
            by_cases hn : f.name = "_"
            · rw [if_pos hn] at h; cases h
            · rw [if_neg hn] at h
              obtain ⟨q, hq, h⟩ := Option.bind_eq_some_iff.1 h
              obtain ⟨v1, hv1, h⟩ := Option.bind_eq_some_iff.1 h
              obtain ⟨v2, hv2, h⟩ := Option.bind_eq_some_iff.1 h
              obtain ⟨r, hr, h⟩ := Option.bind_eq_some_iff.1 h
              obtain ⟨z1, hz1, e1⟩ := pt_ok hP hxs hq hv1 w
              obtain ⟨z2, hz2, e2⟩ := pt_ok hP hys hq hv2 w
              have e3 := ih false f.type v1 v2 r hr hz1 hz2 d (by omega) w
              unfold Op.eqFields
              simp only [ne_eq, hn, not_false_eq_true, if_true, Sem.run_bind, e1, e2, e3, Result.andThen_ok]
              cases r with
              | true => exact ihL h
              | false => cases h; rfl
        | _ => cases h
      | _ => cases h
    | array n e =>
      cases x with
      | agg l =>
        cases y with
        | agg m =>
          obtain ⟨hok, h⟩ := bif_t (show (bif c.eqok t then _ else none) = some b from h)
          obtain ⟨s, hs, h⟩ := Option.bind_eq_some_iff.1 h
          obtain ⟨q, hq, h⟩ := Option.bind_eq_some_iff.1 h
          obtain ⟨xs, hxs, rfl⟩ := den_agg hx
          obtain ⟨ys, hys, rfl⟩ := den_agg hy
          unfold sizeT at hs
          obtain ⟨i, hi, hs⟩ := Option.bind_eq_some_iff.1 hs
          cases hs
          have hi' := hP.ty e i hi
          have hcs : P.cellsOf e = i.size := by unfold Program.cellsOf; rw [hi']; rfl
          rw [run_equalIn_array w d _ _ ud hi', hcs, List.range_eq_range']
          exact eqEs_run hP hxs hys hq (fun v1 v2 r z1 z2 hr hz1 hz2 => ih false e v1 v2 r hr hz1 hz2 d (by omega) w) n 0 h
        | _ => cases h
      | _ => cases h
    | _ => cases h
end
end Go.Proofs.YtohikcchbjchkaaGreatDoor.Sx

