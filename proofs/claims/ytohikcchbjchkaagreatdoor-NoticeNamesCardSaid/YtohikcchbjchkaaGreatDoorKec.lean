import Derived.Test.YtohikcchbjchkaaGreatDoorKeb
set_option linter.unusedVariables false
set_option linter.unusedSimpArgs false
/- Operations on two values; calls of the language's own functions. -/
namespace Go.Proofs.YtohikcchbjchkaaGreatDoor.Sx
open Go
section
variable {P : Program} {c : Cx}
theorem bits2_ok {f : Nat → Nat → Nat} {g : (n : Nat) → BitVec n → BitVec n → BitVec n} (hfg : ∀ (n x y : Nat), (g n (BitVec.ofInt n (x : Int)) (BitVec.ofInt n (y : Int))).toNat = f x y % 2 ^ n) {ε : Env} (k : IntKind) (a b : Int) :
    den ε (bits2 f g k a b) = some (.int k (k.wrap (g k.bits (BitVec.ofInt k.bits a) (BitVec.ofInt k.bits b)).toNat)) := by
  unfold bits2
  split
  · rename_i x y
    show some (Value.int k (wrapI k (.ofNat (f x y)))) = _
    rw [wrapI_eq]
    have := hfg k.bits x y
    show some (Value.int k (k.wrap ((f x y : Nat) : Int))) = some (Value.int k (k.wrap ((g k.bits (BitVec.ofInt k.bits (x : Int)) (BitVec.ofInt k.bits (y : Int))).toNat : Int)))
    rw [this]
    have hw : ∀ n : Nat, k.wrap ((n % 2 ^ k.bits : Nat) : Int) = k.wrap (n : Int) := by
      intro n
      unfold IntKind.wrap
      have : ((n % 2 ^ k.bits : Nat) : Int) % (2 ^ k.bits : Int) = (n : Int) % (2 ^ k.bits : Int) := by
        rw [Int.natCast_emod]
        have h2 : ((2 ^ k.bits : Nat) : Int) = (2 ^ k.bits : Int) := by simp
        rw [h2, Int.emod_emod_of_dvd _ (Int.dvd_refl _)]
      rw [this]
    rw [hw]
  · rfl
theorem ofInt_nat (n x : Nat) : BitVec.ofInt n (x : Int) = BitVec.ofNat n x := by simp
theorem binI_ok {ε : Env} {op : BinOp} {k : IntKind} {a b : Int} {r : SV} (h : binI op k a b = some r) (hs : op ≠ .shl) (hs2 : op ≠ .shr) (t : TypeId) (w : World) :
    ∃ z, den ε r = some z ∧ (binOp op t (.int k a) (.int k b)).run P w = .ok z w := by
  cases op with
  | add => cases h; exact ⟨_, by show some (Value.int k (wrapI k (Int.add a b))) = _; rw [wrapI_eq], by rw [binOp_add]; rfl⟩
  | sub => cases h; exact ⟨_, by show some (Value.int k (wrapI k (Int.sub a b))) = _; rw [wrapI_eq], by rw [binOp_sub]; rfl⟩
  | mul => cases h; exact ⟨_, by show some (Value.int k (wrapI k (Int.mul a b))) = _; rw [wrapI_eq], by rw [binOp_mul]; rfl⟩
  | quo =>
    obtain ⟨hb, h⟩ := bif_f (show (bif beqI b 0 then none else _) = some r from h)
    cases h
    have hb0 : b ≠ 0 := by rw [beqI_eq] at hb; simpa using hb
    exact ⟨_, by show some (Value.int k (wrapI k (Int.tdiv a b))) = _; rw [wrapI_eq], by rw [binOp_quo]; simp [Op.intDiv, hb0]⟩
  | rem =>
    obtain ⟨hb, h⟩ := bif_f (show (bif beqI b 0 then none else _) = some r from h)
    cases h
    have hb0 : b ≠ 0 := by rw [beqI_eq] at hb; simpa using hb
    exact ⟨_, rfl, by rw [binOp_rem]; simp [Op.intDiv, hb0]⟩
  | and =>
    cases h
    refine ⟨_, bits2_ok (fun n x y => ?_) k a b, by rw [binOp_and]; rfl⟩
    rw [ofInt_nat, ofInt_nat, BitVec.toNat_and, BitVec.toNat_ofNat, BitVec.toNat_ofNat]
    exact (Nat.and_mod_two_pow (a := x) (b := y) (n := n)).symm
  | or =>
    cases h
    refine ⟨_, bits2_ok (fun n x y => ?_) k a b, by rw [binOp_or]; rfl⟩
    rw [ofInt_nat, ofInt_nat, BitVec.toNat_or, BitVec.toNat_ofNat, BitVec.toNat_ofNat]
    exact (Nat.or_mod_two_pow (a := x) (b := y) (n := n)).symm
  | xor =>
    cases h
    refine ⟨_, bits2_ok (fun n x y => ?_) k a b, by rw [binOp_xor]; rfl⟩
    rw [ofInt_nat, ofInt_nat, BitVec.toNat_xor, BitVec.toNat_ofNat, BitVec.toNat_ofNat]
    exact (Nat.xor_mod_two_pow (a := x) (b := y) (n := n)).symm
  | andNot => cases h; exact ⟨_, rfl, by rw [binOp_andNot]; rfl⟩
  | eql => cases h; exact ⟨_, rfl, by rw [binOp_eql, beqI_eq]; rfl⟩
  | neq => cases h; exact ⟨_, rfl, by rw [binOp_neq, beqI_eq]; simp [bne]; rfl⟩
  | lss => cases h; exact ⟨_, rfl, by rw [binOp_lss, ltI_eq]; rfl⟩
  | leq =>
    cases h; refine ⟨_, rfl, ?_⟩
    rw [binOp_leq, ltI_eq]
    have : decide (a ≤ b) = !decide (b < a) := by rw [Bool.eq_iff_iff]; simp
    rw [this]; rfl
  | gtr => cases h; exact ⟨_, rfl, by rw [binOp_gtr, ltI_eq]; rfl⟩
  | geq =>
    cases h; refine ⟨_, rfl, ?_⟩
    rw [binOp_geq, ltI_eq]
    have : decide (a ≥ b) = !decide (a < b) := by rw [Bool.eq_iff_iff]; simp
    rw [this]; rfl
  | shl => exact absurd rfl hs
  | shr => exact absurd rfl hs2
theorem binS_ok {ε : Env} {op : BinOp} {a b : List UInt8} {r : SV} (h : binS op a b = some r) (t : TypeId) (w : World) :
    ∃ z, den ε r = some z ∧ (binOp op t (.string ⟨a.toArray⟩) (.string ⟨b.toArray⟩)).run P w = .ok z w := by
  have hle : ∀ a b : List UInt8, (ltB a b || beqB a b) = !ltB b a := by
    intro a b
    induction a generalizing b with
    | nil => cases b <;> rfl
    | cons x a ih =>
      cases b with
      | nil => rfl
      | cons y b =>
        show ((bif Nat.blt x.toNat y.toNat then true else bif Nat.beq x.toNat y.toNat then ltB a b else false) || (bif Nat.beq x.toNat y.toNat then beqB a b else false)) = !(bif Nat.blt y.toNat x.toNat then true else bif Nat.beq y.toNat x.toNat then ltB b a else false)
        rcases Nat.lt_trichotomy x.toNat y.toNat with h | h | h
        · have h1 : Nat.blt x.toNat y.toNat = true := by rw [Nat.blt_eq]; exact h
          have h2 : Nat.blt y.toNat x.toNat = false := by cases e : Nat.blt y.toNat x.toNat with
            | false => rfl
            | true => have := blt_lt e; omega
          rw [h1, h2, beqN_false (show y.toNat ≠ x.toNat by omega)]; rfl
        · have h1 : Nat.blt x.toNat y.toNat = false := by cases e : Nat.blt x.toNat y.toNat with
            | false => rfl
            | true => have := blt_lt e; omega
          have h2 : Nat.blt y.toNat x.toNat = false := by cases e : Nat.blt y.toNat x.toNat with
            | false => rfl
            | true => have := blt_lt e; omega
          rw [h1, h2, h, Nat.beq_refl]
          exact ih b
        · have h1 : Nat.blt x.toNat y.toNat = false := by cases e : Nat.blt x.toNat y.toNat with
            | false => rfl
            | true => have := blt_lt e; omega
          have h2 : Nat.blt y.toNat x.toNat = true := by rw [Nat.blt_eq]; exact h
          rw [h1, h2, beqN_false (show x.toNat ≠ y.toNat by omega)]; rfl
  have e1 := str_eq a b
  have e2 := ltB_eq a b
  cases op with
  | add =>
    obtain ⟨hl, h⟩ := bif_t (show (bif Nat.ble (a.length + b.length) 1000000000 then _ else none) = some r from h)
    cases h
    have hl' := Nat.le_of_ble_eq_true hl
    refine ⟨_, rfl, ?_⟩
    have : ¬ (((a.length + b.length : Nat) : Int) > IntKind.i64.max) := by
      have : IntKind.i64.max = 9223372036854775807 := by decide
      rw [this]; omega
    simp only [binOp, Op.stringOp]
    rw [if_neg (by simpa [ByteArray.size] using this)]
    simp only [Sem.run_pure]
    congr 2
  | eql => cases h; exact ⟨_, rfl, by simp only [binOp, Op.stringOp, e1]; rfl⟩
  | neq => cases h; exact ⟨_, rfl, by simp only [binOp, Op.stringOp, e1]; rfl⟩
  | lss => cases h; exact ⟨_, rfl, by simp only [binOp, Op.stringOp, toList_mk, e2]; rfl⟩
  | leq =>
    cases h; refine ⟨_, rfl, ?_⟩
    simp only [binOp, Op.stringOp, e1]
    simp only [toList_mk, e2, hle]; rfl
  | gtr =>
    cases h; refine ⟨_, rfl, ?_⟩
    simp only [binOp, Op.stringOp, e1]
    simp only [toList_mk, e2, hle, Bool.not_not]; rfl
  | geq => cases h; exact ⟨_, rfl, by simp only [binOp, Op.stringOp, toList_mk, e2]; rfl⟩
  | _ => cases h
theorem guardIn_nil {t : Nat} {ms : Array (String × TypeId)} (ud : P.underlying t = some (.interface ms)) (d : Nat) (w : World) : (Op.eqGuardIn (d + 1) t .nilIface .nilIface).run P w = .ok (!ms.isEmpty) w := by
  simp [Op.eqGuardIn, run_underlying ud]
theorem guard_ok (hP : POk P c) {ε : Env} {op : BinOp} {t : Nat} {x y : Operand} {v u : SV} {v' u' : Value} (hv : den ε v = some v') (hu : den ε u = some u') (hop : op = .eql ∨ op = .neq) {b : Bool} {g : Nat} (h : eqT c g (nilok c.ty t x y) t v u = some b) (w : World) :
    (eqGuard op t x y v' u').run P w = .ok () w := by
  have simple : (∀ a b, ¬ (v' = .agg a ∧ u' = .agg b)) → ¬ (v' = .nilIface ∧ u' = .nilIface) → (eqGuard op t x y v' u').run P w = .ok () w := by
    intro h1 h2
    have e : eqGuard op t x y v' u' = pure () := by
      rcases hop with rfl | rfl <;>
      · cases v' with
        | agg a => cases u' <;> first | rfl | exact absurd ⟨rfl, rfl⟩ (h1 _ _)
        | nilIface => cases u' <;> first | rfl | exact absurd ⟨rfl, rfl⟩ h2
        | _ => rfl
    rw [e]; rfl
  cases g with
  | zero => cases h
  | succ g =>
    unfold eqT at h
    obtain ⟨d, hd, h⟩ := Option.bind_eq_some_iff.1 h
    have ud := und_ok hP hd
    cases v with
    | agg l =>
      cases u with
      | agg m =>
        have hok : c.eqok t = true := by
          cases d <;> try cases h
          · exact (bif_t (show (bif c.eqok t then _ else none) = some b from h)).1
          · exact (bif_t (show (bif c.eqok t then _ else none) = some b from h)).1
        obtain ⟨xs, _, rfl⟩ := den_agg hv
        obtain ⟨ys, _, rfl⟩ := den_agg hu
        exact run_eqGuard_agg w op t x y _ _ (hP.eqok t hok).1
      | _ => cases d <;> cases h
    | nilif =>
      cases u with
      | nilif =>
        cases hv; cases hu
        have hnk : nilok c.ty t x y = true := by
          cases d <;> try cases h
          exact (bif_t (show (bif nilok c.ty t x y then some true else none) = some b from h)).1
        have hint : ∃ ms, d = .interface ms := by
          cases d <;> try cases h
          exact ⟨_, rfl⟩
        obtain ⟨ms, rfl⟩ := hint
        unfold nilok at hnk
        rcases hop with rfl | rfl <;>
        · unfold eqGuard
          cases hx : isC x with
          | true =>
            cases x <;> try cases hx
            simp
          | false =>
            cases hy : isC y with
            | true =>
              cases y <;> try cases hy
              cases x <;> simp
            | false =>
              rw [hx, hy] at hnk
              simp only [cond_false, hd] at hnk
              have hg : (Op.eqGuardIn Op.maxDepth t .nilIface .nilIface).run P w = .ok (!ms.isEmpty) w := by
                exact guardIn_nil ud 9999 w
              rw [hnk] at hg
              generalize Op.maxDepth = D at hg ⊢
              cases x <;> try cases hx
              all_goals cases y <;> try cases hy
              all_goals simp [hg]
      | iface _ _ =>
        cases hv
        refine simple (by rintro a b ⟨e, _⟩; cases e) (by rintro ⟨_, e⟩; unfold den at hu; obtain ⟨z, _, hu⟩ := Option.bind_eq_some_iff.1 hu; cases hu; cases e)
      | _ => cases d <;> cases h
    | iface _ _ =>
      unfold den at hv
      obtain ⟨z, _, hv⟩ := Option.bind_eq_some_iff.1 hv
      cases hv
      exact simple (by rintro a b ⟨e, _⟩; cases e) (by rintro ⟨e, _⟩; cases e)
    | bool _ => cases hv; exact simple (by rintro a b ⟨e, _⟩; cases e) (by rintro ⟨e, _⟩; cases e)
    | int _ _ => cases hv; exact simple (by rintro a b ⟨e, _⟩; cases e) (by rintro ⟨e, _⟩; cases e)
    | str _ => cases hv; exact simple (by rintro a b ⟨e, _⟩; cases e) (by rintro ⟨e, _⟩; cases e)
    | nilp => cases hv; exact simple (by rintro a b ⟨e, _⟩; cases e) (by rintro ⟨e, _⟩; cases e)
    | nilsl => cases hv; exact simple (by rintro a b ⟨e, _⟩; cases e) (by rintro ⟨e, _⟩; cases e)
    | nilmap => cases hv; exact simple (by rintro a b ⟨e, _⟩; cases e) (by rintro ⟨e, _⟩; cases e)
    | nilfn => cases hv; exact simple (by rintro a b ⟨e, _⟩; cases e) (by rintro ⟨e, _⟩; cases e)
    | ptr _ _ => obtain ⟨_, _, rfl⟩ := den_ptr hv; exact simple (by rintro a b ⟨e, _⟩; cases e) (by rintro ⟨e, _⟩; cases e)
    | sl _ _ _ _ => obtain ⟨_, _, _, rfl, _⟩ := den_sl hv; exact simple (by rintro a b ⟨e, _⟩; cases e) (by rintro ⟨e, _⟩; cases e)
    | slt _ _ _ _ => obtain ⟨_, _, rfl⟩ := den_slt hv; exact simple (by rintro a b ⟨e, _⟩; cases e) (by rintro ⟨e, _⟩; cases e)
    | map _ =>
      unfold den at hv
      obtain ⟨z, _, hv⟩ := Option.bind_eq_some_iff.1 hv
      cases hv
      exact simple (by rintro a b ⟨e, _⟩; cases e) (by rintro ⟨e, _⟩; cases e)
    | fn _ _ _ =>
      unfold den at hv
      obtain ⟨z, _, hv⟩ := Option.bind_eq_some_iff.1 hv
      obtain ⟨z', _, hv⟩ := Option.bind_eq_some_iff.1 hv
      cases hv
      exact simple (by rintro a b ⟨e, _⟩; cases e) (by rintro ⟨e, _⟩; cases e)
    | yld _ =>
      unfold den at hv
      obtain ⟨z, _, hv⟩ := Option.bind_eq_some_iff.1 hv
      cases hv
      exact simple (by rintro a b ⟨e, _⟩; cases e) (by rintro ⟨e, _⟩; cases e)
    | tup _ =>
      obtain ⟨_, _, rfl⟩ := den_tup hv
      exact simple (by rintro a b ⟨e, _⟩; cases e) (by rintro ⟨e, _⟩; cases e)
theorem den_inv {ε : Env} {v : SV} {p : Value} (h : den ε v = some p) : (∀ k a, p = .int k a → v = .int k a) ∧ (∀ s, p = .string s → ∃ l, v = .str l) ∧ (∀ k a, p ≠ .float k a) ∧ (∀ k a b, p ≠ .complex k a b) := by
  cases v with
  | int k a => cases h; exact (by refine ⟨?_, ?_, ?_, ?_⟩ <;> simp)
  | str l => cases h; exact (by refine ⟨?_, ?_, ?_, ?_⟩ <;> simp)
  | bool _ => cases h; exact (by refine ⟨?_, ?_, ?_, ?_⟩ <;> simp)
  | nilp => cases h; exact (by refine ⟨?_, ?_, ?_, ?_⟩ <;> simp)
  | nilsl => cases h; exact (by refine ⟨?_, ?_, ?_, ?_⟩ <;> simp)
  | nilmap => cases h; exact (by refine ⟨?_, ?_, ?_, ?_⟩ <;> simp)
  | nilfn => cases h; exact (by refine ⟨?_, ?_, ?_, ?_⟩ <;> simp)
  | nilif => cases h; exact (by refine ⟨?_, ?_, ?_, ?_⟩ <;> simp)
  | ptr _ _ => obtain ⟨_, _, rfl⟩ := den_ptr h; exact (by refine ⟨?_, ?_, ?_, ?_⟩ <;> simp)
  | sl _ _ _ _ => obtain ⟨_, _, _, rfl, _⟩ := den_sl h; exact (by refine ⟨?_, ?_, ?_, ?_⟩ <;> simp)
  | slt _ _ _ _ => obtain ⟨_, _, rfl⟩ := den_slt h; exact (by refine ⟨?_, ?_, ?_, ?_⟩ <;> simp)
  | agg _ => obtain ⟨_, _, rfl⟩ := den_agg h; exact (by refine ⟨?_, ?_, ?_, ?_⟩ <;> simp)
  | tup _ => obtain ⟨_, _, rfl⟩ := den_tup h; exact (by refine ⟨?_, ?_, ?_, ?_⟩ <;> simp)
  | map _ =>
    unfold den at h
    obtain ⟨z, _, h⟩ := Option.bind_eq_some_iff.1 h
    cases h; exact (by refine ⟨?_, ?_, ?_, ?_⟩ <;> simp)
  | yld _ =>
    unfold den at h
    obtain ⟨z, _, h⟩ := Option.bind_eq_some_iff.1 h
    cases h; exact (by refine ⟨?_, ?_, ?_, ?_⟩ <;> simp)
  | iface _ _ =>
    unfold den at h
    obtain ⟨z, _, h⟩ := Option.bind_eq_some_iff.1 h
    cases h; exact (by refine ⟨?_, ?_, ?_, ?_⟩ <;> simp)
  | fn _ _ _ =>
    unfold den at h
    obtain ⟨z, _, h⟩ := Option.bind_eq_some_iff.1 h
    obtain ⟨z', _, h⟩ := Option.bind_eq_some_iff.1 h
    cases h; exact (by refine ⟨?_, ?_, ?_, ?_⟩ <;> simp)
theorem shift_run {op : BinOp} (hop : op = .shl ∨ op = .shr) {k k' : IntKind} {a : Int} {n : Nat} (t : TypeId) (w : World) :
    (binOp op t (.int k a) (.int k' (n : Int))).run P w = .ok (.int k (if op = .shl then k.wrap (a * 2 ^ (min n k.bits)) else a.fdiv (2 ^ (min n k.bits)))) w := by
  have h0 : ¬ ((n : Int) < 0) := by omega
  rcases hop with rfl | rfl
  · rw [binOp_shl]; simp [Op.shift, h0]
  · rw [binOp_shr]; simp [Op.shift, h0]
theorem binV_int {op : BinOp} {t : Nat} {nk : Bool} {k k' : IntKind} {a b : Int} {r : SV} (h : binV c op t nk (.int k a) (.int k' b) = some r) :
    (op = .shl ∧ ∃ n, natI b = some n ∧ r = .int k (wrapI k (a * 2 ^ (min n k.bits)))) ∨ (op = .shr ∧ ∃ n, natI b = some n ∧ r = .int k (Int.fdiv a (2 ^ (min n k.bits)))) ∨ (op ≠ .shl ∧ op ≠ .shr ∧ beqK k k' = true ∧ binI op k a b = some r) := by
  cases op with
  | shl =>
    obtain ⟨n, hn, e⟩ := Option.bind_eq_some_iff.1 (show (natI b).bind _ = some r from h)
    cases e; exact .inl ⟨rfl, n, hn, rfl⟩
  | shr =>
    obtain ⟨n, hn, e⟩ := Option.bind_eq_some_iff.1 (show (natI b).bind _ = some r from h)
    cases e; exact .inr (.inl ⟨rfl, n, hn, rfl⟩)
  | _ =>
    obtain ⟨h1, h2⟩ := bif_t (show (bif beqK k k' then _ else none) = some r from h)
    exact .inr (.inr ⟨by simp, by simp, h1, h2⟩)
theorem binV_rest {op : BinOp} {t : Nat} {nk : Bool} {v u r : SV} (n1 : ∀ k a, v ≠ .int k a) (n2 : ∀ l, v ≠ .str l) (h : binV c op t nk v u = some r) :
    (op = .eql ∧ ∃ b, eqT c 64 nk t v u = some b ∧ r = .bool b) ∨ (op = .neq ∧ ∃ b, eqT c 64 nk t v u = some b ∧ r = .bool (not b)) := by
  unfold binV at h
  split at h
  · exact absurd rfl (n1 _ _)
  · exact absurd rfl (n2 _)
  · split at h
    · obtain ⟨b, hb, e⟩ := Option.bind_eq_some_iff.1 h
      cases e; exact .inl ⟨rfl, b, hb, rfl⟩
    · obtain ⟨b, hb, e⟩ := Option.bind_eq_some_iff.1 h
      cases e; exact .inr ⟨rfl, b, hb, rfl⟩
    · cases h
theorem lok_binOp (hP : POk P c) {op : BinOp} {t t2 : Nat} {x y : Operand} {k : Bool} {g : LF} (h : compL c (.binOp op t x y t2) = some (k, g)) : LOk P c (.binOp op t x y t2) g := by
  unfold compL at h; dsimp only at h
  obtain ⟨X, hX, h⟩ := Option.bind_eq_some_iff.1 h
  obtain ⟨Y, hY, h⟩ := Option.bind_eq_some_iff.1 h
  cases h
  refine lok_of fun B ε h nn f a w o ho hst hf hg => ⟨(do eqGuard op t x y (a.eval x) (a.eval y); binOp op t (a.eval x) (a.eval y)), by simp only [execOp, ho], .obd fun v hv => .obd fun u hu => .lv fun r hr => ?_⟩
  obtain ⟨p, hp, e1⟩ := opd_ok hf hg hX hv
  obtain ⟨q, hq, e2⟩ := opd_ok hf hg hY hu
  rw [e1, e2]
  have eqs : ∀ (hh : (∃ b, op = .eql ∧ eqT c 64 (nilok c.ty t x y) t v u = some b ∧ r = .bool b) ∨ (∃ b, op = .neq ∧ eqT c 64 (nilok c.ty t x y) t v u = some b ∧ r = .bool (not b))) (_ : ∀ k a k' b, ¬ (p = .int k a ∧ q = .int k' b)) (_ : ∀ a b, ¬ (p = .string a ∧ q = .string b)) (_ : ∀ k a k' b, ¬ (p = .float k a ∧ q = .float k' b)) (_ : ∀ k a a2 k' b b2, ¬ (p = .complex k a a2 ∧ q = .complex k' b b2)),
      ∃ z, den ε r = some z ∧ (do eqGuard op t x y p q; binOp op t p q : Sem Value).run P w = .ok z w := by
    intro hh n1 n2 n3 n4
    rcases hh with ⟨b, rfl, hb, rfl⟩ | ⟨b, rfl, hb, rfl⟩
    · have hgd := guard_ok hP (x := x) (y := y) hp hq (.inl rfl) hb w
      have he := eqT_ok hP 64 _ t v u b hb hp hq Op.maxDepth (by decide) w
      refine ⟨.bool b, rfl, ?_⟩
      have hbo : binOp .eql t p q = (do pure (.bool (← Op.equal t p q))) := by
        unfold binOp
        split <;> first | rfl | exact absurd ⟨rfl, rfl⟩ (n1 _ _ _ _) | exact absurd ⟨rfl, rfl⟩ (n2 _ _) | exact absurd ⟨rfl, rfl⟩ (n3 _ _ _ _) | exact absurd ⟨rfl, rfl⟩ (n4 _ _ _ _ _ _) | contradiction
      rw [hbo]
      simp [hgd, Op.equal, he]
    · have hgd := guard_ok hP (x := x) (y := y) hp hq (.inr rfl) hb w
      have he := eqT_ok hP 64 _ t v u b hb hp hq Op.maxDepth (by decide) w
      refine ⟨.bool (not b), rfl, ?_⟩
      have hbo : binOp .neq t p q = (do pure (.bool (!(← Op.equal t p q)))) := by
        unfold binOp
        split <;> first | rfl | exact absurd ⟨rfl, rfl⟩ (n1 _ _ _ _) | exact absurd ⟨rfl, rfl⟩ (n2 _ _) | exact absurd ⟨rfl, rfl⟩ (n3 _ _ _ _) | exact absurd ⟨rfl, rfl⟩ (n4 _ _ _ _ _ _) | contradiction
      rw [hbo]
      simp [hgd, Op.equal, he]
  obtain ⟨i1, i2, i3, i4⟩ := den_inv hp
  have rest : (∀ k a, v ≠ .int k a) → (∀ l, v ≠ .str l) → ∃ z, den ε r = some z ∧ (do eqGuard op t x y p q; binOp op t p q : Sem Value).run P w = .ok z w := by
    intro nv1 nv2
    have hr' := binV_rest nv1 nv2 hr
    refine eqs ?_ (fun k a k' b ⟨e, _⟩ => nv1 _ _ (i1 _ _ e)) (fun a b ⟨e, _⟩ => let ⟨l, hl⟩ := i2 _ e; nv2 _ hl) (fun k a k' b ⟨e, _⟩ => i3 _ _ e) (fun k a a2 k' b b2 ⟨e, _⟩ => i4 _ _ _ e)
    rcases hr' with ⟨e, b, hb, e2⟩ | ⟨e, b, hb, e2⟩
    · exact .inl ⟨b, e, hb, e2⟩
    · exact .inr ⟨b, e, hb, e2⟩
  have gd0 : (∀ a, p ≠ .agg a) → p ≠ .nilIface → eqGuard op t x y p q = pure () := by
    intro h1 h2
    cases op <;> first | rfl | (cases p <;> first | rfl | exact absurd rfl (h1 _) | exact absurd rfl h2)
  cases v with
  | int k a =>
    cases hp
    rw [gd0 (by simp) (by simp)]
    cases u with
    | int k' b =>
      cases hq
      rcases binV_int hr with ⟨rfl, n, hn, rfl⟩ | ⟨rfl, n, hn, rfl⟩ | ⟨n1, n2, hk, hr2⟩
      · cases b <;> try cases hn
        refine ⟨_, rfl, ?_⟩
        have := shift_run (P := P) (op := .shl) (.inl rfl) (k := k) (k' := k') (a := a) (n := n) t w
        show (binOp .shl t (.int k a) (.int k' (n : Int))).run P w = _
        rw [this, if_pos rfl, wrapI_eq]
      · cases b <;> try cases hn
        refine ⟨_, rfl, ?_⟩
        have := shift_run (P := P) (op := .shr) (.inr rfl) (k := k) (k' := k') (a := a) (n := n) t w
        show (binOp .shr t (.int k a) (.int k' (n : Int))).run P w = _
        rw [this, if_neg (by simp)]
      · have := beqK_eq hk; subst this
        exact binI_ok hr2 n1 n2 t w
    | _ => cases hr
  | str l =>
    cases hp
    rw [gd0 (by simp) (by simp)]
    cases u with
    | str m => cases hq; exact binS_ok (show binS op l m = some r from hr) t w
    | _ => cases hr
  | _ => exact rest (by simp) (by simp)
end
end Go.Proofs.YtohikcchbjchkaaGreatDoor.Sx

/- Light operations: assertions, iterators, lookups, lengths; all of them. -/
namespace Go.Proofs.YtohikcchbjchkaaGreatDoor.Sx
open Go
section
variable {P : Program} {c : Cx}
theorem den_iface {ε : Env} {t : Nat} {v : SV} {p : Value} (h : den ε (.iface t v) = some p) : ∃ x, den ε v = some x ∧ p = .iface t x := by
  unfold den at h
  obtain ⟨x, hx, h⟩ := Option.bind_eq_some_iff.1 h
  cases h
  exact ⟨x, hx, rfl⟩
theorem den_map {ε : Env} {n : Pa} {p : Value} (h : den ε (.map n) = some p) : ∃ x, ε n = some x ∧ p = .map (some x.b) := by
  unfold den at h
  obtain ⟨x, hx, h⟩ := Option.bind_eq_some_iff.1 h
  cases h
  exact ⟨x, hx, rfl⟩
theorem den_pair {ε : Env} {v : SV} {y : Value} (h : den ε v = some y) (b : Bool) : den ε (.tup [v, .bool b]) = some (.tuple #[y, .bool b]) := by
  unfold den
  rw [denL_mk h (denL_mk rfl rfl)]; rfl
theorem tas_ok (hP : POk P c) {xt t : Nat} {d : TypeDesc} (hd : undT c.ty t = some d) (hni : ∀ ms, d ≠ .interface ms) {ok : Bool} {z : Option SV} (hz : (ok = true ∧ ∃ z', z = some z' ∧ zeroT c.ty t = some z') ∨ (ok = false ∧ z = none)) {ε : Env} {v : SV} {p : Value} (hv : den ε v = some p) (w : World) :
    VOk P ε w (Instr.typeAssert p xt t ok) (xTas t z v) := by
  have ru := run_und hP hd w
  have key : ∀ u x, (Instr.typeAssert (.iface u x) xt t ok).run P w = (if u = t then (pure (if ok then .tuple #[x, .bool true] else x) : Sem Value).run P w else (if ok then (do pure (.tuple #[← zeroValue t, .bool false]) : Sem Value) else runtimePanic (.typeAssertion (some xt) (some u) t "")).run P w) := by
    intro u x
    unfold Instr.typeAssert
    simp only [Sem.run_bind, ru, Result.andThen_ok]
    cases d <;> first | exact absurd rfl (hni _) | (split <;> rfl)
  have key2 : (Instr.typeAssert .nilIface xt t ok).run P w = (if ok then (do pure (.tuple #[← zeroValue t, .bool false]) : Sem Value) else runtimePanic (.typeAssertion (some xt) none t "")).run P w := by
    unfold Instr.typeAssert
    simp only [Sem.run_bind, ru, Result.andThen_ok]
  cases v with
  | iface u x =>
    obtain ⟨y, hy, rfl⟩ := den_iface hv
    refine VOk.bif (fun hu => ?_) (fun hu => ?_)
    · have := Nat.eq_of_beq_eq_true hu; subst this
      rcases hz with ⟨rfl, z', rfl, hz'⟩ | ⟨rfl, rfl⟩
      · exact ⟨_, den_pair hy true, by rw [key, if_pos rfl]; rfl⟩
      · exact ⟨_, hy, by rw [key, if_pos rfl]; rfl⟩
    · have hne : u ≠ t := fun e => by rw [e, Nat.beq_refl] at hu; cases hu
      rcases hz with ⟨rfl, z', rfl, hz'⟩ | ⟨rfl, rfl⟩
      · obtain ⟨zv, h1, h2⟩ := run_zero hP hz' w
        exact ⟨_, den_pair (h2 ε) false, by rw [key, if_neg hne]; simp [h1]⟩
      · trivial
  | nilif =>
    cases hv
    rcases hz with ⟨rfl, z', rfl, hz'⟩ | ⟨rfl, rfl⟩
    · obtain ⟨zv, h1, h2⟩ := run_zero hP hz' w
      exact ⟨_, den_pair (h2 ε) false, by rw [key2]; simp [h1]⟩
    · trivial
  | _ => trivial
theorem lok_typeAssert (hP : POk P c) {x : Operand} {xt t : Nat} {ok : Bool} {k : Bool} {g : LF} (h : compL c (.typeAssert x xt t ok) = some (k, g)) : LOk P c (.typeAssert x xt t ok) g := by
  unfold compL at h; dsimp only at h
  obtain ⟨X, hX, h1⟩ := Option.bind_eq_some_iff.1 h
  obtain ⟨d, hd, h2⟩ := Option.bind_eq_some_iff.1 h1
  clear h h1
  have hni : ∀ ms, d ≠ .interface ms := by rintro ms rfl; cases h2
  have h3 : (bif ok then (zeroT c.ty t).bind fun z => some (false, (fun _ _ f => obd .bad (opv f X) fun v => xTas t (some z) v : LF)) else some (false, fun _ _ f => obd .bad (opv f X) fun v => xTas t none v)) = some (k, g) := by
    cases d <;> first | exact absurd rfl (hni _) | exact h2
  cases ok with
  | true =>
    obtain ⟨z, hz, h4⟩ := Option.bind_eq_some_iff.1 (show (zeroT c.ty t).bind _ = some (k, g) from h3)
    obtain ⟨rfl, rfl⟩ := some_pair h4
    refine lok_of fun B ε h nn f a w o ho hst hf hg => ⟨Instr.typeAssert (a.eval x) xt t true, by simp only [execOp, ho], .obd fun v hv => ?_⟩
    obtain ⟨p, hp, e⟩ := opd_ok hf hg hX hv
    rw [e]
    exact tas_ok hP hd hni (.inl ⟨rfl, z, rfl, hz⟩) hp w
  | false =>
    obtain ⟨rfl, rfl⟩ := some_pair (show some (false, _) = some (k, g) from h3)
    refine lok_of fun B ε h nn f a w o ho hst hf hg => ⟨Instr.typeAssert (a.eval x) xt t false, by simp only [execOp, ho], .obd fun v hv => ?_⟩
    obtain ⟨p, hp, e⟩ := opd_ok hf hg hX hv
    rw [e]
    exact tas_ok hP hd hni (.inr ⟨rfl, rfl⟩) hp w
theorem mapObj {B : Nat} {ε : Env} {h : Tr SO} {w : World} (hs : Sat c B ε h w) {n : Pa} {es : List (SV × SV × Nat)} {clock : Nat} (hn : Tr.get n h = some (.map es clock)) {x : Blk} (hx : ε n = some x) :
    ∃ m : Array MapEntry, w.heap[x.b]? = some (.map m clock) ∧ EntOk ε es m.toList := by
  obtain ⟨x', hx', ho, _⟩ := hs.obj n _ hn
  rw [hx] at hx'; cases hx'
  exact ho
theorem run_getObj {w : World} {r : Nat} {o : Obj} (h : w.heap[r]? = some o) (hc : ∀ a b c, o ≠ .cells a b c) : (getObj r).run P w = .ok o w := by
  unfold getObj
  simp only [Sem.run, h]
theorem lok_range (hP : POk P c) {t : Nat} {x : Operand} {k : Bool} {g : LF} (h : compL c (.range t x) = some (k, g)) : LOk P c (.range t x) g := by
  unfold compL at h; dsimp only at h
  obtain ⟨X, hX, h1⟩ := Option.bind_eq_some_iff.1 h
  obtain ⟨d, hd, h2⟩ := Option.bind_eq_some_iff.1 h1
  clear h h1
  have ud := und_ok hP hd
  cases d <;> try cases h2
  case string =>
    refine lok_ofA fun B ε h nn f a w o ho hst hf hg => ⟨Instr.range t (a.eval x), by simp only [execOp, ho], .obd fun v hv => ?_⟩
    obtain ⟨p, hp, e⟩ := opd_ok hf hg hX hv
    rw [e]
    cases v <;> try trivial
    cases hp
    intro hn
    rename_i s
    refine ⟨.pointer (some ⟨w.heap.size, 0, none⟩), { w with heap := w.heap.push (.stringIter ⟨s.toArray⟩ 0) }, 0, by simp [Instr.range, run_underlying ud], .of rfl, by unfold den; rw [put_same]; rfl, push_at w _, rfl⟩
  case map kt et =>
    refine lok_ofA fun B ε h nn f a w o ho hst hf hg => ⟨Instr.range t (a.eval x), by simp only [execOp, ho], .obd fun v hv => ?_⟩
    obtain ⟨p, hp, e⟩ := opd_ok hf hg hX hv
    rw [e]
    cases v <;> try trivial
    case nilmap =>
      cases hp
      intro hn
      refine ⟨.pointer (some ⟨w.heap.size, 0, none⟩), { w with heap := w.heap.push (.mapIter none 0 #[] 0) }, 0, by simp [Instr.range, run_underlying ud], .of rfl, by unfold den; rw [put_same]; rfl, none, #[], push_at w _, rfl, rfl, rfl⟩
    case map n =>
      obtain ⟨blk, hb, rfl⟩ := den_map hp
      refine .obd fun ob hob => ?_
      cases ob <;> try trivial
      rename_i es clock
      obtain ⟨m, hm, _⟩ := mapObj hst hob hb
      intro hn
      have hro := run_getObj (P := P) hm (by simp)
      refine ⟨.pointer (some ⟨w.heap.size, 0, none⟩), { w with heap := w.heap.push (.mapIter (some blk.b) clock #[] clock) }, 0, by simp [Instr.range, run_underlying ud, hro], .of rfl, by unfold den; rw [put_same]; rfl, some blk.b, #[], push_at w _, rfl, rfl, blk, put_sub _ hn _ _ hb, rfl⟩
theorem bornAt_ok {ε : Env} : ∀ {es : List (SV × SV × Nat)} {m : List MapEntry} {b : Nat} {k v : SV}, EntOk ε es m → bornAt b es = some (k, v) → ∃ e, m.find? (·.born == b) = some e ∧ den ε k = some e.key ∧ den ε v = some e.val
  | [], _, _, _, _, h, hb => by cases hb
  | (k', v', b') :: es, _, b, k, v, .cons (x := x) (y := y) hk hv ht, hb => by
    have hb' : (bif Nat.beq b' b then some (k', v') else bornAt b es) = some (k, v) := hb
    cases h : Nat.beq b' b with
    | true =>
      rw [h] at hb'; cases hb'
      have := Nat.eq_of_beq_eq_true h; subst this
      exact ⟨⟨x, y, b'⟩, by simp, hk, hv⟩
    | false =>
      rw [h] at hb'
      have hne : b' ≠ b := fun e => by rw [e, Nat.beq_refl] at h; cases h
      obtain ⟨e, h1, h2⟩ := bornAt_ok ht hb'
      exact ⟨e, by simp [hne, h1], h2⟩
theorem lok_entry (hP : POk P c) {x : Operand} {k : Bool} {g : LF} (h : compL c (.entry x) = some (k, g)) : LOk P c (.entry x) g := by
  unfold compL at h; dsimp only at h
  obtain ⟨X, hX, h⟩ := Option.bind_eq_some_iff.1 h
  cases h
  refine lok_of fun B ε h nn f a w o ho hst hf hg => ⟨Instr.entry (a.eval x), by simp only [execOp, ho], .obd fun v hv => ?_⟩
  obtain ⟨p, hp, e⟩ := opd_ok hf hg hX hv
  rw [e]
  cases v <;> try trivial
  obtain ⟨blk, hb, rfl⟩ := den_ptr hp
  rename_i n oo
  refine .bif (fun h0 => .obd fun ob hob => ?_) fun _ => trivial
  have := Nat.eq_of_beq_eq_true h0; subst this
  cases ob <;> try trivial
  rename_i m since seen stp
  obtain ⟨x', hx', ho', _⟩ := hst.obj n _ hob
  rw [hb] at hx'; cases hx'
  obtain ⟨r, sn, h1, hq0, h2, h3⟩ := ho'
  refine .obd fun mm hmm => ?_
  subst hmm
  obtain ⟨y, hy, rfl⟩ := h3
  cases seen with
  | nil => trivial
  | cons b bs =>
    refine .obd fun ob2 hob2 => ?_
    cases ob2 <;> try trivial
    rename_i es clock
    refine .bif (fun hc => .obd fun kv hkv => ?_) fun _ => trivial
    have hc' := Nat.eq_of_beq_eq_true hc
    obtain ⟨ms, hms, hent⟩ := mapObj hst hob2 hy
    obtain ⟨k1, v1⟩ := kv
    obtain ⟨en, he1, he2, he3⟩ := bornAt_ok hent hkv
    have hback : sn.back? = some b := by
      have : sn.toList = (b :: bs).reverse := by rw [← h2]; simp
      rw [Array.back?_eq_getElem?]
      have h4 : sn = ((b :: bs).reverse).toArray := by rw [← this]
      rw [h4]; simp
    refine ⟨.tuple #[en.key, en.val], by unfold den; rw [denL_mk he2 (denL_mk he3 rfl)]; rfl, ?_⟩
    have r1 := run_getObj (P := P) h1 (by simp)
    have r2 := run_getObj (P := P) hms (by simp)
    have hf2 : ms.find? (·.born == b) = some en := by rw [← Array.find?_toList]; exact he1
    rw [hq0]
    unfold Instr.entry
    simp [r1, r2, hback, hc', hf2]
theorem plain_inv {v : SV} (h : plainKey v = true) : (∃ k n, v = .int k n) ∨ (∃ s, v = .str s) ∨ ∃ b, v = .bool b := by
  cases v <;> first | (cases h; done) | exact .inl ⟨_, _, rfl⟩ | exact .inr (.inl ⟨_, rfl⟩) | exact .inr (.inr ⟨_, rfl⟩)
theorem kt1_inv {d : TypeDesc} (h : kt1 d = true) : (∃ k, d = .int k) ∨ d = .string ∨ d = .bool := by
  cases d <;> first | (cases h; done) | exact .inl ⟨_, rfl⟩ | exact .inr (.inl rfl) | exact .inr (.inr rfl)
theorem checkKey_plain {t : Nat} {d : TypeDesc} (ud : P.underlying t = some d) (hd : kt1 d = true) (y : Value) (empty : Bool) (n : Nat) (w : World) : (Instr.checkKey empty (n + 1) t y).run P w = .ok () w := by
  unfold Instr.checkKey
  simp only [Sem.run_bind, run_underlying ud, Result.andThen_ok]
  rcases kt1_inv hd with ⟨k, rfl⟩ | rfl | rfl <;> rfl
theorem checkKey_ok (hP : POk P c) {kt : Nat} {v : SV} (h : keyOk c kt v = true) {ε : Env} {y : Value} (hy : den ε v = some y) (empty : Bool) (n : Nat) (w : World) : (Instr.checkKey empty (n + 2) kt y).run P w = .ok () w := by
  unfold keyOk at h
  split at h
  · cases h
  · rename_i d hd
    have ud := und_ok hP hd
    split at h
    · rename_i fs
      split at h
      · rename_i l
        obtain ⟨xs, hxs, rfl⟩ := den_agg hy
        have h2 : fs.toList.all (fun f => match undT c.ty f.type with
          | none => false
          | some d => bif kt1 d then (nth l f.offset).isSome else false) = true := by
          revert h; cases l.all plainKey
          · intro h; cases h
          · intro h; exact h
        unfold Instr.checkKey
        simp only [Sem.run_bind, run_underlying ud, Result.andThen_ok]
        rw [← Array.forIn_toList]
        generalize fs.toList = L at h2
        clear h hd ud
        induction L with
        | nil => rfl
        | cons f L ih =>
          rw [List.all_cons, Bool.and_eq_true] at h2
          have hf := h2.1
          split at hf
          · cases hf
          · rename_i d' hd'
            cases hk : kt1 d' with
            | false => rw [hk] at hf; cases hf
            | true =>
              rw [hk] at hf
              have hn : (nth l f.offset).isSome = true := hf
              obtain ⟨q, hq⟩ := Option.isSome_iff_exists.1 hn
              obtain ⟨z, hz, hz2⟩ := denL_nth hxs hq
              have uf := und_ok hP hd'
              have hag : (isAgg f.type).run P w = .ok false w := by
                rcases kt1_inv hk with ⟨k, rfl⟩ | rfl | rfl <;> simp [isAgg, run_underlying uf]
              have hpart : (part f.type xs.toArray f.offset).run P w = .ok z w := by simp [part, hag, hz2]
              have hck := checkKey_plain (P := P) uf hk z empty n w
              rw [List.forIn_cons]
              by_cases hnm : f.name = "_"
              · simp only [hnm, ne_eq, not_true_eq_false, if_false, Sem.run_bind, Sem.run_pure, Result.andThen_ok]
                exact ih h2.2
              · simp only [hnm, ne_eq, not_false_eq_true, if_true, Sem.run_bind, hpart, Result.andThen_ok, hck, Sem.run_pure]
                exact ih h2.2
      · cases h
    · revert h
      cases hk : kt1 d with
      | false => intro h; cases h
      | true => intro h; exact checkKey_plain ud hk y empty (n + 1) w
theorem sameNow_run {kt : Nat} {kind : TypeDesc} (ud : P.underlying kt = some kind) {x y : Value} {b : Bool} (h : Instr.sameNow kind x y = some b) (w : World) : (Op.equal kt x y).run P w = .ok b w := by
  unfold Instr.sameNow at h
  split at h
  · split at h
    · rename_i e
      cases h; subst e
      exact run_equalIn_int w 9999 kt _ _ _ _ ud
    · cases h
  · cases h
    rename_i a b
    have := run_equalIn_string (P := P) w 9999 kt a b ud
    rw [← beq_toListBytes] at this
    exact this
  · cases h
    exact run_equalIn_bool w 9999 kt _ _ ud
  · cases h
theorem findNow_run {kt : Nat} {kind : TypeDesc} (ud : P.underlying kt = some kind) {k : Value} (w : World) : ∀ (m : List MapEntry) (i : Nat) {r : Option (Nat × Value)}, Instr.findNow kind k m i = some r → (Instr.findAsking kt k m i).run P w = .ok r w
  | [], i, r, h => by cases h; rfl
  | e :: m, i, r, h => by
    unfold Instr.findNow at h
    unfold Instr.findAsking
    split at h
    · rename_i hs
      cases h
      simp [sameNow_run ud hs w]
    · rename_i hs
      simp only [Sem.run_bind, sameNow_run ud hs w, Result.andThen_ok, Bool.false_eq_true, if_false]
      exact findNow_run ud w m (i + 1) h
    · cases h
theorem findKey_run {kt : Nat} {kind : TypeDesc} (ud : P.underlying kt = some kind) {k : Value} {m : List MapEntry} {w : World} {r : Option (Nat × Value)} (h : (Instr.findAsking kt k m).run P w = .ok r w) : (Instr.findKey kt k m).run P w = .ok r w := by
  unfold Instr.findKey
  simp only [Sem.run_bind, run_underlying ud, Result.andThen_ok]
  split
  · rename_i q hq
    have := findNow_run (P := P) ud w m 0 hq
    rw [h] at this
    cases this; rfl
  · exact h
theorem findAsking_ok (hP : POk P c) {ε : Env} {kt : Nat} {k : SV} {k' : Value} (hk : den ε k = some k') (w : World) : ∀ {es : List (SV × SV × Nat)} {m : List MapEntry} {r : Option SV} (i : Nat), EntOk ε es m → findK c kt k es = some r →
    ∃ r', (Instr.findAsking kt k' m i).run P w = .ok r' w ∧ (r = none → r' = none) ∧ (∀ v, r = some v → ∃ j y, r' = some (j, y) ∧ den ε v = some y)
  | [], _, r, i, .nil, h => by cases h; exact ⟨none, rfl, fun _ => rfl, fun _ e => by cases e⟩
  | (k1, v1, b1) :: es, _, r, i, .cons (x := x) (y := y) (m := m) h1 h2 h3, h => by
    obtain ⟨b, hb, h⟩ := Option.bind_eq_some_iff.1 (show (eqT c 64 false kt k k1).bind _ = some r from h)
    have he := eqT_ok hP 64 false kt k k1 b hb hk h1 Op.maxDepth (by decide) w
    unfold Instr.findAsking
    have he' : (Op.equal kt k' x).run P w = .ok b w := he
    simp only [Sem.run_bind, he', Result.andThen_ok]
    cases b with
    | true =>
      have : some (some v1) = some r := h
      cases this
      exact ⟨some (i, y), rfl, fun e => (by cases e), fun v e => by cases e; exact ⟨i, y, rfl, h2⟩⟩
    | false => exact findAsking_ok hP hk w (i + 1) h3 h
def lookR (ok : Bool) (z : SV) (r : Option SV) : LR := match r with
  | some v => .v (bif ok then .tup [v, .bool true] else v)
  | none => .v (bif ok then .tup [z, .bool false] else z)
theorem lok_lookup (hP : POk P c) {t : Nat} {x q : Operand} {ok : Bool} {k : Bool} {g : LF} (h : compL c (.lookup t x q ok) = some (k, g)) : LOk P c (.lookup t x q ok) g := by
  unfold compL at h; dsimp only at h
  obtain ⟨X, hX, h1⟩ := Option.bind_eq_some_iff.1 h
  obtain ⟨Q, hQ, h2⟩ := Option.bind_eq_some_iff.1 h1
  obtain ⟨d, hd, h3⟩ := Option.bind_eq_some_iff.1 h2
  clear h h1 h2
  have ud := und_ok hP hd
  cases d <;> try cases h3
  rename_i kt et
  obtain ⟨z, hz, h4⟩ := Option.bind_eq_some_iff.1 h3
  obtain ⟨rfl, rfl⟩ := some_pair h4
  clear h3 h4
  refine lok_of fun B ε h nn f a w o ho hst hf hg => ⟨Instr.lookup t (a.eval x) (a.eval q) ok, by simp only [execOp, ho], .obd fun v hv => .obd fun u hu => .bif (fun hko => ?_) fun _ => trivial⟩
  obtain ⟨p, hp, e1⟩ := opd_ok hf hg hX hv
  obtain ⟨k', hk', e2⟩ := opd_ok hf hg hQ hu
  have hkd : ∃ kd, P.underlying kt = some kd := by
    unfold keyOk at hko
    split at hko
    · cases hko
    · rename_i d hd; exact ⟨d, und_ok hP hd⟩
  obtain ⟨kd, ukd⟩ := hkd
  refine .obd fun r hr => ?_
  have main : ∀ (m : Array MapEntry) (es : List (SV × SV × Nat)), (match v with
        | .nilmap => m = #[]
        | .map n => ∃ x clock, ε n = some x ∧ p = .map (some x.b) ∧ w.heap[x.b]? = some (.map m clock)
        | _ => False) → EntOk ε es m.toList → findK c kt u es = some r → VOk P ε w (Instr.lookup t p k' ok) (lookR ok z r) := by
    intro m es hm hent hfk
    have hck := checkKey_ok hP hko hk' m.isEmpty 9998 w
    obtain ⟨r', hr', n1, n2⟩ := findAsking_ok hP hk' w 0 hent hfk
    have hfr := findKey_run (P := P) ukd hr'
    have run : (Instr.lookup t p k' ok).run P w = (match r' with
        | some (_, v) => (pure (if ok then .tuple #[v, .bool true] else v) : Sem Value)
        | none => (do let v ← zeroValue et; pure (if ok then .tuple #[v, .bool false] else v))).run P w := by
      unfold Instr.lookup
      simp only [Sem.run_bind, run_underlying ud, Result.andThen_ok]
      cases v with
      | nilmap =>
        cases hp
        dsimp only at hm; subst hm
        simp only [Sem.run_bind, Sem.run_pure, Result.andThen_ok, hck, hfr]
        cases r' with
        | none => simp
        | some q => rfl
      | map n =>
        obtain ⟨x, clock, hx, rfl, hw⟩ := hm
        have hro := run_getObj (P := P) hw (by simp)
        simp only [Sem.run_bind, hro, Sem.run_pure, Result.andThen_ok, hck, hfr]
        cases r' with
        | none => simp
        | some q => rfl
      | _ => exact hm.elim
    cases r with
    | none =>
      rw [n1 rfl] at run
      obtain ⟨zv, hzr, hzd⟩ := run_zero hP hz w
      cases ok with
      | true => exact ⟨_, den_pair (hzd ε) false, by rw [run]; simp [hzr]⟩
      | false => exact ⟨_, hzd ε, by rw [run]; simp [hzr]⟩
    | some vv =>
      obtain ⟨j, y, rfl, hy⟩ := n2 vv rfl
      cases ok with
      | true => exact ⟨_, den_pair hy true, by rw [run]; rfl⟩
      | false => exact ⟨_, hy, by rw [run]; rfl⟩
  rw [e1, e2]
  cases v with
  | nilmap =>
    have hr2 : some none = some r := hr
    cases hr2
    exact main #[] [] rfl .nil rfl
  | map n =>
    obtain ⟨ob, hob, hr2⟩ := Option.bind_eq_some_iff.1 (show (Tr.get n h).bind _ = some r from hr)
    obtain ⟨blk, hb, rfl⟩ := den_map hp
    cases ob with
    | map es clock =>
      obtain ⟨m, hm, hent⟩ := mapObj hst hob hb
      exact main m es ⟨blk, clock, hb, rfl, hm⟩ hent hr2
    | _ => cases hr2
  | _ => cases hr
end
end Go.Proofs.YtohikcchbjchkaaGreatDoor.Sx

/- Light operations: the language's own functions; all of them together. -/
namespace Go.Proofs.YtohikcchbjchkaaGreatDoor.Sx
open Go
section
variable {P : Program} {c : Cx}
theorem nth_arr {α : Type} {a : Array α} {i : Nat} {x : α} (h : nth a.toList i = some x) : a[i]? = some x := by
  rw [nth_get] at h; simpa using h
theorem lok_call (hP : POk P c) {cl : Call} {k : Bool} {g : LF} (h : compL c (.call cl) = some (k, g)) : LOk P c (.call cl) g := by
  obtain ⟨callee, args, ats⟩ := cl
  unfold compL at h; dsimp only at h
  cases callee with
  | value _ => cases h
  | invoke _ _ => cases h
  | builtin b =>
    obtain ⟨l, hl, h1⟩ := Option.bind_eq_some_iff.1 h
    clear h
    cases b with
    | len =>
      cases l with
      | nil => cases h1
      | cons X l =>
        cases l with
        | cons _ _ => cases h1
        | nil =>
          obtain ⟨t, ht, h2⟩ := Option.bind_eq_some_iff.1 h1
          obtain ⟨d, hd, h3⟩ := Option.bind_eq_some_iff.1 h2
          clear h1 h2
          have ud := und_ok hP hd
          have hat := nth_arr ht
          cases d with
          | string =>
            obtain ⟨rfl, rfl⟩ := some_pair h3
            refine lok_of fun B ε h nn f a w o ho hst hf hg => ⟨Builtin.len_ ats o.type (args.map a.eval), by obtain ⟨cs, e⟩ := builtin_exec ho; rw [e]; rfl, .obd fun v hv => ?_⟩
            obtain ⟨y, hy, e⟩ := args_of hf hg hl hv
            rw [e]
            cases v <;> try trivial
            cases hy
            rename_i s
            have hsz : (⟨s.toArray⟩ : ByteArray).size = s.length := by show s.toArray.size = _; simp
            refine ⟨_, rfl, ?_⟩
            simp [Builtin.len_, hat, run_underlying ud, goInt, hsz]
          | slice el =>
            obtain ⟨rfl, rfl⟩ := some_pair h3
            refine lok_of fun B ε h nn f a w o ho hst hf hg => ⟨Builtin.len_ ats o.type (args.map a.eval), by obtain ⟨cs, e⟩ := builtin_exec ho; rw [e]; rfl, .obd fun v hv => ?_⟩
            obtain ⟨y, hy, e⟩ := args_of hf hg hl hv
            rw [e]
            cases v <;> try trivial
            · obtain ⟨_, _, _, rfl, _⟩ := den_sl hy
              exact ⟨_, rfl, by simp [Builtin.len_, hat, run_underlying ud, goInt]⟩
            · cases hy
              exact ⟨_, rfl, by simp [Builtin.len_, hat, run_underlying ud, goInt]⟩
            · obtain ⟨_, _, rfl⟩ := den_slt hy
              exact ⟨_, rfl, by simp [Builtin.len_, hat, run_underlying ud, goInt]⟩
          | map kt et =>
            obtain ⟨rfl, rfl⟩ := some_pair h3
            refine lok_of fun B ε h nn f a w o ho hst hf hg => ⟨Builtin.len_ ats o.type (args.map a.eval), by obtain ⟨cs, e⟩ := builtin_exec ho; rw [e]; rfl, .obd fun v hv => ?_⟩
            obtain ⟨y, hy, e⟩ := args_of hf hg hl hv
            rw [e]
            cases v <;> try trivial
            · obtain ⟨blk, hb, rfl⟩ := den_map hy
              refine .obd fun ob hob => ?_
              cases ob <;> try trivial
              rename_i es clk
              obtain ⟨m, hm, hent⟩ := mapObj hst hob hb
              have hro := run_getObj (P := P) hm (by simp)
              have hlen : ∀ {es : List (SV × SV × Nat)} {m : List MapEntry}, EntOk ε es m → m.length = es.length := by
                intro es m h
                induction h with
                | nil => rfl
                | cons _ _ _ ih => simp [ih]
              have := hlen hent
              refine ⟨_, rfl, ?_⟩
              simp [Builtin.len_, hat, run_underlying ud, goInt, hro]
              have h2 : m.size = es.length := by simpa using this
              omega
            · cases hy
              exact ⟨_, rfl, by simp [Builtin.len_, hat, run_underlying ud, goInt]⟩
          | array n el =>
            obtain ⟨rfl, rfl⟩ := some_pair h3
            refine lok_of fun B ε h nn f a w o ho hst hf hg => ⟨Builtin.len_ ats o.type (args.map a.eval), by obtain ⟨cs, e⟩ := builtin_exec ho; rw [e]; rfl, ?_⟩
            have : ∃ y, (args.map a.eval)[0]? = some y := by
              obtain ⟨ar⟩ := args
              cases ar with
              | nil => cases hl
              | cons A _ => exact ⟨a.eval A, by simp⟩
            obtain ⟨y, hy⟩ := this
            exact ⟨_, rfl, by simp [Builtin.len_, hat, hy, run_underlying ud, goInt]⟩
          | pointer el =>
            obtain ⟨d2, hd2, h4⟩ := Option.bind_eq_some_iff.1 h3
            have ud2 := und_ok hP hd2
            cases d2 <;> try cases h4
            refine lok_of fun B ε h nn f a w o ho hst hf hg => ⟨Builtin.len_ ats o.type (args.map a.eval), by obtain ⟨cs, e⟩ := builtin_exec ho; rw [e]; rfl, ?_⟩
            have : ∃ y, (args.map a.eval)[0]? = some y := by
              obtain ⟨ar⟩ := args
              cases ar with
              | nil => cases hl
              | cons A _ => exact ⟨a.eval A, by simp⟩
            obtain ⟨y, hy⟩ := this
            exact ⟨_, rfl, by simp [Builtin.len_, hat, hy, run_underlying ud, run_underlying ud2, goInt]⟩
          | _ => cases h3
    | cap =>
      cases l with
      | nil => cases h1
      | cons X l =>
        cases l with
        | cons _ _ => cases h1
        | nil =>
          obtain ⟨t, ht, h2⟩ := Option.bind_eq_some_iff.1 h1
          obtain ⟨d, hd, h3⟩ := Option.bind_eq_some_iff.1 h2
          clear h1 h2
          have ud := und_ok hP hd
          have hat := nth_arr ht
          cases d with
          | slice el =>
            obtain ⟨rfl, rfl⟩ := some_pair h3
            refine lok_of fun B ε h nn f a w o ho hst hf hg => ⟨Builtin.cap_ ats o.type (args.map a.eval), by obtain ⟨cs, e⟩ := builtin_exec ho; rw [e]; rfl, .obd fun v hv => ?_⟩
            obtain ⟨y, hy, e⟩ := args_of hf hg hl hv
            rw [e]
            cases v <;> try trivial
            · rename_i cp
              cases cp <;> try trivial
              obtain ⟨_, _, _, rfl, hex, _⟩ := den_sl hy
              have := hex _ rfl; subst this
              exact ⟨_, rfl, by simp [Builtin.cap_, hat, run_underlying ud, goInt]⟩
            · cases hy
              exact ⟨_, rfl, by simp [Builtin.cap_, hat, run_underlying ud, goInt]⟩
          | _ => cases h3
    | min =>
      obtain ⟨rfl, rfl⟩ := some_pair h1
      refine lok_of fun B ε h nn f a w o ho hst hf hg => ⟨Builtin.min_ ats o.type (args.map a.eval), by obtain ⟨cs, e⟩ := builtin_exec ho; rw [e]; rfl, .obd fun vs hvs => ?_⟩
      have hd := opds_ok hf hg hl hvs
      cases vs with
      | nil => trivial
      | cons v vs =>
        refine .lv fun r hr => ?_
        obtain ⟨y, ys, hy, hys, e⟩ := denL_cons hd
        obtain ⟨z, hz, hrun⟩ := mm_ok true (P := P) hy hys hr w
        refine ⟨z, hz, ?_⟩
        unfold Builtin.min_
        rw [show (args.map a.eval).toList = y :: ys from by rw [← e]; simp]
        exact hrun
    | max =>
      obtain ⟨rfl, rfl⟩ := some_pair h1
      refine lok_of fun B ε h nn f a w o ho hst hf hg => ⟨Builtin.max_ ats o.type (args.map a.eval), by obtain ⟨cs, e⟩ := builtin_exec ho; rw [e]; rfl, .obd fun vs hvs => ?_⟩
      have hd := opds_ok hf hg hl hvs
      cases vs with
      | nil => trivial
      | cons v vs =>
        refine .lv fun r hr => ?_
        obtain ⟨y, ys, hy, hys, e⟩ := denL_cons hd
        obtain ⟨z, hz, hrun⟩ := mm_ok false (P := P) hy hys hr w
        refine ⟨z, hz, ?_⟩
        unfold Builtin.max_
        rw [show (args.map a.eval).toList = y :: ys from by rw [← e]; simp]
        exact hrun
    | unsafeSliceData =>
      cases l with
      | nil => cases h1
      | cons X l =>
        cases l with
        | cons _ _ => cases h1
        | nil =>
          obtain ⟨rfl, rfl⟩ := some_pair h1
          refine lok_of fun B ε h nn f a w o ho hst hf hg => ⟨Builtin.unsafeSliceData_ ats o.type (args.map a.eval), by obtain ⟨cs, e⟩ := builtin_exec ho; rw [e]; rfl, .obd fun v hv => ?_⟩
          obtain ⟨y, hy, e⟩ := args_of hf hg hl hv
          rw [e]
          cases v <;> try trivial
          · rename_i n oo len cp
            obtain ⟨x, kk, hx, rfl, hex, hrel⟩ := den_sl hy
            have run : kk ≠ 0 → (Builtin.unsafeSliceData_ ats o.type #[.slice (some ⟨x.b, x.q + oo, none⟩) len kk]).run P w = .ok (.pointer (some ⟨x.b, x.q + oo, none⟩)) w := by
              intro h0
              show (if kk ≠ 0 then pure (.pointer (some ⟨x.b, x.q + oo, none⟩)) else _ : Sem Value).run P w = _
              rw [if_pos h0]; rfl
            cases cp with
            | ex c' =>
              have := hex _ rfl; subst this
              refine .bif (fun _ => trivial) fun h0 => ?_
              exact ⟨_, by unfold den; rw [hx]; rfl, run fun e => by rw [e] at h0; cases h0⟩
            | rel c' =>
              obtain ⟨h1, h2⟩ := hrel _ rfl
              refine .bif (fun _ => trivial) fun h0 => ?_
              have hl0 : len ≠ 0 := fun e => by rw [e] at h0; cases h0
              exact ⟨_, by unfold den; rw [hx]; rfl, run (by omega)⟩
          · cases hy
            exact ⟨_, rfl, rfl⟩
    | _ => cases h1
/-- Every light operation. -/
theorem compL_ok (hP : POk P c) {op : Op} {k : Bool} {g : LF} (h : compL c op = some (k, g)) : LOk P c op g := by
  cases op with
  | move _ => exact lok_move hP h
  | assign _ => exact lok_assign hP h
  | pick _ _ _ => exact lok_pick hP h
  | alloc _ => exact lok_alloc hP h
  | box _ _ => exact lok_box hP h
  | build _ _ => exact lok_build hP h
  | buildSlice _ _ _ => exact lok_buildSlice hP h
  | load _ _ => exact lok_load hP h
  | nilCheck _ => exact lok_nilc hP h
  | binOp _ _ _ _ _ => exact lok_binOp hP h
  | unOp _ _ _ => exact lok_unOp hP h
  | convert _ _ _ => exact lok_convert hP h
  | makeInterface _ _ => exact lok_mki hP h
  | makeFunc _ _ _ => exact lok_mkf hP h
  | makeMap _ _ => exact lok_makeMap hP h
  | makeSlice _ _ _ => exact lok_makeSlice hP h
  | slice _ _ _ _ _ => exact lok_slice hP h
  | fieldAddr _ _ _ => exact lok_fieldAddr hP h
  | field _ _ _ => exact lok_field hP h
  | indexAddr _ _ _ => exact lok_indexAddr hP h
  | index _ _ _ => exact lok_index hP h
  | lookup _ _ _ _ => exact lok_lookup hP h
  | range _ _ => exact lok_range hP h
  | entry _ => exact lok_entry hP h
  | typeAssert _ _ _ _ => exact lok_typeAssert hP h
  | extract _ _ => exact lok_extract hP h
  | call _ => exact lok_call hP h
  | _ => cases h
end
end Go.Proofs.YtohikcchbjchkaaGreatDoor.Sx

/- Values held against one another. -/
namespace Go.Proofs.YtohikcchbjchkaaGreatDoor.Sx
open Go
theorem beqI_eq' {a b : Int} (h : beqI a b = true) : a = b := by
  cases a with
  | ofNat x =>
    cases b with
    | ofNat y => rw [Nat.eq_of_beq_eq_true h]
    | negSucc y => cases h
  | negSucc x =>
    cases b with
    | ofNat y => cases h
    | negSucc y => rw [Nat.eq_of_beq_eq_true h]
theorem beqB_eq' : ∀ {a b : List UInt8}, beqB a b = true → a = b
  | [], [], _ => rfl
  | [], _ :: _, h => by cases h
  | _ :: _, [], h => by cases h
  | x :: a, y :: b, h => by
    have h' : (bif Nat.beq x.toNat y.toNat then beqB a b else false) = true := h
    cases hx : Nat.beq x.toNat y.toNat with
    | false => rw [hx] at h'; cases h'
    | true =>
      rw [hx] at h'
      rw [beqB_eq' h', UInt8.toNat_inj.1 (Nat.eq_of_beq_eq_true hx)]
theorem plEq_eq {a b : SV} (h : plEq a b = true) : a = b := by
  cases a <;> cases b <;> first | rfl | (cases h; done) | skip
  · rename_i x y
    cases x <;> cases y <;> first | rfl | cases h
  · rename_i k x k' y
    have h' : (bif beqK k k' then beqI x y else false) = true := h
    cases hk : beqK k k' with
    | false => rw [hk] at h'; cases h'
    | true =>
      rw [hk] at h'
      rw [beqK_eq hk, beqI_eq' h']
  · rename_i x y
    rw [beqB_eq' (show beqB x y = true from h)]
theorem plEqs_eq : ∀ {a b : List SV}, plEqs a b = true → a = b
  | [], [], _ => rfl
  | [], _ :: _, h => by cases h
  | _ :: _, [], h => by cases h
  | x :: a, y :: b, h => by
    have h' : (bif plEq x y then plEqs a b else false) = true := h
    cases hx : plEq x y with
    | false => rw [hx] at h'; cases h'
    | true =>
      rw [hx] at h'
      rw [plEqs_eq h', plEq_eq hx]
theorem memoF_mem : ∀ {args : List SV} {l : List (List SV × SV)} {v : SV}, memoF args l = some v → (args, v) ∈ l
  | args, [], v, h => by cases h
  | args, (as, u) :: l, v, h => by
    have h' : (bif plEqs as args then some u else memoF args l) = some v := h
    cases hx : plEqs as args with
    | false => rw [hx] at h'; exact List.mem_cons_of_mem _ (memoF_mem h')
    | true =>
      rw [hx] at h'; cases h'
      rw [plEqs_eq hx]; exact List.mem_cons_self
/-! ### Values held against one another -/
theorem band2 {a b : Bool} (h : (bif a then b else false) = true) : a = true ∧ b = true := by cases a <;> simp_all
mutual
theorem svEq_eq : ∀ (g : Nat) (a b : SV), svEq g a b = true → a = b
  | 0, _, _, h => by cases h
  | g + 1, a, b, h => by
    cases a with
    | agg l =>
      cases b with
      | agg m => rw [svEqs_eq g l m h]
      | _ => cases h
    | tup l =>
      cases b with
      | tup m => rw [svEqs_eq g l m h]
      | _ => cases h
    | fn k l m =>
      cases b with
      | fn k' l' m' =>
        obtain ⟨h1, h2⟩ := band2 h
        obtain ⟨h2, h3⟩ := band2 h2
        rw [Nat.eq_of_beq_eq_true h1, svEqs_eq g l l' h2, svEqs_eq g m m' h3]
      | _ => cases h
    | iface t v =>
      cases b with
      | iface u w =>
        obtain ⟨h1, h2⟩ := band2 h
        rw [Nat.eq_of_beq_eq_true h1, svEq_eq g v w h2]
      | _ => cases h
    | ptr n o =>
      cases b with
      | ptr m q =>
        obtain ⟨h1, h2⟩ := band2 h
        rw [paEq_iff.1 h1, Nat.eq_of_beq_eq_true h2]
      | _ => cases h
    | sl n o l q =>
      cases b with
      | sl m o' l' q' =>
        obtain ⟨h1, h2⟩ := band2 h
        obtain ⟨h2, h3⟩ := band2 h2
        obtain ⟨h3, h4⟩ := band2 h3
        rw [paEq_iff.1 h1, Nat.eq_of_beq_eq_true h2, Nat.eq_of_beq_eq_true h3]
        cases q with
        | ex c =>
          cases q' with
          | ex d => rw [Nat.eq_of_beq_eq_true h4]
          | rel d => cases h4
        | rel c =>
          cases q' with
          | ex d => cases h4
          | rel d => rw [Nat.eq_of_beq_eq_true h4]
      | _ => cases h
    | slt n o o' q =>
      cases b with
      | slt m p p' r =>
        obtain ⟨h1, h2⟩ := band2 h
        obtain ⟨h2, h3⟩ := band2 h2
        obtain ⟨h3, h4⟩ := band2 h3
        rw [paEq_iff.1 h1, Nat.eq_of_beq_eq_true h2, Nat.eq_of_beq_eq_true h3, Nat.eq_of_beq_eq_true h4]
      | _ => cases h
    | map n =>
      cases b with
      | map m => rw [paEq_iff.1 (show paEq n m = true from h)]
      | _ => cases h
    | yld n =>
      cases b with
      | yld m => rw [paEq_iff.1 (show paEq n m = true from h)]
      | _ => cases h
    | nilmap =>
      cases b with
      | nilmap => rfl
      | _ => cases h
    | nilfn =>
      cases b with
      | nilfn => rfl
      | _ => cases h
    | bool x => exact plEq_eq h
    | int k x => exact plEq_eq h
    | str x => exact plEq_eq h
    | nilp => exact plEq_eq h
    | nilsl => exact plEq_eq h
    | nilif => exact plEq_eq h
theorem svEqs_eq : ∀ (g : Nat) (a b : List SV), svEqs g a b = true → a = b
  | 0, _, _, h => by cases h
  | g + 1, [], b, h => by
    cases b with
    | nil => rfl
    | cons _ _ => cases h
  | g + 1, x :: a, b, h => by
    cases b with
    | nil => cases h
    | cons y b =>
      obtain ⟨h1, h2⟩ := band2 h
      rw [svEq_eq g x y h1, svEqs_eq g a b h2]
end
end Go.Proofs.YtohikcchbjchkaaGreatDoor.Sx

/- The operations that change memory. -/
namespace Go.Proofs.YtohikcchbjchkaaGreatDoor.Sx
open Go
section
variable {P : Program} {c : Cx}
/-! ### One object turned -/
theorem sat_upd {B : Nat} {ε : Env} {h : Tr SO} {w w' : World} (hs : Sat c B ε h w) {n : Pa} {o o' : SO} {x : Blk} (hn : Tr.get n h = some o) (ho : ownP c n = true) (hx : ε n = some x) (hsz : w'.heap.size = w.heap.size) (hk : ∀ b, b ≠ x.b → w'.heap[b]? = w.heap[b]?) (hob : ObjOk ε w' x o') (nx : Nat) (hio : Io w w' := by exact ⟨rfl, rfl⟩) :
    Sat c B ε (Tr.set (some o') n h) w' ∧ Goes c ε h nx w ε (Tr.set (some o') n h) nx w' := by
  have hdom : ∀ m q, Tr.get m (Tr.set (some o') n h) = some q → ∃ q', Tr.get m h = some q' := by
    intro m q hq
    by_cases e : m = n
    · subst e; exact ⟨o, hn⟩
    · rw [Tr.get_set_ne _ _ _ _ e] at hq; exact ⟨q, hq⟩
  refine ⟨⟨?_, ?_⟩, ⟨Nat.le_refl _, fun _ _ => rfl, hio, by rw [hsz]; exact Nat.le_refl _, ?_, ?_⟩⟩
  · intro m q hq
    by_cases e : m = n
    · subst e
      rw [Tr.get_set_same] at hq; cases hq
      obtain ⟨x', hx', _, hB⟩ := hs.obj m o hn
      rw [hx] at hx'; cases hx'
      exact ⟨x, hx, hob, hB⟩
    · rw [Tr.get_set_ne _ _ _ _ e] at hq
      obtain ⟨y, hy, hoy, hB⟩ := hs.obj m q hq
      have hne : y.b ≠ x.b := fun e2 => hs.sep n m o q x y hn hq (Ne.symm e) ho hx hy e2.symm
      exact ⟨y, hy, hoy.keep (Sub.refl ε) (hk y.b hne), hB⟩
  · intro m1 m2 q1 q2 y1 y2 h1 h2 hne ho1 hy1 hy2
    obtain ⟨p1, hp1⟩ := hdom m1 q1 h1
    obtain ⟨p2, hp2⟩ := hdom m2 q2 h2
    exact hs.sep m1 m2 p1 p2 y1 y2 hp1 hp2 hne ho1 hy1 hy2
  · intro b hb hno
    refine hk b fun e => hno ⟨n, o, x, hn, ho, hx, e.symm⟩
  · intro m q h1
    obtain ⟨p, hp⟩ := hdom m q h1
    exact .inl ⟨p, hp, rfl⟩
/-- One object more. -/
theorem sat_new {B : Nat} {ε : Env} {h : Tr SO} {w w' : World} (hs : Sat c B ε h w) (hB : B ≤ w.heap.size) {nx : Nat} (hf : ε (pa nx) = none) (hp : Push w w') {K : Nat} {o : SO} (hob : ObjOk (put ε (pa nx) ⟨w.heap.size, 0, K⟩) w' ⟨w.heap.size, 0, K⟩ o) :
    Sat c B (put ε (pa nx) ⟨w.heap.size, 0, K⟩) (Tr.set (some o) (pa nx) h) w' ∧ Goes c ε h nx w (put ε (pa nx) ⟨w.heap.size, 0, K⟩) (Tr.set (some o) (pa nx) h) (nx + 1) w' := by
  have hsub := put_sub ⟨w.heap.size, 0, K⟩ hf
  have hlt : ∀ m q y, Tr.get m h = some q → ε m = some y → y.b < w.heap.size := by
    intro m q y hm hy
    obtain ⟨y', hy', hoy, _⟩ := hs.obj m q hm
    rw [hy] at hy'; cases hy'
    exact hoy.lt
  have hnh : Tr.get (pa nx) h = none := by
    cases e : Tr.get (pa nx) h with
    | none => rfl
    | some q =>
      obtain ⟨y, hy, _⟩ := hs.obj _ q e
      rw [hf] at hy; cases hy
  refine ⟨⟨?_, ?_⟩, ⟨Nat.le_succ _, ?_, hp.io, by rw [hp.size]; exact Nat.le_succ _, fun b hb _ => hp.old b hb, ?_⟩⟩
  · intro m q hq
    by_cases e : m = pa nx
    · subst e
      rw [Tr.get_set_same] at hq; cases hq
      exact ⟨_, put_same _ _ _, hob, fun _ => hB⟩
    · rw [Tr.get_set_ne _ _ _ _ e] at hq
      obtain ⟨y, hy, hoy, hB'⟩ := hs.obj m q hq
      exact ⟨y, hsub _ _ hy, hoy.keep hsub (hp.old _ hoy.lt), hB'⟩
  · intro m1 m2 q1 q2 y1 y2 h1 h2 hne ho1 hy1 hy2
    by_cases e1 : m1 = pa nx
    · subst e1
      have e2 : m2 ≠ pa nx := Ne.symm hne
      rw [Tr.get_set_ne _ _ _ _ e2] at h2
      rw [put_same] at hy1; cases hy1
      rw [put_ne _ _ e2] at hy2
      have := hlt m2 q2 y2 h2 hy2
      dsimp only; omega
    · rw [Tr.get_set_ne _ _ _ _ e1] at h1
      rw [put_ne _ _ e1] at hy1
      by_cases e2 : m2 = pa nx
      · subst e2
        rw [put_same] at hy2; cases hy2
        have := hlt m1 q1 y1 h1 hy1
        dsimp only; omega
      · rw [Tr.get_set_ne _ _ _ _ e2] at h2
        rw [put_ne _ _ e2] at hy2
        exact hs.sep m1 m2 q1 q2 y1 y2 h1 h2 hne ho1 hy1 hy2
  · intro m hm
    exact put_ne _ _ (hm nx (Nat.le_refl _) (Nat.lt_succ_self _))
  · intro m q h1
    by_cases e : m = pa nx
    · subst e
      exact .inr ⟨nx, _, Nat.le_refl _, Nat.lt_succ_self _, rfl, put_same _ _ _, .inr (Nat.le_refl _)⟩
    · rw [Tr.get_set_ne _ _ _ _ e] at h1
      exact .inl ⟨q, h1, put_ne _ _ e⟩
/-- An object is not known any more. -/
theorem sat_del {B : Nat} {ε : Env} {h : Tr SO} {w : World} (hs : Sat c B ε h w) (n : Pa) (nx : Nat) : Sat c B ε (Tr.set none n h) w ∧ Goes c ε h nx w ε (Tr.set none n h) nx w := by
  have hd : ∀ m q, Tr.get m (Tr.set none n h) = some q → m ≠ n ∧ Tr.get m h = some q := by
    intro m q hq
    by_cases e : m = n
    · subst e; rw [Tr.get_set_same] at hq; cases hq
    · rw [Tr.get_set_ne _ _ _ _ e] at hq; exact ⟨e, hq⟩
  refine ⟨⟨fun m q hq => hs.obj m q (hd m q hq).2, fun m1 m2 q1 q2 y1 y2 h1 h2 => hs.sep m1 m2 q1 q2 y1 y2 (hd _ _ h1).2 (hd _ _ h2).2⟩, ⟨Nat.le_refl _, fun _ _ => rfl, Io.refl _, Nat.le_refl _, fun _ _ _ => rfl, ?_⟩⟩
  intro m q h1
  exact .inl ⟨q, (hd _ _ h1).2, rfl⟩

/-! ### Cells written -/
theorem oneC_den {ε : Env} {v : SV} {y : Value} (h : oneC v = true) (hd : den ε v = some y) : y.oneCell' = true := by
  cases v with
  | agg _ => cases h
  | tup _ => cases h
  | bool _ => cases hd; rfl
  | int _ _ => cases hd; rfl
  | str _ => cases hd; rfl
  | nilp => cases hd; rfl
  | nilsl => cases hd; rfl
  | nilmap => cases hd; rfl
  | nilfn => cases hd; rfl
  | nilif => cases hd; rfl
  | ptr _ _ => obtain ⟨_, _, rfl⟩ := den_ptr hd; rfl
  | sl _ _ _ _ => obtain ⟨_, _, _, rfl, _⟩ := den_sl hd; rfl
  | slt _ _ _ _ => obtain ⟨_, _, rfl⟩ := den_slt hd; rfl
  | map _ => obtain ⟨_, _, rfl⟩ := den_map hd; rfl
  | iface _ _ => obtain ⟨_, _, rfl⟩ := den_iface hd; rfl
  | yld _ =>
    unfold den at hd
    obtain ⟨z, _, hd⟩ := Option.bind_eq_some_iff.1 hd
    cases hd; rfl
  | fn _ _ _ =>
    unfold den at hd
    obtain ⟨z, _, hd⟩ := Option.bind_eq_some_iff.1 hd
    obtain ⟨z', _, hd⟩ := Option.bind_eq_some_iff.1 hd
    cases hd; rfl
theorem allOne_den {ε : Env} : ∀ {l : List SV} {ys : List Value}, allOne l = true → denL ε l = some ys → ∀ y ∈ ys, y.oneCell' = true
  | [], ys, _, hd, y, hy => by cases hd; cases hy
  | v :: l, ys, h, hd, y, hy => by
    obtain ⟨p, q, hp, hq, rfl⟩ := denL_cons hd
    have h' : (bif oneC v then allOne l else false) = true := h
    cases ho : oneC v with
    | false => rw [ho] at h'; cases h'
    | true =>
      rw [ho] at h'
      cases hy with
      | head => exact oneC_den ho hp
      | tail _ hy => exact allOne_den h' hq y hy
theorem storeCells_run {b off : Nat} {e : TypeId} {fr : Nat × Nat} : ∀ (ys : List Value) (i : Nat) (w : World) (cs : Array Value), w.heap[b]? = some (.cells cs e fr) → off + i + ys.length ≤ cs.size → (∀ j, off + i ≤ j → j < off + i + ys.length → ¬ (fr.1 ≤ j ∧ j < fr.2)) → (∀ y ∈ ys, y.oneCell' = true) →
    ∃ w' cs', (storeCells ⟨b, off, none⟩ ys i).run P w = .ok () w' ∧ w'.heap[b]? = some (.cells cs' e fr) ∧ cs'.size = cs.size ∧ (∀ j, cs'[j]? = if off + i ≤ j ∧ j < off + i + ys.length then ys[j - (off + i)]? else cs[j]?) ∧ w'.heap.size = w.heap.size ∧ (∀ b', b' ≠ b → w'.heap[b']? = w.heap[b']?) ∧ Io w w'
  | [], i, w, cs, hw, _, _, _ => ⟨w, cs, rfl, hw, rfl, fun j => by rw [if_neg (by rintro ⟨h1, h2⟩; simp only [List.length_nil] at h2; omega)], rfl, fun _ _ => rfl, Io.refl _⟩
  | y :: ys, i, w, cs, hw, hle, hfr, hone => by
    have hle' : off + i + (ys.length + 1) ≤ cs.size := by simpa using hle
    have hi : off + i < cs.size := by omega
    have hcell : w.cell? ⟨b, off + i, none⟩ = some cs[off + i] := by simp [World.cell?, hw, hi]
    have hnf : w.frozen? ⟨b, off + i, none⟩ = false := by
      have hn := hfr (off + i) (Nat.le_refl _) (by simp only [List.length_cons]; omega)
      simp only [World.frozen?, hw]
      cases hd : (decide (fr.1 ≤ off + i) && decide (off + i < fr.2)) with
      | false => rfl
      | true => exact absurd (by simpa using hd) hn
    have hadd : (⟨b, off, none⟩ : Addr).add i = ⟨b, off + i, none⟩ := by
      have := add_off b 0 off i
      simpa using this
    have hst : (store (⟨b, off + i, none⟩ : Addr) y).run P w = .ok () (w.setCell ⟨b, off + i, none⟩ y) := by
      rw [run_store P w _ y .plain (hone y List.mem_cons_self), hcell]
      simp [hnf]
    have hw1 : (w.setCell ⟨b, off + i, none⟩ y).heap[b]? = some (.cells (cs.setIfInBounds (off + i) y) e fr) := by
      obtain ⟨hb, hb2⟩ := Array.getElem?_eq_some_iff.1 hw
      simp only [World.setCell]
      rw [Array.getElem?_modify]
      simp [hw]
    have ho1 : ∀ b', b' ≠ b → (w.setCell ⟨b, off + i, none⟩ y).heap[b']? = w.heap[b']? := by
      intro b' hb'
      simp only [World.setCell]
      rw [Array.getElem?_modify]
      simp [Ne.symm hb']
    have hs1 : (w.setCell ⟨b, off + i, none⟩ y).heap.size = w.heap.size := by simp [World.setCell]
    obtain ⟨w', cs', r1, r2, r3, r4, r5, r6, r7⟩ := storeCells_run (off := off) (b := b) (e := e) (fr := fr) ys (i + 1) (w.setCell ⟨b, off + i, none⟩ y) (cs.setIfInBounds (off + i) y) hw1 (by simp; omega) (fun j h1 h2 => hfr j (by omega) (by simp only [List.length_cons]; omega)) (fun z hz => hone z (List.mem_cons_of_mem _ hz))
    refine ⟨w', cs', ?_, r2, by rw [r3]; simp, ?_, by rw [r5, hs1], fun b' hb' => by rw [r6 b' hb', ho1 b' hb'], Io.trans ⟨rfl, rfl⟩ r7⟩
    · unfold storeCells
      simp only [Sem.run_bind, hadd, hst, Result.andThen_ok]
      exact r1
    · intro j
      rw [r4 j]
      by_cases h1 : off + i ≤ j ∧ j < off + i + (y :: ys).length
      · rw [if_pos h1]
        by_cases h2 : j = off + i
        · subst h2
          rw [if_neg (by omega)]
          simp [hi]
        · rw [if_pos (by simp at h1; omega)]
          obtain ⟨d, rfl⟩ : ∃ d, j = off + (i + 1) + d := ⟨j - (off + (i + 1)), by omega⟩
          rw [show off + (i + 1) + d - (off + (i + 1)) = d by omega, show off + (i + 1) + d - (off + i) = d + 1 by omega]
          rfl
      · rw [if_neg h1, if_neg (by simp at h1; omega)]
        rw [Array.getElem?_setIfInBounds]
        split
        · rename_i e; subst e; simp at h1
        · rfl
theorem getC_get {h : Tr SO} {n : Pa} {q : List SV × Nat × Nat × Bool × Option Nat} (hg : getC h n = some q) : Tr.get n h = some (.cells q.1 q.2.1 q.2.2.1 q.2.2.2.1 q.2.2.2.2) := by
  unfold getC at hg
  obtain ⟨o, ho, hg⟩ := Option.bind_eq_some_iff.1 hg
  cases o <;> try cases hg
  exact ho
/-- Cells of one object written over. -/
theorem setV_ok {B : Nat} {ε : Env} {h h' : Tr SO} {w : World} (hs : Sat c B ε h w) {n : Pa} {o : Nat} {new : List SV} {ys : List Value} (hy : denL ε new = some ys) {x : Blk} (hx : ε n = some x) (hv : setV c h n o new = some h') (nx : Nat) :
    ∃ w', (storeCells ⟨x.b, x.q + o, none⟩ ys).run P w = .ok () w' ∧ Sat c B ε h' w' ∧ Goes c ε h nx w ε h' nx w' := by
  unfold setV at hv
  obtain ⟨hone, hv⟩ := bif_t hv
  obtain ⟨hown, hv⟩ := bif_t hv
  obtain ⟨q, hq, hv⟩ := Option.bind_eq_some_iff.1 hv
  obtain ⟨vs, e, s, opn, fz⟩ := q
  obtain ⟨hfree, hv⟩ := bif_t (show (bif free fz o then _ else none) = some h' from hv)
  obtain ⟨vs', hvs', hv⟩ := Option.bind_eq_some_iff.1 hv
  cases hv
  have hg := getC_get hq
  obtain ⟨x', hx', ho, _⟩ := hs.obj n _ hg
  rw [hx] at hx'; cases hx'
  obtain ⟨cs, fr, xs, h1, h2, h3, h4, h5⟩ := CellsOk.ex ho
  obtain ⟨h6, h7⟩ := denL_wr h2 hy hvs'
  have hxl : x.q + xs.length ≤ cs.size := by
    cases opn with
    | true => simp only [if_true] at h4; omega
    | false => simp only [Bool.false_eq_true, if_false] at h4; omega
  have hnf : ∀ j, x.q + o ≤ j → j < cs.size → ¬ (fr.1 ≤ j ∧ j < fr.2) := by
    intro j hj hj2
    cases fz with
    | none => exact h5 j hj2
    | some k =>
      have hk : k ≤ o := Nat.le_of_ble_eq_true hfree
      rcases h5 with h5 | h5 <;> omega
  obtain ⟨w', cs', r1, r2, r3, r4, r5, r6, r7⟩ := storeCells_run (P := P) ys 0 w cs (off := x.q + o) (b := x.b) h1 (by omega) (fun j ha hb => hnf j (by omega) (by omega)) (allOne_den hone hy)
  have hob : ObjOk ε w' x (.cells vs' e s opn fz) := by
    refine ⟨cs', fr, _, r2, h6, ?_, ?_, ?_⟩
    · intro i y hi
      rw [wr_get xs ys o i h7] at hi
      rw [r4 (x.q + i)]
      by_cases hc : o ≤ i ∧ i < o + ys.length
      · rw [if_pos hc] at hi
        rw [if_pos (by omega), show x.q + i - (x.q + o + 0) = i - o by omega]
        exact hi
      · rw [if_neg hc] at hi
        rw [if_neg (by omega)]
        exact h3 i y hi
    · have hl : (xs.take o ++ ys ++ xs.drop (o + ys.length)).length = xs.length := by simp; omega
      rw [hl, r3]; exact h4
    · cases fz with
      | none => intro i hi; exact h5 i (by rw [← r3]; exact hi)
      | some k => exact h5
  obtain ⟨g1, g2⟩ := sat_upd hs hg hown hx r5 r6 hob nx r7
  exact ⟨w', r1, g1, g2⟩
end
end Go.Proofs.YtohikcchbjchkaaGreatDoor.Sx

/- The operations that change memory: stores, appends. -/
namespace Go.Proofs.YtohikcchbjchkaaGreatDoor.Sx
open Go
/-- What is asked of an operation that changes memory. -/
def MOk (P : Program) (c : Cx) (op : Op) (g : MF) : Prop :=
  ∀ (B : Nat) (ε : Env) (h : Tr SO) (nx : Nat) (f : Tr SV) (a : Act) (w : World) (o : Oper) (v : SV) (h' : Tr SO) (nx' : Nat), o.op = op → Sat c B ε h w → B ≤ w.heap.size → FrOk ε f a.tmps → GEnv c ε → g h nx f = some (v, h', nx') → Fresh ε nx nx' →
    ∃ ε' y w' r, (execOp a.eval o).run P w = .ok r w' ∧ (r = .value y ∨ (r = .skip ∧ y = undef)) ∧ den ε' v = some y ∧ Goes c ε h nx w ε' h' nx' w' ∧ Sat c B ε' h' w'
section
variable {P : Program} {c : Cx}
theorem op2_inv {f : Tr SV} {a b : Opd} {k : SV → SV → Option (SV × Tr SO × Nat)} {r : SV × Tr SO × Nat} (h : op2 f a b k = some r) : ∃ v u, opv f a = some v ∧ opv f b = some u ∧ k v u = some r := by
  unfold op2 at h
  obtain ⟨v, hv, h⟩ := Option.bind_eq_some_iff.1 h
  obtain ⟨u, hu, h⟩ := Option.bind_eq_some_iff.1 h
  exact ⟨v, u, hv, hu, h⟩
theorem mok_store (hP : POk P c) {t : Nat} {x y : Operand} {g : MF} (h : compM c (.store t x y) = some g) : MOk P c (.store t x y) g := by
  unfold compM at h; dsimp only at h
  obtain ⟨X, hX, h1⟩ := Option.bind_eq_some_iff.1 h
  obtain ⟨Y, hY, h2⟩ := Option.bind_eq_some_iff.1 h1
  obtain ⟨s, hs, h3⟩ := Option.bind_eq_some_iff.1 h2
  clear h h1 h2
  cases h3
  intro B ε h nx f a w o v h' nx' ho hst hB hf hg hr hfr
  obtain ⟨p, u, hp, hu, hr⟩ := op2_inv hr
  obtain ⟨p', hp', e1⟩ := opd_ok hf hg hX hp
  obtain ⟨u', hu', e2⟩ := opd_ok hf hg hY hu
  cases p with
  | ptr n oo =>
    obtain ⟨hlen, hr⟩ := bif_t (show (bif Nat.beq u.cells.length s then _ else none) = some (v, h', nx') from hr)
    obtain ⟨h2, hh2, hr⟩ := Option.bind_eq_some_iff.1 hr
    cases hr
    obtain ⟨x, hx, rfl⟩ := den_ptr hp'
    have hc := den_cells hu'
    obtain ⟨w', r1, r2, r3⟩ := setV_ok (P := P) hst hc hx hh2 nx
    refine ⟨ε, undef, w', .skip, ?_, .inr ⟨rfl, rfl⟩, rfl, r3, r2⟩
    have hsz : u'.cells.size = s := by
      have := denL_len hc
      rw [← Nat.eq_of_beq_eq_true hlen, ← this]; simp
    simp only [execOp, ho, e1, e2, Instr.storeAt, Instr.sureAddr]
    simp [storeVar, run_size hP hs, hsz, r1]
  | _ => cases hr

/-! ### Appending -/
theorem srcOf_ok {B : Nat} {ε : Env} {h : Tr SO} {w : World} (hs : Sat c B ε h w) {s n : Nat} {x : SV} {x' : Value} (hx : den ε x = some x') {k : Nat} (hk : lenS x = some k) (hn : n ≤ k) {new : List SV} (hnew : srcOf h s n x = some new) :
    ∃ ys, denL ε new = some ys ∧ ys.length = n * s ∧ (Builtin.firstCells s n x').run P w = .ok ys.toArray w ∧ (Builtin.lenOf x').run P w = .ok k w := by
  cases x with
  | nilsl =>
    obtain ⟨h0, e⟩ := bif_t (show (bif Nat.beq n 0 then some [] else none) = some new from hnew)
    cases e; cases hx; cases hk
    have := Nat.eq_of_beq_eq_true h0; subst this
    exact ⟨[], rfl, by simp, rfl, rfl⟩
  | slt _ _ _ _ =>
    obtain ⟨h0, e⟩ := bif_t (show (bif Nat.beq n 0 then some [] else none) = some new from hnew)
    cases e; cases hk
    have := Nat.eq_of_beq_eq_true h0; subst this
    obtain ⟨A, q, rfl⟩ := den_slt hx
    exact ⟨[], rfl, by simp, by simp [Builtin.firstCells, loadCells, loadCellsFrom], rfl⟩
  | sl m o len cp =>
    cases hk
    obtain ⟨q, hq, e⟩ := Option.bind_eq_some_iff.1 (show (getC h m).bind _ = some new from hnew)
    obtain ⟨blk, kk, hb, rfl, _⟩ := den_sl hx
    obtain ⟨ys, h1, h2, h3⟩ := loadN (P := P) hs (getC_get hq) e hb
    exact ⟨ys, h1, h2, h3, rfl⟩
  | str b =>
    cases hk; cases hx
    obtain ⟨h1, e⟩ := bif_t (show (bif Nat.beq s 1 then _ else none) = some new from hnew)
    have := Nat.eq_of_beq_eq_true h1; subst this
    obtain ⟨b', hb', e⟩ := Option.bind_eq_some_iff.1 e
    cases e
    obtain ⟨rfl, hl⟩ := rd_eq hb'
    have hd : ∀ l : List UInt8, denL ε (l.map fun x => SV.int .u8 (Int.ofNat x.toNat)) = some (l.map fun x => Value.int .u8 (x.toNat : Int)) := by
      intro l
      induction l with
      | nil => rfl
      | cons x l ih => exact denL_mk rfl ih
    refine ⟨_, hd _, by simp; omega, ?_, ?_⟩
    · simp only [Builtin.firstCells]
      rw [extract_bytes]
      simp
    · simp [Builtin.lenOf, ByteArray.size]
  | _ => cases hk
theorem zeroCells_size (z : Array Value) (n : Nat) : (Builtin.zeroCells z n).size = n * z.size := by simp [Builtin.zeroCells]
theorem grow_le (nl : Nat) : ∀ (r c : Nat), c ≤ nl → Builtin.growBy nl r c ≤ 2 * nl + 768
  | 0, c, h => by show c ≤ _; omega
  | r + 1, c, h => by
    unfold Builtin.growBy
    split
    · omega
    · by_cases h2 : c + (c + 768) / 4 ≤ nl
      · exact grow_le nl r _ h2
      · cases r with
        | zero => show c + (c + 768) / 4 ≤ _; omega
        | succ r =>
          unfold Builtin.growBy
          rw [if_pos (by omega)]
          omega
theorem next_le {need cap : Nat} (h : cap < need) : Builtin.nextslicecap need cap ≤ 2 * need + 768 := by
  unfold Builtin.nextslicecap
  split
  · omega
  · split
    · omega
    · exact grow_le need 4 cap (by omega)
/-- The model's append, in place. -/
theorem append_in {ats : Array TypeId} {ty t u e s : Nat} {w w' : World} {base : Option Addr} {sl sc n : Nat} {x : Value} {ys : List Value} (hP : POk P c) (ht : ats[0]? = some t) (hd : undT c.ty t = some (.slice e)) (hs : sizeT c.ty e = some s)
    (hu : ats[1]? = some u) (hk : (∃ e', P.underlying u = some (.slice e')) ∨ P.underlying u = some .string) (hl : (Builtin.lenOf x).run P w = .ok n w) (hf : (Builtin.firstCells s n x).run P w = .ok ys.toArray w) (hcap : sl + n ≤ sc)
    (hst : match base with
      | none => w' = w
      | some A => (storeCells (A.add (sl * s)) ys).run P w = .ok () w') :
    (Builtin.append_ ats ty #[.slice base sl sc, x]).run P w = .ok (.slice base (sl + n) sc) w' := by
  have ud := und_ok hP hd
  have hsz := run_size hP hs w
  cases base with
  | none =>
    dsimp only at hst; subst hst
    rcases hk with ⟨e', hk⟩ | hk <;> simp [Builtin.append_, ht, hu, run_underlying ud, run_underlying hk, hsz, hl, hcap, hf]
  | some A =>
    dsimp only at hst
    rcases hk with ⟨e', hk⟩ | hk <;> simp [Builtin.append_, ht, hu, run_underlying ud, run_underlying hk, hsz, hl, hcap, hf, hst]
/-- The model's append into a new block. -/
theorem append_new {ats : Array TypeId} {ty t u e s b : Nat} {w : World} {base : Option Addr} {sl sc n : Nat} {x : Value} {os ys : List Value} (hP : POk P c) (ht : ats[0]? = some t) (hd : undT c.ty t = some (.slice e)) (hs : sizeT c.ty e = some s) (hb : bytesT c.ty e = some b) {z : List SV} (hz : zeroN c.ty e s = some z)
    (hu : ats[1]? = some u) (hk : (∃ e', P.underlying u = some (.slice e')) ∨ P.underlying u = some .string) (hl : (Builtin.lenOf x).run P w = .ok n w) (hf : (Builtin.firstCells s n x).run P w.drew = .ok ys.toArray w.drew) (ho : (Builtin.firstCells s sl (.slice base sl sc)).run P w.drew = .ok os.toArray w.drew)
    (hcap : sc < sl + n) (hle : sl + n ≤ 1000000000) (hbb : b ≤ 65536) :
    ∃ zs : List Value, zs.length = (grownCap w (sl + n) sc e - (sl + n)) * s ∧ (Builtin.append_ ats ty #[.slice base sl sc, x]).run P w = .ok (.slice (some ⟨w.heap.size, 0, none⟩) (sl + n) (grownCap w (sl + n) sc e)) (w.drew.alloc (.cells (os ++ ys ++ zs).toArray e)) := by
  have ud := und_ok hP hd
  have hsz := fun w => run_size hP hs w
  obtain ⟨zv, hzr, _, hzs⟩ := run_zeroN hP hz w.drew
  obtain ⟨i, hi, hib⟩ := run_bytes hP hb w
  obtain ⟨i2, hi2, hib2⟩ := run_bytes hP hb w.drew
  have hn : ¬ (sl + n ≤ sc) := by omega
  have h63 : ¬ (9223372036854775807 < ((sl : Int) + (n : Int))) := by omega
  have h48 : ¬ (281474976710656 < Builtin.nextslicecap (sl + n) sc * b) := by
    have h1 := next_le hcap
    have h2 : Builtin.nextslicecap (sl + n) sc * b ≤ (2 * (sl + n) + 768) * 65536 := Nat.mul_le_mul h1 hbb
    omega
  refine ⟨(Builtin.zeroCells zv.cells (grownCap w (sl + n) sc e - (sl + n))).toList, by rw [Array.length_toList, zeroCells_size, hzs], ?_⟩
  have hzr' : (zeroValue e).run P { w with drawn := w.drawn + 1 } = .ok zv { w with drawn := w.drawn + 1 } := hzr
  have hf' : (Builtin.firstCells s n x).run P { w with drawn := w.drawn + 1 } = .ok ys.toArray { w with drawn := w.drawn + 1 } := hf
  have ho' : (Builtin.firstCells s sl (.slice base sl sc)).run P { w with drawn := w.drawn + 1 } = .ok os.toArray { w with drawn := w.drawn + 1 } := ho
  have hi2' : (typeInfo e).run P { w with drawn := w.drawn + 1 } = .ok i2 { w with drawn := w.drawn + 1 } := hi2
  rcases hk with ⟨e', hk⟩ | hk <;>
    (simp [Builtin.append_, ht, hu, run_underlying ud, run_underlying hk, hsz, hl, hn, hi, hib, h63, h48, Question.forced, hf, ho, hi2, hzr, newRow, grownCap, -World.alloc_eq]
     try (congr 2; apply Array.ext'; simp [List.append_assoc]))
end
end Go.Proofs.YtohikcchbjchkaaGreatDoor.Sx

