import Derived.Test.YtohikcchbjchkaaGreatDoorKed
import Derived.KernelRfl
import Derived.Laws.Externs
import Derived.Lib.Bytealg
import Derived.Room.MakeNoZero
import Derived.Lib.Index
set_option linter.unusedVariables false
set_option linter.unusedSimpArgs false
/- The executor is sound: regions whose order is drawn: what the tables say. -/
namespace Go.Proofs.YtohikcchbjchkaaGreatDoor.Sx
open Go
section
variable {P : Program} {c : Cx}
theorem maskE_spec (acc : List Nat) : ∀ (l : List Edge) (s m : Nat), maskE acc l s = some m →
    (∀ e ∈ l, Region.binds .any e = true → e.on < acc.length) ∧
    (∀ k, m.testBit k = true → s.testBit k = true ∨ ∃ e ∈ l, Region.binds .any e = true ∧ (k = e.on ∨ ∃ m', acc[e.on]? = some m' ∧ m'.testBit k = true))
  | [], s, m, h => by
    cases h
    exact ⟨fun _ h => (by cases h), fun k hk => .inl hk⟩
  | e :: l, s, m, h => by
    have h' : (bif Region.binds .any e then (nth acc e.on).bind fun m => maskE acc l (Nat.lor (Nat.lor s (2 ^ e.on)) m) else maskE acc l s) = some m := h
    cases hb : Region.binds .any e with
    | false =>
      rw [hb] at h'
      obtain ⟨h1, h2⟩ := maskE_spec acc l s m h'
      refine ⟨fun e' he hb' => ?_, fun k hk => ?_⟩
      · cases he with
        | head => rw [hb] at hb'; cases hb'
        | tail _ he => exact h1 e' he hb'
      · rcases h2 k hk with h | ⟨e', he, r⟩
        · exact .inl h
        · exact .inr ⟨e', List.mem_cons_of_mem _ he, r⟩
    | true =>
      rw [hb] at h'
      obtain ⟨m', hm', h'⟩ := Option.bind_eq_some_iff.1 h'
      rw [nth_get] at hm'
      obtain ⟨h1, h2⟩ := maskE_spec acc l _ m h'
      refine ⟨fun e' he hb' => ?_, fun k hk => ?_⟩
      · cases he with
        | head => exact (List.getElem?_eq_some_iff.1 hm').1
        | tail _ he => exact h1 e' he hb'
      · rcases h2 k hk with h | ⟨e', he, r⟩
        · have hh : ((s ||| 2 ^ e.on) ||| m').testBit k = true := h
          rw [Nat.testBit_or, Nat.testBit_or] at hh
          cases hs : s.testBit k with
          | true => exact .inl rfl
          | false =>
            rw [hs, Bool.false_or] at hh
            cases h2k : (2 ^ e.on).testBit k with
            | true =>
              rw [Nat.testBit_two_pow] at h2k
              exact .inr ⟨e, List.mem_cons_self, hb, .inl (by simp at h2k; exact h2k.symm)⟩
            | false =>
              rw [h2k, Bool.false_or] at hh
              exact .inr ⟨e, List.mem_cons_self, hb, .inr ⟨m', hm', hh⟩⟩
        · exact .inr ⟨e', List.mem_cons_of_mem _ he, r⟩
theorem masks_spec : ∀ (rest : List Oper) (acc ms : List Nat), masks acc rest = some ms → ms.length = acc.length + rest.length ∧ (∀ i, i < acc.length → ms[i]? = acc[i]?) ∧
    ∀ j o, rest[j]? = some o → ∃ m, ms[acc.length + j]? = some m ∧ maskE (ms.take (acc.length + j)) o.after.toList 0 = some m
  | [], acc, ms, h => by
    cases h
    exact ⟨rfl, fun _ _ => rfl, fun j o h => by simp at h⟩
  | o :: rest, acc, ms, h => by
    obtain ⟨m, hm, h⟩ := Option.bind_eq_some_iff.1 (show (maskE acc o.after.toList 0).bind (fun m => masks (acc ++ [m]) rest) = some ms from h)
    obtain ⟨h1, h2, h3⟩ := masks_spec rest (acc ++ [m]) ms h
    have hl : (acc ++ [m]).length = acc.length + 1 := by simp
    refine ⟨by rw [h1, hl]; simp; omega, fun i hi => ?_, fun j o' hj => ?_⟩
    · rw [h2 i (by omega), List.getElem?_append_left hi]
    · cases j with
      | zero =>
        simp only [List.getElem?_cons_zero] at hj; cases hj
        refine ⟨m, ?_, ?_⟩
        · rw [Nat.add_zero, h2 acc.length (by omega)]; simp
        · have : ms.take (acc.length + 0) = acc := by
            apply List.ext_getElem?
            intro i
            rw [List.getElem?_take]
            split
            · rename_i hi
              rw [h2 i (by omega), List.getElem?_append_left (by omega)]
            · rename_i hi
              rw [List.getElem?_eq_none (by omega)]
          rw [this]; exact hm
      | succ j =>
        simp only [List.getElem?_cons_succ] at hj
        obtain ⟨m', q1, q2⟩ := h3 j o' hj
        rw [hl] at q1 q2
        exact ⟨m', by rw [show acc.length + (j + 1) = acc.length + 1 + j by omega]; exact q1, by rw [show acc.length + (j + 1) = acc.length + 1 + j by omega]; exact q2⟩
theorem tmpOk1_spec (all : List Oper) (ms : List Nat) (i : Nat) (ts : List Nat) : ∀ (l : List Oper) (j0 : Nat), tmpOk1 all ms i ts l j0 = true → ∀ j o d, l[j]? = some o → o.dst = some d → d ∈ ts → i ≠ j0 + j →
    (j0 + j < i ∧ ((nth ms i).getD 0).testBit (j0 + j) = true) ∨ (i < j0 + j ∧ ((nth ms (j0 + j)).getD 0).testBit i = true)
  | [], j0, _, j, o, d, hj, _, _, _ => by simp at hj
  | o' :: l, j0, h, j, o, d, hj, hd, hts, hne => by
    unfold tmpOk1 at h
    rw [Bool.and_eq_true] at h
    obtain ⟨h1, h2⟩ := h
    cases j with
    | zero =>
      simp only [List.getElem?_cons_zero] at hj; cases hj
      rw [hd] at h1
      dsimp only at h1
      have hany : ts.any (Nat.beq d) = true := List.any_eq_true.2 ⟨d, hts, Nat.beq_refl d⟩
      rw [hany, cond_true] at h1
      simp only [Nat.add_zero] at hne ⊢
      have hb : Nat.beq i j0 = false := by
        cases e : Nat.beq i j0 with
        | false => rfl
        | true => exact absurd (Nat.eq_of_beq_eq_true e) hne
      rw [hb, cond_false] at h1
      cases hlt : Nat.blt j0 i with
      | true => rw [hlt, cond_true] at h1; exact .inl ⟨Nat.blt_eq.mp hlt, h1⟩
      | false =>
        rw [hlt, cond_false] at h1
        refine .inr ⟨?_, h1⟩
        have : ¬ (j0 < i) := fun e => by rw [Nat.blt_eq.mpr e] at hlt; cases hlt
        omega
    | succ j =>
      simp only [List.getElem?_cons_succ] at hj
      have := tmpOk1_spec all ms i ts l (j0 + 1) h2 j o d hj hd hts (by omega)
      rw [show j0 + 1 + j = j0 + (j + 1) by omega] at this
      exact this
theorem tmpOk_spec (all : List Oper) (ms : List Nat) : ∀ (l : List Oper) (i0 : Nat), tmpOk all ms l i0 = true → ∀ i o, l[i]? = some o → tmpOk1 all ms (i0 + i) (o.dst.toList ++ eyes all o) all 0 = true
  | [], i0, _, i, o, h => by simp at h
  | o' :: l, i0, h, i, o, hi => by
    unfold tmpOk at h
    rw [Bool.and_eq_true] at h
    cases i with
    | zero => simp only [List.getElem?_cons_zero] at hi; cases hi; exact h.1
    | succ i =>
      simp only [List.getElem?_cons_succ] at hi
      have := tmpOk_spec all ms l (i0 + 1) h.2 i o hi
      rw [show i0 + 1 + i = i0 + (i + 1) by omega] at this
      exact this
theorem compD_spec {sz : Nat} {all : List Oper} : ∀ {os : List Oper} {ms : List Nat} {l : List DIns}, compD c sz all os ms = some l → l.length = os.length ∧
    ∀ (i : Nat) (o : Oper), os[i]? = some o → ∃ (D : DIns) (m : Nat), l[i]? = some D ∧ ms[i]? = some m ∧ gdT all o = some D.gd ∧ dstT sz o = some D.d ∧ compI c o.op = some D.op ∧ D.see = (eyes all o).map pa ∧ D.m = m
  | [], ms, l, h => by
    cases h
    exact ⟨rfl, fun i o h => by simp at h⟩
  | o :: os, [], l, h => by cases h
  | o :: os, m :: ms, l, h => by
    unfold compD at h
    dsimp only at h
    obtain ⟨g, hg, h⟩ := Option.bind_eq_some_iff.1 h
    obtain ⟨d, hd, h⟩ := Option.bind_eq_some_iff.1 h
    obtain ⟨x, hx, h⟩ := Option.bind_eq_some_iff.1 h
    obtain ⟨r, hr, h⟩ := Option.bind_eq_some_iff.1 h
    cases h
    obtain ⟨h1, h2⟩ := compD_spec hr
    refine ⟨by simp [h1], fun i o' hi => ?_⟩
    cases i with
    | zero =>
      simp only [List.getElem?_cons_zero] at hi; cases hi
      exact ⟨_, m, rfl, rfl, hg, hd, hx, rfl, rfl⟩
    | succ i =>
      simp only [List.getElem?_cons_succ] at hi
      obtain ⟨D, m', q1, q2, q3⟩ := h2 i o' hi
      exact ⟨D, m', by simpa using q1, by simpa using q2, q3⟩
theorem draw_trace {rec : Job → Out} {b : Nat} : ∀ {l : List DIns} {i : Nat} {s s' : DSt}, drawOps rec b l i s = .ok s' → ∃ S : Nat → DSt, S i = s ∧ S (i + l.length) = s' ∧ ∀ j D, l[j]? = some D → drawStep rec b (i + j) D (S (i + j)) = .ok (S (i + j + 1))
  | [], i, s, s', h => by
    cases h
    exact ⟨fun _ => s, rfl, rfl, fun j D h => by simp at h⟩
  | o :: l, i, s, s', h => by
    have h' : (match drawStep rec b i o s with
      | .ok s => drawOps rec b l (i + 1) s
      | .pan t f s => lastP l o i t f s
      | .bad w => .bad w) = .ok s' := h
    cases hd : drawStep rec b i o s with
    | bad w => rw [hd] at h'; cases h'
    | pan t f s1 =>
      rw [hd] at h'
      cases l with
      | cons _ _ => cases h'
      | nil =>
        have h2 : (bif Nat.beq o.m (Nat.sub (2 ^ i) 1) then DR.pan t f s1 else .bad [63]) = .ok s' := h'
        cases hb : Nat.beq o.m (Nat.sub (2 ^ i) 1) <;> (rw [hb] at h2; cases h2)
    | ok s1 =>
      rw [hd] at h'
      obtain ⟨S, h1, h2, h3⟩ := draw_trace (show drawOps rec b l (i + 1) s1 = .ok s' from h')
      refine ⟨fun k => if k = i then s else S k, by simp, ?_, fun j D hj => ?_⟩
      · dsimp only
        rw [if_neg (by simp), List.length_cons, show i + (l.length + 1) = i + 1 + l.length by omega]; exact h2
      · dsimp only
        cases j with
        | zero =>
          simp only [List.getElem?_cons_zero] at hj; cases hj
          rw [Nat.add_zero, if_pos rfl, if_neg (by omega), h1]; exact hd
        | succ j =>
          simp only [List.getElem?_cons_succ] at hj
          have := h3 j D hj
          rw [if_neg (by omega), if_neg (by omega)]
          rw [show i + (j + 1) = i + 1 + j by omega]; exact this
/-- What would be, had a panic not been. -/
def calm (rec : Job → Out) : Job → Out := fun j => match rec j with
  | .pan _ _ _ h nx => .val (.tup []) h nx
  | o => o
theorem calm_val {rec : Job → Out} {j : Job} {v : SV} {h : Tr SO} {nx : Nat} (e : rec j = .val v h nx) : calm rec j = .val v h nx := by
  unfold calm; rw [e]
theorem heavy_calm {rec : Job → Out} {f : Tr SV} {h : Tr SO} {nx : Nat} {x : Iop} : (∀ v h' nx', heavy rec f h nx x = .val v h' nx' → heavy (calm rec) f h nx x = .val v h' nx') ∧ (∀ t f' ds' h' nx', heavy rec f h nx x = .pan t f' ds' h' nx' → heavy (calm rec) f h nx x = .val (.tup []) h' nx') := by
  cases x with
  | c g as =>
    have e1 : ∀ r : Job → Out, heavy r f h nx (.c g as) = (match (opv f g).bind fun v => callJ h nx f v as with
      | some j => r j
      | none => .bad [2]) := fun _ => rfl
    rw [e1, e1]
    cases (opv f g).bind fun v => callJ h nx f v as with
    | none => exact ⟨fun v h' nx' e => e, fun t f' ds' h' nx' e => (by cases e)⟩
    | some j =>
      refine ⟨fun v h' nx' e => calm_val e, fun t f' ds' h' nx' e => ?_⟩
      have e' : rec j = .pan t f' ds' h' nx' := e
      show calm rec j = _
      unfold calm; rw [e']
  | m g =>
    refine ⟨fun v h' nx' e => e, fun t f' ds' h' nx' e => ?_⟩
    have e' : (match g h nx f with
      | some (v, h, nx) => Out.val v h nx
      | none => .bad [1]) = .pan t f' ds' h' nx' := e
    cases hg : g h nx f with
    | none => rw [hg] at e'; cases e'
    | some q => rw [hg] at e'; cases e'
  | _ => exact ⟨fun v h' nx' e => (by cases e), fun t f' ds' h' nx' e => (by cases e)⟩
theorem dHeavy_calm {rec : Job → Out} {i : Nat} {d : Option Pa} {op : Iop} {m : Nat} {fr : Tr SV} {s : DSt} : (∀ s', dHeavy rec i d op m fr s = .ok s' → dHeavy (calm rec) i d op m fr s = .ok s') ∧
    (∀ t f s', dHeavy rec i d op m fr s = .pan t f s' → f = s.f ∧ dHeavy (calm rec) i d op m fr s = .ok s' ∧ ∃ f' ds' h' nx', heavy rec fr (promo m s.al s.h) s.nx op = .pan t f' ds' h' nx') := by
  obtain ⟨c1, c2⟩ := heavy_calm (rec := rec) (f := fr) (h := promo m s.al s.h) (nx := s.nx) (x := op)
  unfold dHeavy
  cases Nat.beq (Nat.land s.hm m) s.hm with
  | false => exact ⟨fun s' e => (by cases e), fun t f s' e => (by cases e)⟩
  | true =>
    simp only [cond_true]
    cases hv : heavy rec fr (promo m s.al s.h) s.nx op with
    | val v h' nx' =>
      rw [c1 _ _ _ hv]
      dsimp only
      refine ⟨fun s' e => e, fun t f s' e => ?_⟩
      cases ha : again m h' s.sn <;> (rw [ha] at e; cases e)
    | pan t f' ds' h' nx' =>
      rw [c2 _ _ _ _ _ hv]
      dsimp only
      cases ha : again m h' s.sn with
      | none => exact ⟨fun s' e => (by cases e), fun t f s' e => (by cases e)⟩
      | some sn => exact ⟨fun s' e => (by cases e), fun t2 f2 s' e => by cases e; exact ⟨rfl, rfl, _, _, _, _, rfl⟩⟩
    | _ => exact ⟨fun s' e => (by cases e), fun t f s' e => (by cases e)⟩
theorem step_calm {rec : Job → Out} {b i : Nat} {o : DIns} {s : DSt} : (∀ s', drawStep rec b i o s = .ok s' → drawStep (calm rec) b i o s = .ok s') ∧
    (∀ t f s', drawStep rec b i o s = .pan t f s' → f = s.f ∧ drawStep (calm rec) b i o s = .ok s' ∧ passed (rst s.f o.see .e) o.gd = some false ∧ ∃ f' ds' h' nx', heavy rec (rst s.f o.see .e) (promo o.m s.al s.h) s.nx o.op = .pan t f' ds' h' nx') := by
  obtain ⟨c1, c2⟩ := dHeavy_calm (rec := rec) (i := i) (d := o.d) (op := o.op) (m := o.m) (fr := rst s.f o.see .e) (s := s)
  unfold drawStep
  cases hps : passed (rst s.f o.see .e) o.gd with
  | none => exact ⟨fun s' e => (by cases e), fun t f s' e => (by cases e)⟩
  | some q =>
    cases q with
    | true => exact ⟨fun s' e => e, fun t f s' e => (by cases e)⟩
    | false =>
      dsimp only
      cases ho : o.op with
      | l k g =>
        refine ⟨fun s' e => e, fun t f s' e => ?_⟩
        dsimp only at e
        unfold dLight at e
        cases k with
        | true =>
          simp only [cond_true] at e
          cases hg : g s.h [] (rst s.f o.see .e) with
          | v x =>
            rw [hg] at e
            dsimp only at e
            cases he : elder o.m g (rst s.f o.see .e) x s.hs <;> (rw [he] at e; cases e)
          | _ => rw [hg] at e; cases e
        | false =>
          simp only [cond_false] at e
          cases hg : g .e (pa (b + i)) (rst s.f o.see .e) <;> (rw [hg] at e; cases e)
      | d _ _ => exact ⟨fun s' e => e, fun t f s' e => (by cases e)⟩
      | p _ => exact ⟨fun s' e => e, fun t f s' e => (by cases e)⟩
      | m g => rw [ho] at c1 c2; exact ⟨c1, fun t f s' e => let ⟨q1, q2, q3⟩ := c2 t f s' e; ⟨q1, q2, rfl, q3⟩⟩
      | c g as => rw [ho] at c1 c2; exact ⟨c1, fun t f s' e => let ⟨q1, q2, q3⟩ := c2 t f s' e; ⟨q1, q2, rfl, q3⟩⟩
theorem step_heavy {rec : Job → Out} {b i : Nat} {o : DIns} {s s' : DSt} (h : drawStep rec b i o s = .ok s') (hp : passed (rst s.f o.see .e) o.gd = some false) {v : SV} {h' : Tr SO} {nx' : Nat} (hc : heavy (calm rec) (rst s.f o.see .e) (promo o.m s.al s.h) s.nx o.op = .val v h' nx') :
    heavy rec (rst s.f o.see .e) (promo o.m s.al s.h) s.nx o.op = .val v h' nx' := by
  obtain ⟨c1, _⟩ := heavy_calm (rec := rec) (f := rst s.f o.see .e) (h := promo o.m s.al s.h) (nx := s.nx) (x := o.op)
  have fin : dHeavy rec i o.d o.op o.m (rst s.f o.see .e) s = .ok s' → heavy rec (rst s.f o.see .e) (promo o.m s.al s.h) s.nx o.op = .val v h' nx' := by
    intro h
    unfold dHeavy at h
    cases hb : Nat.beq (Nat.land s.hm o.m) s.hm with
    | false => rw [hb] at h; cases h
    | true =>
      rw [hb, cond_true] at h
      cases hv : heavy rec (rst s.f o.see .e) (promo o.m s.al s.h) s.nx o.op with
      | val v1 h1 n1 =>
        rw [c1 _ _ _ hv] at hc
        exact hc
      | pan t f1 d1 h1 n1 =>
        rw [hv] at h
        dsimp only at h
        cases ha : again o.m h1 s.sn <;> (rw [ha] at h; cases h)
      | _ => rw [hv] at h; cases h
  unfold drawStep at h
  rw [hp] at h
  dsimp only at h
  cases ho : o.op with
  | l k g => rw [ho] at hc; cases hc
  | d _ _ => rw [ho] at hc; cases hc
  | p _ => rw [ho] at hc; cases hc
  | m g => rw [ho] at h fin; exact fin h
  | c g as => rw [ho] at h fin; exact fin h
theorem ops_pan {rec : Job → Out} {b : Nat} : ∀ {l : List DIns} {i : Nat} {s : DSt} {t : Nat} {f : Tr SV} {s' : DSt}, drawOps rec b l i s = .pan t f s' → drawOps (calm rec) b l i s = .ok s' ∧
    ∀ S : Nat → DSt, S i = s → (∀ j D, l[j]? = some D → drawStep (calm rec) b (i + j) D (S (i + j)) = .ok (S (i + j + 1))) →
      (∀ j D, l[j]? = some D → j + 1 < l.length → drawStep rec b (i + j) D (S (i + j)) = .ok (S (i + j + 1))) ∧
      ∃ D, l[l.length - 1]? = some D ∧ D.m = 2 ^ (i + (l.length - 1)) - 1 ∧ drawStep rec b (i + (l.length - 1)) D (S (i + (l.length - 1))) = .pan t f (S (i + l.length))
  | [], i, s, t, f, s', h => by cases h
  | o :: l, i, s, t, f, s', h => by
    have h' : (match drawStep rec b i o s with
      | .ok s => drawOps rec b l (i + 1) s
      | .pan t f s => lastP l o i t f s
      | .bad w => .bad w) = .pan t f s' := h
    obtain ⟨c1, c2⟩ := step_calm (rec := rec) (b := b) (i := i) (o := o) (s := s)
    cases hd : drawStep rec b i o s with
    | bad w => rw [hd] at h'; cases h'
    | ok s1 =>
      rw [hd] at h'
      obtain ⟨k1, k2⟩ := ops_pan (show drawOps rec b l (i + 1) s1 = .pan t f s' from h')
      constructor
      · show (match drawStep (calm rec) b i o s with
          | .ok s => drawOps (calm rec) b l (i + 1) s
          | .pan t f s => lastP l o i t f s
          | .bad w => .bad w) = .ok s'
        rw [c1 _ hd]; exact k1
      · intro S hS hall
        have h0 := hall 0 o rfl
        simp only [Nat.add_zero] at h0
        rw [hS, c1 _ hd] at h0
        injection h0 with h0
        have hl : l ≠ [] := by intro e; subst e; cases h'
        obtain ⟨q1, D, q2, q3, q4⟩ := k2 S h0.symm (fun j D hj => by
          have := hall (j + 1) D (by simpa using hj)
          rw [show i + (j + 1) = i + 1 + j by omega] at this; exact this)
        have hlen : 0 < l.length := List.length_pos_iff.2 hl
        refine ⟨fun j D hj hlt => ?_, D, ?_, ?_, ?_⟩
        · cases j with
          | zero =>
            simp only [List.getElem?_cons_zero] at hj; cases hj
            rw [Nat.add_zero, hS, ← h0]; exact hd
          | succ j =>
            have := q1 j D (by simpa using hj) (by simpa using hlt)
            rw [show i + (j + 1) = i + 1 + j by omega]; exact this
        · rw [List.length_cons, Nat.add_sub_cancel]
          obtain ⟨m, hm⟩ : ∃ m, l.length = m + 1 := ⟨l.length - 1, by omega⟩
          rw [hm, List.getElem?_cons_succ]
          rw [hm, Nat.add_sub_cancel] at q2; exact q2
        · rw [List.length_cons, Nat.add_sub_cancel, q3]
          congr 2; omega
        · rw [List.length_cons, Nat.add_sub_cancel]
          rw [show i + 1 + (l.length - 1) = i + l.length by omega, show i + 1 + l.length = i + (l.length + 1) by omega] at q4
          exact q4
    | pan t1 f1 s1 =>
      rw [hd] at h'
      cases l with
      | cons _ _ => cases h'
      | nil =>
        have h2 : (bif Nat.beq o.m (Nat.sub (2 ^ i) 1) then DR.pan t1 f1 s1 else .bad [63]) = .pan t f s' := h'
        cases hb : Nat.beq o.m (Nat.sub (2 ^ i) 1) with
        | false => rw [hb] at h2; cases h2
        | true =>
          rw [hb] at h2
          cases h2
          obtain ⟨e1, e2, _⟩ := c2 _ _ _ hd
          constructor
          · show (match drawStep (calm rec) b i o s with
              | .ok s => drawOps (calm rec) b [] (i + 1) s
              | .pan t f s => lastP [] o i t f s
              | .bad w => .bad w) = .ok s'
            rw [e2]; rfl
          · intro S hS hall
            have h0 := hall 0 o rfl
            simp only [Nat.add_zero] at h0
            rw [hS, e2] at h0
            injection h0 with h0
            refine ⟨fun j D hj hlt => by simp at hlt, o, rfl, Nat.eq_of_beq_eq_true hb, ?_⟩
            simp only [List.length_cons, List.length_nil, Nat.zero_add, Nat.sub_self, Nat.add_zero]
            rw [hS, hd, h0]
/-- A drawn region's run, with what is known of it. -/
structure Dr (c : Cx) (rec : Job → Out) (ops : Array Oper) (sz b : Nat) where
  S : Nat → DSt
  D : Nat → DIns
  ahead : ∀ i o, ops[i]? = some o → ∀ k, (D i).m.testBit k = true → ∃ e ∈ o.after, Region.binds .any e = true ∧ (k = e.on ∨ (D e.on).m.testBit k = true)
  edge : ∀ i o, ops[i]? = some o → ∀ e ∈ o.after, Region.binds .any e = true → e.on < i
  tmp : ∀ i j oi oj d, i ≠ j → ops[i]? = some oi → ops[j]? = some oj → oj.dst = some d → (oi.dst = some d ∨ d ∈ eyes ops.toList oi) → (j < i ∧ (D i).m.testBit j = true) ∨ (i < j ∧ (D j).m.testBit i = true)
  cmp : ∀ i o, ops[i]? = some o → gdT ops.toList o = some (D i).gd ∧ dstT sz o = some (D i).d ∧ compI c o.op = some (D i).op ∧ (D i).see = (eyes ops.toList o).map pa
  stp : ∀ i, i < ops.size → drawStep rec b i (D i) (S i) = .ok (S (i + 1))
theorem Dr.mk' {rec : Job → Out} {ops : Array Oper} {sz b : Nat} {ms : List Nat} {l : List DIns} {s s' : DSt} (hm : masks [] ops.toList = some ms) (ht : tmpOk ops.toList ms ops.toList 0 = true) (hc : compD c sz ops.toList ops.toList ms = some l) (hd : drawOps rec b l 0 s = .ok s') :
    ∃ T : Dr c rec ops sz b, T.S 0 = s ∧ T.S ops.size = s' ∧ ∀ j, j < ops.size → l[j]? = some (T.D j) := by
  obtain ⟨m1, _, m3⟩ := masks_spec ops.toList [] ms hm
  obtain ⟨c1, c2⟩ := compD_spec hc
  obtain ⟨S, s1, s2, s3⟩ := draw_trace hd
  have hlen : l.length = ops.size := by rw [c1]; simp
  let D : Nat → DIns := fun i => (l[i]?).getD ⟨none, none, .m (fun _ _ _ => none), [], 0⟩
  have hD : ∀ i o, ops[i]? = some o → l[i]? = some (D i) ∧ ms[i]? = some (D i).m ∧ gdT ops.toList o = some (D i).gd ∧ dstT sz o = some (D i).d ∧ compI c o.op = some (D i).op ∧ (D i).see = (eyes ops.toList o).map pa := by
    intro i o hi
    obtain ⟨Di, m, q1, q2, q3, q4, q5, q6, q7⟩ := c2 i o (by simpa using hi)
    have e : D i = Di := by show (l[i]?).getD _ = Di; rw [q1]; rfl
    rw [e]
    exact ⟨q1, by rw [q7]; exact q2, q3, q4, q5, q6⟩
  have hex : ∀ i, i < ops.size → ∃ o, ops[i]? = some o := fun i hi => ⟨ops[i], by simp [hi]⟩
  have hmask : ∀ i o, ops[i]? = some o → maskE (ms.take i) o.after.toList 0 = some (D i).m := by
    intro i o hi
    obtain ⟨m, q1, q2⟩ := m3 i o (by simpa using hi)
    simp only [List.length_nil, Nat.zero_add] at q1 q2
    rw [(hD i o hi).2.1] at q1; cases q1
    exact q2
  refine ⟨⟨S, D, ?_, ?_, ?_, fun i o hi => (hD i o hi).2.2, ?_⟩, s1, by rw [← hlen]; simpa using s2, fun j hj => by obtain ⟨o, ho⟩ := hex j hj; exact (hD j o ho).1⟩
  · intro i o hi k hk
    rcases (maskE_spec _ _ _ _ (hmask i o hi)).2 k hk with h | ⟨e, he, hb, h⟩
    · simp at h
    · refine ⟨e, by simpa using he, hb, ?_⟩
      rcases h with h | ⟨m', h1, h2⟩
      · exact .inl h
      · rw [List.getElem?_take] at h1
        split at h1
        · rename_i hlt
          obtain ⟨o2, ho2⟩ := hex e.on (Nat.lt_trans hlt (Array.getElem?_eq_some_iff.1 hi).1)
          rw [(hD _ _ ho2).2.1] at h1; cases h1
          exact .inr h2
        · cases h1
  · intro i o hi e he hb
    have := (maskE_spec _ _ _ _ (hmask i o hi)).1 e (by simpa using he) hb
    rw [List.length_take] at this
    omega
  · intro i j oi oj d hne hi hj hd hts
    have h1 := tmpOk_spec ops.toList ms ops.toList 0 ht i oi (by simpa using hi)
    rw [Nat.zero_add] at h1
    have h2 := tmpOk1_spec _ _ _ _ _ _ h1 j oj d (by simpa using hj) hd (by
      rcases hts with h | h
      · rw [h]; exact List.mem_append_left _ (by simp)
      · exact List.mem_append_right _ h) (by omega)
    rw [Nat.zero_add, nth_get, nth_get, (hD i oi hi).2.1, (hD j oj hj).2.1] at h2
    exact h2
  · intro i hi
    obtain ⟨o, ho⟩ := hex i hi
    have := s3 i (D i) (hD i o ho).1
    rw [Nat.zero_add] at this
    exact this
end
end Go.Proofs.YtohikcchbjchkaaGreatDoor.Sx

/- The executor is sound: regions whose order is drawn: the run in the order of the text. -/
namespace Go.Proofs.YtohikcchbjchkaaGreatDoor.Sx
open Go
theorem sees_ok {g : LF} {h : Tr SO} {f : Tr SV} {v : SV} (hs : sees g h f v = true) : g h [] f = .v v := by
  unfold sees at hs
  cases hg : g h [] f with
  | v x => rw [hg] at hs; rw [svEq_eq _ _ _ hs]
  | _ => rw [hg] at hs; cases hs
theorem rst_get {f : Tr SV} : ∀ {l : List Pa} {t : Tr SV} {p : Pa} {v : SV}, Tr.get p (rst f l t) = some v → (p ∈ l ∧ Tr.get p f = some v) ∨ Tr.get p t = some v
  | [], t, p, v, h => .inr h
  | q :: l, t, p, v, h => by
    have h' : Tr.get p (match Tr.get q f with
      | none => rst f l t
      | some v => rst f l (Tr.set (some v) q t)) = some v := h
    cases hq : Tr.get q f with
    | none =>
      rw [hq] at h'
      rcases rst_get (l := l) h' with ⟨h1, h2⟩ | h1
      · exact .inl ⟨List.mem_cons_of_mem _ h1, h2⟩
      · exact .inr h1
    | some u =>
      rw [hq] at h'
      rcases rst_get (l := l) h' with ⟨h1, h2⟩ | h1
      · exact .inl ⟨List.mem_cons_of_mem _ h1, h2⟩
      · by_cases e : p = q
        · subst e
          rw [Tr.get_set_same] at h1; cases h1
          exact .inl ⟨List.mem_cons_self, hq⟩
        · rw [Tr.get_set_ne _ _ _ _ e] at h1; exact .inr h1
theorem again_ok {m : Nat} {h : Tr SO} : ∀ {sn sn' : List Seen}, again m h sn = some sn' → ∀ s ∈ sn, m.testBit s.i = false → sees s.g h s.f s.v = true ∧ s ∈ sn'
  | [], sn', _, s, hs, _ => by cases hs
  | s0 :: sn, sn', ha, s, hs, hm => by
    have ha' : (bif Nat.testBit m s0.i then again m h sn else bif sees s0.g h s0.f s0.v then (again m h sn).bind fun t => some (s0 :: t) else none) = some sn' := ha
    cases hb : Nat.testBit m s0.i with
    | true =>
      rw [hb] at ha'
      cases hs with
      | head => rw [hb] at hm; cases hm
      | tail _ hs => exact again_ok (sn := sn) ha' s hs hm
    | false =>
      rw [hb] at ha'
      obtain ⟨h1, ha'⟩ := bif_t ha'
      obtain ⟨t, ht, ha'⟩ := Option.bind_eq_some_iff.1 ha'
      cases ha'
      cases hs with
      | head => exact ⟨h1, List.mem_cons_self⟩
      | tail _ hs =>
        obtain ⟨q1, q2⟩ := again_ok ht s hs hm
        exact ⟨q1, List.mem_cons_of_mem _ q2⟩
theorem elder_cons {m : Nat} {g : LF} {f : Tr SV} {v : SV} {i : Nat} {h : Tr SO} {l : List (Nat × Tr SO)} (he : elder m g f v ((i, h) :: l) = true) (hm : m.testBit i = false) : sees g h f v = true ∧ elder m g f v l = true := by
  have he' : (bif Nat.testBit m i then true else bif sees g h f v then elder m g f v l else false) = true := he
  rw [hm] at he'
  exact band2 he'
theorem left_mem {m : Nat} : ∀ {l : List (Nat × Pa × SO)} {x : Nat × Pa × SO}, x ∈ left m l → x ∈ l ∧ m.testBit x.1 = false
  | [], x, h => by cases h
  | (i, n, o) :: l, x, h => by
    have h' : x ∈ (bif Nat.testBit m i then left m l else (i, n, o) :: left m l) := h
    cases hb : Nat.testBit m i with
    | true =>
      rw [hb] at h'
      obtain ⟨h1, h2⟩ := left_mem (l := l) h'
      exact ⟨List.mem_cons_of_mem _ h1, h2⟩
    | false =>
      rw [hb] at h'
      cases h' with
      | head => exact ⟨List.mem_cons_self, hb⟩
      | tail _ h' =>
        obtain ⟨h1, h2⟩ := left_mem h'
        exact ⟨List.mem_cons_of_mem _ h1, h2⟩
theorem promo_get {m : Nat} : ∀ {l : List (Nat × Pa × SO)} {h : Tr SO} {n : Pa} {o : SO}, Tr.get n (promo m l h) = some o → (∃ k, (k, n, o) ∈ l ∧ m.testBit k = true) ∨ Tr.get n h = some o
  | [], h, n, o, hg => .inr hg
  | (i, n', o') :: l, h, n, o, hg => by
    have hg' : Tr.get n (bif Nat.testBit m i then promo m l (Tr.set (some o') n' h) else promo m l h) = some o := hg
    cases hb : Nat.testBit m i with
    | true =>
      rw [hb] at hg'
      rcases promo_get (l := l) hg' with ⟨k, h1, h2⟩ | h1
      · exact .inl ⟨k, List.mem_cons_of_mem _ h1, h2⟩
      · by_cases e : n = n'
        · subst e
          rw [Tr.get_set_same] at h1; cases h1
          exact .inl ⟨i, List.mem_cons_self, hb⟩
        · rw [Tr.get_set_ne _ _ _ _ e] at h1; exact .inr h1
    | false =>
      rw [hb] at hg'
      rcases promo_get (l := l) hg' with ⟨k, h1, h2⟩ | h1
      · exact .inl ⟨k, List.mem_cons_of_mem _ h1, h2⟩
      · exact .inr h1
theorem promoA_get : ∀ {l : List (Nat × Pa × SO)} {h : Tr SO} {n : Pa} {o : SO}, Tr.get n (promoA l h) = some o → (∃ k, (k, n, o) ∈ l) ∨ Tr.get n h = some o
  | [], h, n, o, hg => .inr hg
  | (i, n', o') :: l, h, n, o, hg => by
    rcases promoA_get (l := l) (show Tr.get n (promoA l (Tr.set (some o') n' h)) = some o from hg) with ⟨k, h1⟩ | h1
    · exact .inl ⟨k, List.mem_cons_of_mem _ h1⟩
    · by_cases e : n = n'
      · subst e
        rw [Tr.get_set_same] at h1; cases h1
        exact .inl ⟨i, List.mem_cons_self⟩
      · rw [Tr.get_set_ne _ _ _ _ e] at h1; exact .inr h1

/-! ### The run -/
namespace Dr
variable {c : Cx} {rec : Job → Out} {ops : Array Oper} {sz b : Nat} (T : Dr c rec ops sz b)
noncomputable def fr (i : Nat) : Tr SV := rst (T.S i).f (T.D i).see .e
def Skip (i : Nat) : Prop := passed (T.fr i) (T.D i).gd = some true ∧ T.S (i + 1) = ⟨putD (T.S i).f (T.D i).d (.tup []), (T.S i).h, (T.S i).hs, (T.S i).hm, (T.S i).al, (T.S i).sn, (T.S i).nx⟩
def Look (i : Nat) (g : LF) (x : SV) : Prop := passed (T.fr i) (T.D i).gd = some false ∧ (T.D i).op = .l true g ∧ g (T.S i).h [] (T.fr i) = .v x ∧ elder (T.D i).m g (T.fr i) x (T.S i).hs = true ∧
  T.S (i + 1) = ⟨putD (T.S i).f (T.D i).d x, (T.S i).h, (T.S i).hs, (T.S i).hm, (T.S i).al, ⟨i, g, T.fr i, x⟩ :: (T.S i).sn, (T.S i).nx⟩
def Plain (i : Nat) (g : LF) (x : SV) : Prop := passed (T.fr i) (T.D i).gd = some false ∧ (T.D i).op = .l false g ∧ g .e (pa (b + i)) (T.fr i) = .v x ∧
  T.S (i + 1) = ⟨putD (T.S i).f (T.D i).d x, (T.S i).h, (T.S i).hs, (T.S i).hm, (T.S i).al, (T.S i).sn, (T.S i).nx⟩
def Lay (i : Nat) (g : LF) (x : SV) (o : SO) : Prop := passed (T.fr i) (T.D i).gd = some false ∧ (T.D i).op = .l false g ∧ g .e (pa (b + i)) (T.fr i) = .a x o ∧
  T.S (i + 1) = ⟨putD (T.S i).f (T.D i).d x, (T.S i).h, (T.S i).hs, (T.S i).hm, (i, pa (b + i), o) :: (T.S i).al, (T.S i).sn, (T.S i).nx⟩
def HvW (i : Nat) (v : SV) (h' : Tr SO) (nx' : Nat) (sn' : List Seen) : Prop := passed (T.fr i) (T.D i).gd = some false ∧ Nat.land (T.S i).hm (T.D i).m = (T.S i).hm ∧
  heavy rec (T.fr i) (promo (T.D i).m (T.S i).al (T.S i).h) (T.S i).nx (T.D i).op = .val v h' nx' ∧ again (T.D i).m h' (T.S i).sn = some sn' ∧
  T.S (i + 1) = ⟨putD (T.S i).f (T.D i).d v, h', (i, (T.S i).h) :: (T.S i).hs, Nat.lor (T.S i).hm (2 ^ i), left (T.D i).m (T.S i).al, sn', nx'⟩
def Hv (i : Nat) : Prop := ∃ v h' nx' sn', T.HvW i v h' nx' sn'
theorem kind {i : Nat} (hi : i < ops.size) : T.Skip i ∨ (∃ g x, T.Look i g x) ∨ (∃ g x, T.Plain i g x) ∨ (∃ g x o, T.Lay i g x o) ∨ T.Hv i := by
  have h := T.stp i hi
  unfold drawStep at h
  have hfr : rst (T.S i).f (T.D i).see .e = T.fr i := rfl
  rw [hfr] at h
  have hheavy : dHeavy rec i (T.D i).d (T.D i).op (T.D i).m (T.fr i) (T.S i) = .ok (T.S (i + 1)) → passed (T.fr i) (T.D i).gd = some false → T.Hv i := by
    intro h hp
    unfold dHeavy at h
    cases hb : Nat.beq (Nat.land (T.S i).hm (T.D i).m) (T.S i).hm with
    | false => rw [hb] at h; cases h
    | true =>
      rw [hb, cond_true] at h
      cases hv : heavy rec (T.fr i) (promo (T.D i).m (T.S i).al (T.S i).h) (T.S i).nx (T.D i).op with
      | val v h' nx' =>
        rw [hv] at h
        dsimp only at h
        cases ha : again (T.D i).m h' (T.S i).sn with
        | none => rw [ha] at h; cases h
        | some sn' =>
          rw [ha] at h
          dsimp only at h
          injection h with h
          exact ⟨v, h', nx', sn', hp, Nat.eq_of_beq_eq_true hb, hv, ha, h.symm⟩
      | pan t f1 d1 h' nx' =>
        rw [hv] at h
        dsimp only at h
        cases ha : again (T.D i).m h' (T.S i).sn <;> (rw [ha] at h; cases h)
      | _ => rw [hv] at h; cases h
  cases hp : passed (T.fr i) (T.D i).gd with
  | none => rw [hp] at h; cases h
  | some t =>
    rw [hp] at h
    cases t with
    | true =>
      dsimp only at h
      injection h with h
      exact .inl ⟨hp, h.symm⟩
    | false =>
      dsimp only at h
      cases ho : (T.D i).op with
      | l k g =>
        rw [ho] at h
        dsimp only at h
        unfold dLight at h
        cases k with
        | true =>
          rw [cond_true] at h
          cases hg : g (T.S i).h [] (T.fr i) with
          | v x =>
            rw [hg] at h
            dsimp only at h
            cases he : elder (T.D i).m g (T.fr i) x (T.S i).hs with
            | false => rw [he] at h; cases h
            | true =>
              rw [he, cond_true] at h
              injection h with h
              exact .inr (.inl ⟨g, x, hp, ho, hg, he, h.symm⟩)
          | _ => rw [hg] at h; cases h
        | false =>
          rw [cond_false] at h
          cases hg : g .e (pa (b + i)) (T.fr i) with
          | v x =>
            rw [hg] at h
            dsimp only at h
            injection h with h
            exact .inr (.inr (.inl ⟨g, x, hp, ho, hg, h.symm⟩))
          | a x o =>
            rw [hg] at h
            dsimp only at h
            injection h with h
            exact .inr (.inr (.inr (.inl ⟨g, x, o, hp, ho, hg, h.symm⟩)))
          | bad => rw [hg] at h; cases h
      | d _ _ => rw [ho] at h; cases h
      | p _ => rw [ho] at h; cases h
      | m g => rw [ho] at h hheavy; exact .inr (.inr (.inr (.inr (hheavy h hp))))
      | c g as => rw [ho] at h hheavy; exact .inr (.inr (.inr (.inr (hheavy h hp))))
theorem hv_op {i : Nat} (h : T.Hv i) : passed (T.fr i) (T.D i).gd = some false ∧ ∀ k g, (T.D i).op ≠ .l k g := by
  obtain ⟨v, h', nx', sn', h1, _, h3, _⟩ := h
  refine ⟨h1, fun k g e => ?_⟩
  rw [e] at h3; cases h3
theorem skip_hv {i : Nat} (h : T.Skip i) : ¬ T.Hv i := fun e => by
  have := (T.hv_op e).1
  rw [h.1] at this; cases this
theorem look_hv {i : Nat} {g x} (h : T.Look i g x) : ¬ T.Hv i := fun e => (T.hv_op e).2 _ _ h.2.1
theorem plain_hv {i : Nat} {g x} (h : T.Plain i g x) : ¬ T.Hv i := fun e => (T.hv_op e).2 _ _ h.2.1
theorem lay_hv {i : Nat} {g x o} (h : T.Lay i g x o) : ¬ T.Hv i := fun e => (T.hv_op e).2 _ _ h.2.1
theorem same {i : Nat} (hi : i < ops.size) (hn : ¬ T.Hv i) : (T.S (i + 1)).h = (T.S i).h ∧ (T.S (i + 1)).hs = (T.S i).hs ∧ (T.S (i + 1)).hm = (T.S i).hm ∧ (T.S (i + 1)).nx = (T.S i).nx := by
  rcases T.kind hi with h | ⟨g, x, h⟩ | ⟨g, x, h⟩ | ⟨g, x, o, h⟩ | h
  · rw [h.2]; exact ⟨rfl, rfl, rfl, rfl⟩
  · rw [h.2.2.2.2]; exact ⟨rfl, rfl, rfl, rfl⟩
  · rw [h.2.2.2]; exact ⟨rfl, rfl, rfl, rfl⟩
  · rw [h.2.2.2]; exact ⟨rfl, rfl, rfl, rfl⟩
  · exact absurd h hn
theorem flat {s : Nat} : ∀ (d : Nat), s + d ≤ ops.size → (∀ k, s ≤ k → k < s + d → ¬ T.Hv k) → (T.S (s + d)).h = (T.S s).h ∧ (T.S (s + d)).nx = (T.S s).nx
  | 0, _, _ => ⟨rfl, rfl⟩
  | d + 1, hi, h => by
    obtain ⟨h1, h2⟩ := flat d (by omega) (fun k a b => h k a (by omega))
    obtain ⟨q1, _, _, q2⟩ := T.same (i := s + d) (by omega) (h (s + d) (by omega) (by omega))
    exact ⟨q1.trans h1, q2.trans h2⟩
theorem upd {i : Nat} (hi : i < ops.size) : ∃ v, (T.S (i + 1)).f = putD (T.S i).f (T.D i).d v := by
  rcases T.kind hi with h | ⟨g, x, h⟩ | ⟨g, x, h⟩ | ⟨g, x, o, h⟩ | ⟨v, h', nx', sn', h⟩
  · rw [h.2]; exact ⟨_, rfl⟩
  · rw [h.2.2.2.2]; exact ⟨_, rfl⟩
  · rw [h.2.2.2]; exact ⟨_, rfl⟩
  · rw [h.2.2.2]; exact ⟨_, rfl⟩
  · rw [h.2.2.2.2]; exact ⟨_, rfl⟩
theorem bit_lt : ∀ (i : Nat), i < ops.size → ∀ k, (T.D i).m.testBit k = true → k < i := by
  intro i
  induction i using Nat.strongRecOn with
  | _ i ih =>
    intro hi k hk
    have ho : ops[i]? = some ops[i] := by simp [hi]
    obtain ⟨e, he, hb, h⟩ := T.ahead i _ ho k hk
    have hlt := T.edge i _ ho e he hb
    rcases h with rfl | h
    · exact hlt
    · have := ih e.on hlt (by omega) k h
      omega
theorem hm_bit : ∀ (i : Nat), i ≤ ops.size → ∀ k, k < i → T.Hv k → (T.S i).hm.testBit k = true
  | 0, _, k, hk, _ => by omega
  | i + 1, hi, k, hk, hv => by
    by_cases hh : T.Hv i
    · obtain ⟨v, h', nx', sn', h⟩ := hh
      rw [h.2.2.2.2]
      show ((T.S i).hm ||| 2 ^ i).testBit k = true
      rw [Nat.testBit_or]
      by_cases e : k = i
      · subst e; simp [Nat.testBit_two_pow]
      · rw [hm_bit i (by omega) k (by omega) hv]; rfl
    · rw [(T.same (by omega) hh).2.2.1]
      have : k ≠ i := fun e => hh (e ▸ hv)
      exact hm_bit i (by omega) k (by omega) hv
theorem chain {j k : Nat} (hj : j < ops.size) (hv : T.Hv j) (hk : k < j) (hvk : T.Hv k) : (T.D j).m.testBit k = true := by
  have h1 := T.hm_bit j (by omega) k hk hvk
  obtain ⟨v, h', nx', sn', h⟩ := hv
  have h2 : (T.S j).hm &&& (T.D j).m = (T.S j).hm := h.2.1
  rw [← h2, Nat.testBit_and, Bool.and_eq_true] at h1
  exact h1.2
theorem elder_ok (h0 : (T.S 0).hs = []) {m : Nat} {g : LF} {f : Tr SV} {v : SV} : ∀ (i : Nat), i ≤ ops.size → elder m g f v (T.S i).hs = true → ∀ k, k < i → T.Hv k → (∀ k', k ≤ k' → k' < i → T.Hv k' → m.testBit k' = false) → sees g (T.S k).h f v = true
  | 0, _, _, k, hk, _, _ => by omega
  | i + 1, hi, he, k, hk, hv, hall => by
    by_cases hh : T.Hv i
    · have hh2 := hh
      obtain ⟨v', h', nx', sn', h⟩ := hh2
      rw [h.2.2.2.2] at he
      obtain ⟨e1, e2⟩ := elder_cons he (hall i (by omega) (by omega) hh)
      by_cases e : k = i
      · subst e; exact e1
      · exact elder_ok h0 i (by omega) e2 k (by omega) hv fun k' a b => hall k' a (by omega)
    · rw [(T.same (by omega) hh).2.1] at he
      have : k ≠ i := fun e => hh (e ▸ hv)
      exact elder_ok h0 i (by omega) he k (by omega) hv fun k' a b => hall k' a (by omega)
theorem sn_mem {k : Nat} {g : LF} {x : SV} (hl : T.Look k g x) : ∀ (d : Nat), k + 1 + d ≤ ops.size → (∀ k', k < k' → k' < k + 1 + d → T.Hv k' → (T.D k').m.testBit k = false) → (⟨k, g, T.fr k, x⟩ : Seen) ∈ (T.S (k + 1 + d)).sn
  | 0, _, _ => by rw [Nat.add_zero, hl.2.2.2.2]; exact List.mem_cons_self
  | d + 1, hi, hall => by
    have ih := sn_mem hl d (by omega) fun k' a b => hall k' a (by omega)
    show _ ∈ (T.S (k + 1 + d + 1)).sn
    have hlt : k + 1 + d < ops.size := by omega
    rcases T.kind hlt with h | ⟨g, x, h⟩ | ⟨g, x, h⟩ | ⟨g, x, o, h⟩ | hh
    · rw [h.2]; exact ih
    · rw [h.2.2.2.2]; exact List.mem_cons_of_mem _ ih
    · rw [h.2.2.2]; exact ih
    · rw [h.2.2.2]; exact ih
    · have hb := hall (k + 1 + d) (by omega) (by omega) hh
      obtain ⟨v', h', nx', sn', h⟩ := hh
      rw [h.2.2.2.2]
      exact (again_ok h.2.2.2.1 _ ih hb).2
theorem al_mem (h0 : (T.S 0).al = []) : ∀ (i : Nat), i ≤ ops.size → ∀ k n o, (k, n, o) ∈ (T.S i).al → k < i ∧ (∃ g x, T.Lay k g x o) ∧ n = pa (b + k) ∧ ∀ k', k' < i → T.Hv k' → (T.D k').m.testBit k = false
  | 0, _, k, n, o, h => by rw [h0] at h; cases h
  | i + 1, hi, k, n, o, hm => by
    have old : ¬ T.Hv i → (k, n, o) ∈ (T.S i).al → k < i + 1 ∧ (∃ g x, T.Lay k g x o) ∧ n = pa (b + k) ∧ ∀ k', k' < i + 1 → T.Hv k' → (T.D k').m.testBit k = false := by
      intro hn hm
      obtain ⟨q1, q2, q3, q4⟩ := al_mem h0 i (by omega) k n o hm
      refine ⟨by omega, q2, q3, fun k' hk' hv => ?_⟩
      have : k' ≠ i := fun e => hn (e ▸ hv)
      exact q4 k' (by omega) hv
    rcases T.kind (i := i) (by omega) with h | ⟨g, x, h⟩ | ⟨g, x, h⟩ | ⟨g, x, o', h⟩ | hh
    · rw [h.2] at hm; exact old (T.skip_hv h) hm
    · rw [h.2.2.2.2] at hm; exact old (T.look_hv h) hm
    · rw [h.2.2.2] at hm; exact old (T.plain_hv h) hm
    · have hn := T.lay_hv h
      have h2 := h
      rw [h.2.2.2] at hm
      cases hm with
      | head =>
        refine ⟨by omega, ⟨g, x, h2⟩, rfl, fun k' hk' hv => ?_⟩
        cases hb : (T.D k').m.testBit i with
        | false => rfl
        | true => have := T.bit_lt k' (by omega) i hb; omega
      | tail _ hm => exact old hn hm
    · have hh2 := hh
      obtain ⟨v', h', nx', sn', h⟩ := hh2
      rw [h.2.2.2.2] at hm
      obtain ⟨m1, m2⟩ := left_mem hm
      obtain ⟨q1, q2, q3, q4⟩ := al_mem h0 i (by omega) k n o m1
      refine ⟨by omega, q2, q3, fun k' hk' hv => ?_⟩
      by_cases e : k' = i
      · subst e; exact m2
      · exact q4 k' (by omega) hv
/-- Who wrote it last. -/
theorem wrote {t : Pa} {v : SV} : ∀ (i : Nat), i ≤ ops.size → Tr.get t (T.S i).f = some v → (∃ k, k < i ∧ (T.D k).d = some t ∧ Tr.get t (T.S (k + 1)).f = some v ∧ ∀ k', k < k' → k' < i → (T.D k').d ≠ some t) ∨ ((∀ k, k < i → (T.D k).d ≠ some t) ∧ Tr.get t (T.S 0).f = some v)
  | 0, _, h => .inr ⟨fun k hk => by omega, h⟩
  | i + 1, hi, h => by
    by_cases e : (T.D i).d = some t
    · exact .inl ⟨i, by omega, e, h, fun k' a b => by omega⟩
    · obtain ⟨u, hu⟩ := T.upd (i := i) (by omega)
      have h2 : Tr.get t (T.S i).f = some v := by
        rw [hu] at h
        cases hd : (T.D i).d with
        | none => rw [hd] at h; exact h
        | some p =>
          rw [hd] at h
          have hne : t ≠ p := fun e2 => e (by rw [hd, e2])
          have h3 : Tr.get t (Tr.set (some u) p (T.S i).f) = some v := h
          rw [Tr.get_set_ne _ _ _ _ hne] at h3; exact h3
      rcases wrote i (by omega) h2 with ⟨k, q1, q2, q3, q4⟩ | ⟨q1, q2⟩
      · refine .inl ⟨k, by omega, q2, q3, fun k' a b => ?_⟩
        by_cases e2 : k' = i
        · subst e2; exact e
        · exact q4 k' a (by omega)
      · refine .inr ⟨fun k hk => ?_, q2⟩
        by_cases e2 : k = i
        · subst e2; exact e
        · exact q1 k (by omega)
end Dr
end Go.Proofs.YtohikcchbjchkaaGreatDoor.Sx

/- The executor is sound: regions whose order is drawn: what holds when some have been done. -/
namespace Go.Proofs.YtohikcchbjchkaaGreatDoor.Sx
open Go
/-- As Sat, of a heap that is no tree. -/
structure SatP (c : Cx) (B : Nat) (ε : Env) (G : Pa → SO → Prop) (w : World) : Prop where
  obj : ∀ n o, G n o → ∃ x, ε n = some x ∧ ObjOk ε w x o ∧ (ownP c n = true → B ≤ x.b)
  sep : ∀ n m o o' x y, G n o → G m o' → n ≠ m → ownP c n = true → ε n = some x → ε m = some y → x.b ≠ y.b
theorem SatP.sat {c : Cx} {B : Nat} {ε : Env} {G : Pa → SO → Prop} {w : World} (hs : SatP c B ε G w) {h : Tr SO} (hg : ∀ n o, Tr.get n h = some o → G n o) : Sat c B ε h w :=
  ⟨fun n o hn => hs.obj n o (hg n o hn), fun n m o o' x y h1 h2 => hs.sep n m o o' x y (hg n o h1) (hg m o' h2)⟩
theorem dst_iff {sz : Nat} {o : Oper} {d : Option Pa} (h : dstT sz o = some d) {t : Nat} : (d = some (pa t) ↔ o.dst = some t) ∧ (o.dst = some t → t < sz) := by
  unfold dstT at h
  cases ho : o.dst with
  | none =>
    rw [ho] at h; cases h
    exact ⟨⟨fun h => (by cases h), fun h => (by cases h)⟩, fun h => (by cases h)⟩
  | some s =>
    rw [ho] at h
    obtain ⟨hlt, h⟩ := bif_t (show (bif Nat.blt s sz then some (some (pa s)) else none) = some d from h)
    cases h
    refine ⟨⟨fun h => ?_, fun h => (by cases h; rfl)⟩, fun h => (by cases h; exact Nat.blt_eq.mp hlt)⟩
    injection h with h
    rw [pa_inj h]
def add (L : Nat → Prop) (i : Nat) : Nat → Prop := fun k => L k ∨ k = i
namespace Dr
variable {c : Cx} {rec : Job → Out} {ops : Array Oper} {sz b : Nat} (T : Dr c rec ops sz b)
def Unp (s k : Nat) : Prop := ∀ k', k' < s → T.Hv k' → (T.D k').m.testBit k = false
def G (s : Nat) (L : Nat → Prop) (n : Pa) (o : SO) : Prop := Tr.get n (T.S s).h = some o ∨ ∃ k, L k ∧ T.Unp s k ∧ (∃ g x, T.Lay k g x o) ∧ n = pa (b + k)
def Cur (L : Nat → Prop) (t : Nat) (v : SV) : Prop :=
  (∃ k, k < ops.size ∧ L k ∧ (T.D k).d = some (pa t) ∧ Tr.get (pa t) (T.S (k + 1)).f = some v ∧ ∀ k', L k' → k < k' → (T.D k').d ≠ some (pa t)) ∨ ((∀ k, L k → (T.D k).d ≠ some (pa t)) ∧ Tr.get (pa t) (T.S 0).f = some v)
/-- What was done is a set that is closed. -/
structure Set' (L : Nat → Prop) (s : Nat) : Prop where
  lt : ∀ k, L k → k < ops.size
  closed : ∀ i, L i → ∀ k, (T.D i).m.testBit k = true → L k
  sle : s ≤ ops.size
  stage : ∀ k, k < ops.size → T.Hv k → (L k ↔ k < s)
  top : s = 0 ∨ ∃ k, s = k + 1 ∧ T.Hv k
structure Inv (B : Nat) (ε0 : Env) (h0 : Tr SO) (u0 : World) (df : List Deferred) (L : Nat → Prop) (s : Nat) (ε : Env) (a : Act) (w : World) : Prop extends T.Set' L s where
  cur : ∀ t v, T.Cur L t v → ∃ x, den ε v = some x ∧ a.tmps[t]? = some x
  size : sz ≤ a.tmps.size
  dfr : a.defers = df
  sat : SatP c B ε (T.G s L) w
  names : ∀ k, b ≤ k → ε (pa k) ≠ none → k < (T.S s).nx ∧ (k < b + ops.size → L (k - b))
  nx : b + ops.size ≤ (T.S s).nx
  env : ∀ n, (∀ k, b ≤ k → k < (T.S s).nx → n ≠ pa k) → ε n = ε0 n
  io : Io u0 w
  wsize : u0.heap.size ≤ w.heap.size
  keep : ∀ j, j < u0.heap.size → ¬ Own c ε0 h0 j → w.heap[j]? = u0.heap[j]?
  dom : ∀ n o, T.G s L n o → (∃ o', Tr.get n h0 = some o' ∧ ε n = ε0 n) ∨ ∃ k x, b ≤ k ∧ k < (T.S s).nx ∧ n = pa k ∧ ε n = some x ∧ (Own c ε0 h0 x.b ∨ u0.heap.size ≤ x.b)
  disj : ∀ k o, L k → T.Unp s k → (∃ g x, T.Lay k g x o) → Tr.get (pa (b + k)) (T.S s).h = none
section
variable {T} {L : Nat → Prop} {s i : Nat} {o : Oper}
theorem Set'.add_lt (h : T.Set' L s) (hi : i < ops.size) : ∀ k, add L i k → k < ops.size := fun k hk => hk.elim (h.lt k) fun e => e ▸ hi
theorem Set'.add_closed (h : T.Set' L s) (hm : ∀ k, (T.D i).m.testBit k = true → L k) : ∀ j, add L i j → ∀ k, (T.D j).m.testBit k = true → add L i k := fun j hj k hk =>
  hj.elim (fun h1 => .inl (h.closed j h1 k hk)) fun e => .inl (hm k (e ▸ hk))
/-- One that changes no memory. -/
theorem Set'.same (h : T.Set' L s) (hi : i < ops.size) (hm : ∀ k, (T.D i).m.testBit k = true → L k) (hn : ¬ T.Hv i) : T.Set' (add L i) s where
  lt := h.add_lt hi
  closed := h.add_closed hm
  sle := h.sle
  stage k hk hv := by
    have hne : k ≠ i := fun e => hn (e ▸ hv)
    constructor
    · rintro (h1 | h1)
      · exact (h.stage k hk hv).1 h1
      · exact absurd h1 hne
    · exact fun h1 => .inl ((h.stage k hk hv).2 h1)
  top := h.top
/-- Where a heavy one stands. -/
theorem Set'.heavy (h : T.Set' L s) (hi : i < ops.size) (hm : ∀ k, (T.D i).m.testBit k = true → L k) (hL : ¬ L i) (hv : T.Hv i) : s ≤ i ∧ (T.S i).h = (T.S s).h ∧ (T.S i).nx = (T.S s).nx ∧ T.Set' (add L i) (i + 1) := by
  have hsi : s ≤ i := by
    rcases h.top with e | ⟨k, e, hk⟩
    · omega
    · have hkL : L k := (h.stage k (by have := h.sle; omega) hk).2 (by omega)
      have hne : k ≠ i := fun e => hL (e ▸ hkL)
      rcases Nat.lt_or_ge k i with h1 | h1
      · omega
      · have hb := T.chain (h.lt k hkL) hk (by omega : i < k) hv
        exact absurd (h.closed k hkL i hb) hL
  have hbetween : ∀ k, s ≤ k → k < i → ¬ T.Hv k := fun k h1 h2 hk => by
    have := (h.stage k (by omega) hk).1 (hm k (T.chain hi hv h2 hk))
    omega
  obtain ⟨d, rfl⟩ : ∃ d, i = s + d := ⟨i - s, by omega⟩
  obtain ⟨f1, f2⟩ := T.flat d (by omega) hbetween
  refine ⟨hsi, f1, f2, ⟨h.add_lt hi, h.add_closed hm, by omega, fun k hk hvk => ?_, .inr ⟨s + d, rfl, hv⟩⟩⟩
  constructor
  · rintro (h1 | h1)
    · have := (h.stage k hk hvk).1 h1; omega
    · omega
  · intro h1
    by_cases e : k = s + d
    · exact .inr e
    · exact .inl (hm k (T.chain hi hv (by omega) hvk))
section
variable {B : Nat} {ε0 ε ε' : Env} {h0 : Tr SO} {u0 w w' : World} {df : List Deferred} {a : Act} {v : SV} {y : Value}
theorem Inv.cur_add (h : T.Inv B ε0 h0 u0 df L s ε a w) (ho : ops[i]? = some o) (hL : ¬ L i) (hu : (T.S (i + 1)).f = putD (T.S i).f (T.D i).d v) (hsub : Sub ε ε') (hy : den ε' v = some y) : ∀ t u, T.Cur (add L i) t u → ∃ x, den ε' u = some x ∧ (a.put o.dst y).tmps[t]? = some x := by
  have hi : i < ops.size := (Array.getElem?_eq_some_iff.1 ho).1
  obtain ⟨_, hd, _, _⟩ := T.cmp i o ho
  have old : ∀ t u, T.Cur L t u → (T.D i).d ≠ some (pa t) → ∃ x, den ε' u = some x ∧ (a.put o.dst y).tmps[t]? = some x := by
    intro t u hc hne
    obtain ⟨x, hx, ha⟩ := h.cur t u hc
    refine ⟨x, den_sub hsub _ hx, ?_⟩
    have hnd : o.dst ≠ some t := fun e => hne ((dst_iff hd).1.2 e)
    cases hod : o.dst with
    | none => exact ha
    | some t' =>
      have : t' ≠ t := fun e => hnd (by rw [hod, e])
      simp only [Act.put]
      rw [Array.getElem?_setIfInBounds_ne this]; exact ha
  intro t u hc
  rcases hc with ⟨k, hk, hLk, hdk, hg, hlast⟩ | ⟨hno, hg⟩
  · by_cases e : k = i
    · subst e
      rw [hu, hdk] at hg
      have hg' : Tr.get (pa t) (Tr.set (some v) (pa t) (T.S k).f) = some u := hg
      rw [Tr.get_set_same] at hg'; cases hg'
      have hod := (dst_iff hd).1.1 hdk
      have hlt := (dst_iff hd).2 hod
      refine ⟨y, hy, ?_⟩
      rw [hod]
      simp only [Act.put]
      rw [Array.getElem?_setIfInBounds_self_of_lt (Nat.lt_of_lt_of_le hlt h.size)]
    · have hLk' : L k := hLk.resolve_right e
      have hne : (T.D i).d ≠ some (pa t) := by
        intro hdi
        have hok : ops[k]? = some ops[k] := by simp [hk]
        obtain ⟨_, hdk', _, _⟩ := T.cmp k _ hok
        have hodk := (dst_iff hdk').1.1 hdk
        have hodi := (dst_iff hd).1.1 hdi
        rcases T.tmp i k o _ t (Ne.symm e) ho hok hodk (.inl hodi) with ⟨h1, _⟩ | ⟨h1, h2⟩
        · exact hlast i (.inr rfl) h1 hdi
        · exact hL (h.closed k hLk' i h2)
      exact old t u (.inl ⟨k, hk, hLk', hdk, hg, fun k' a b => hlast k' (.inl a) b⟩) hne
  · exact old t u (.inr ⟨fun k hk => hno k (.inl hk), hg⟩) (hno i (.inr rfl))
/-- What it looks at stands in the frame. -/
theorem Inv.frOk (h : T.Inv B ε0 h0 u0 df L s ε a w) (ho : ops[i]? = some o) (hL : ¬ L i) (hm : ∀ k, (T.D i).m.testBit k = true → L k) : FrOk ε (T.fr i) a.tmps := by
  have hi : i < ops.size := (Array.getElem?_eq_some_iff.1 ho).1
  obtain ⟨_, _, _, hsee⟩ := T.cmp i o ho
  intro t v hv
  rcases rst_get hv with ⟨h1, h2⟩ | h1
  · rw [hsee] at h1
    obtain ⟨t', ht', e⟩ := List.mem_map.1 h1
    have := pa_inj e; subst this
    have ord : ∀ k, k < ops.size → (T.D k).d = some (pa t') → k ≠ i → (k < i ∧ (T.D i).m.testBit k = true) ∨ (i < k ∧ (T.D k).m.testBit i = true) := by
      intro k hk hdk hne
      have hok : ops[k]? = some ops[k] := by simp [hk]
      obtain ⟨_, hdk', _, _⟩ := T.cmp k _ hok
      exact T.tmp i k o _ t' (Ne.symm hne) ho hok ((dst_iff hdk').1.1 hdk) (.inr ht')
    refine h.cur t' v ?_
    rcases T.wrote i (by omega) h2 with ⟨k, q1, q2, q3, q4⟩ | ⟨q1, q2⟩
    · have hkL : L k := by
        rcases ord k (by omega) q2 (by omega) with ⟨_, r⟩ | ⟨r, _⟩
        · exact hm k r
        · omega
      refine .inl ⟨k, by omega, hkL, q2, q3, fun k' hk' hlt e => ?_⟩
      by_cases e2 : k' = i
      · exact hL (e2 ▸ hk')
      · rcases ord k' (h.lt k' hk') e e2 with ⟨r, _⟩ | ⟨_, r⟩
        · exact q4 k' hlt r e
        · exact hL (h.closed k' hk' i r)
    · refine .inr ⟨fun k hk e => ?_, q2⟩
      by_cases e2 : k = i
      · exact hL (e2 ▸ hk)
      · rcases ord k (h.lt k hk) e e2 with ⟨r, _⟩ | ⟨_, r⟩
        · exact q1 k r e
        · exact hL (h.closed k hk i r)
  · rw [Tr.get_e] at h1; cases h1
theorem Inv.G_sub (_h : T.Inv B ε0 h0 u0 df L s ε a w) (hnl : ∀ g x ob, ¬ T.Lay i g x ob) {n : Pa} {ob : SO} (hg : T.G s (add L i) n ob) : T.G s L n ob := by
  rcases hg with h1 | ⟨k, hk, h2, ⟨g, x, h3⟩, h4⟩
  · exact .inl h1
  · rcases hk with hk | rfl
    · exact .inr ⟨k, hk, h2, ⟨g, x, h3⟩, h4⟩
    · exact absurd h3 (hnl g x ob)
/-- One more, that leaves memory as it was. -/
theorem Inv.same (h : T.Inv B ε0 h0 u0 df L s ε a w) (ho : ops[i]? = some o) (hL : ¬ L i) (hm : ∀ k, (T.D i).m.testBit k = true → L k) (hn : ¬ T.Hv i) (hnl : ∀ g x ob, ¬ T.Lay i g x ob) (hu : (T.S (i + 1)).f = putD (T.S i).f (T.D i).d v) (hy : den ε v = some y) :
    T.Inv B ε0 h0 u0 df (add L i) s ε (a.put o.dst y) w where
  toSet' := h.toSet'.same (Array.getElem?_eq_some_iff.1 ho).1 hm hn
  cur := h.cur_add ho hL hu (Sub.refl ε) hy
  size := by cases hd : o.dst <;> simp [Act.put] <;> exact h.size
  dfr := by cases hd : o.dst <;> simp [Act.put] <;> exact h.dfr
  sat := ⟨fun n ob hg => h.sat.obj n ob (h.G_sub hnl hg), fun n m p q x y h1 h2 => h.sat.sep n m p q x y (h.G_sub hnl h1) (h.G_sub hnl h2)⟩
  names k hk hne := ⟨(h.names k hk hne).1, fun hlt => .inl ((h.names k hk hne).2 hlt)⟩
  nx := h.nx
  env := h.env
  io := h.io
  wsize := h.wsize
  keep := h.keep
  dom n ob hg := h.dom n ob (h.G_sub hnl hg)
  disj k ob hk hu' hl := by
    rcases hk with hk | rfl
    · exact h.disj k ob hk hu' hl
    · obtain ⟨g, x, hl⟩ := hl; exact absurd hl (hnl g x ob)
theorem Inv.sub (h : T.Inv B ε0 h0 u0 df L s ε a w) (hf : FreshA ε0 b) : Sub ε0 ε := by
  intro n x hx
  rw [h.env n fun k h1 _ e => by rw [e, hf k h1] at hx; cases hx]; exact hx
theorem Inv.base {w0 : World} (h : T.Inv B ε0 h0 u0 df L s ε a w) (hs : Sat c B ε0 h0 u0) (hb : Base B w0 u0) : Base B w0 w where
  size := Nat.le_trans hb.size h.wsize
  keep j hj := (h.keep j (Nat.lt_of_lt_of_le hj hb.size) fun ⟨n, ob, x, h1, h2, h3, h4⟩ => by
    obtain ⟨y, h5, _, h6⟩ := hs.obj n ob h1
    rw [h3] at h5; cases h5
    have := h6 h2
    omega).trans (hb.keep j hj)
theorem Inv.none_i (h : T.Inv B ε0 h0 u0 df L s ε a w) (hi : i < ops.size) (hL : ¬ L i) : ε (pa (b + i)) = none := by
  cases e : ε (pa (b + i)) with
  | none => rfl
  | some x =>
    have := (h.names (b + i) (by omega) (by rw [e]; simp)).2 (by omega)
    rw [show b + i - b = i by omega] at this
    exact absurd this hL
/-- One more, that lays a block. -/
theorem Inv.lay {w0 : World} (h : T.Inv B ε0 h0 u0 df L s ε a w) (hs : Sat c B ε0 h0 u0) (hb : Base B w0 u0) (ho : ops[i]? = some o) (hL : ¬ L i) (hm : ∀ k, (T.D i).m.testBit k = true → L k) {g : LF} {ob : SO} (hlay : T.Lay i g v ob) {K : Nat} (hp : Push w w')
    (hy : den (put ε (pa (b + i)) ⟨w.heap.size, 0, K⟩) v = some y) (hob : ObjOk (put ε (pa (b + i)) ⟨w.heap.size, 0, K⟩) w' ⟨w.heap.size, 0, K⟩ ob) :
    T.Inv B ε0 h0 u0 df (add L i) s (put ε (pa (b + i)) ⟨w.heap.size, 0, K⟩) (a.put o.dst y) w' := by
  have hi : i < ops.size := (Array.getElem?_eq_some_iff.1 ho).1
  have hn := T.lay_hv hlay
  have hnone := h.none_i hi hL
  have hsub := put_sub ⟨w.heap.size, 0, K⟩ hnone
  have hB : B ≤ w.heap.size := (h.base hs hb).size
  have hlt : ∀ n q, T.G s L n q → n ≠ pa (b + i) ∧ ∀ y, ε n = some y → y.b < w.heap.size := by
    intro n q hg
    obtain ⟨x, hx, hox, _⟩ := h.sat.obj n q hg
    exact ⟨fun e => (by rw [e, hnone] at hx; cases hx), fun y hy => (by rw [hx] at hy; cases hy; exact hox.lt)⟩
  have hG : ∀ n q, T.G s (add L i) n q → T.G s L n q ∨ (n = pa (b + i) ∧ q = ob) := by
    intro n q hg
    rcases hg with h1 | ⟨k, hk, h2, ⟨g', x, h3⟩, h4⟩
    · exact .inl (.inl h1)
    · rcases hk with hk | rfl
      · exact .inl (.inr ⟨k, hk, h2, ⟨g', x, h3⟩, h4⟩)
      · refine .inr ⟨h4, ?_⟩
        have e1 := hlay.2.1; have e2 := h3.2.1
        rw [e1] at e2; cases e2
        have e3 := hlay.2.2.1; have e4 := h3.2.2.1
        rw [e3] at e4; cases e4; rfl
  refine { toSet' := h.toSet'.same hi hm hn, cur := h.cur_add ho hL (by rw [hlay.2.2.2]) hsub hy, size := by cases hd : o.dst <;> simp [Act.put] <;> exact h.size, dfr := by cases hd : o.dst <;> simp [Act.put] <;> exact h.dfr, sat := ⟨?_, ?_⟩, names := ?_, nx := h.nx, env := ?_, io := h.io.trans hp.io, wsize := by rw [hp.size]; have := h.wsize; omega, keep := ?_, dom := ?_, disj := ?_ }
  · intro n q hg
    rcases hG n q hg with h1 | ⟨rfl, rfl⟩
    · obtain ⟨x, hx, hox, hBx⟩ := h.sat.obj n q h1
      exact ⟨x, hsub _ _ hx, hox.keep hsub (hp.old _ hox.lt), hBx⟩
    · exact ⟨_, put_same _ _ _, hob, fun _ => hB⟩
  · intro n m q1 q2 x1 x2 h1 h2 hne ho1 hx1 hx2
    rcases hG n q1 h1 with h1 | ⟨rfl, rfl⟩
    · obtain ⟨e1, l1⟩ := hlt n q1 h1
      rw [put_ne _ _ e1] at hx1
      rcases hG m q2 h2 with h2 | ⟨rfl, rfl⟩
      · obtain ⟨e2, l2⟩ := hlt m q2 h2
        rw [put_ne _ _ e2] at hx2
        exact h.sat.sep n m q1 q2 x1 x2 h1 h2 hne ho1 hx1 hx2
      · rw [put_same] at hx2; cases hx2
        have := l1 x1 hx1
        dsimp only; omega
    · rw [put_same] at hx1; cases hx1
      rcases hG m q2 h2 with h2 | ⟨rfl, _⟩
      · obtain ⟨e2, l2⟩ := hlt m q2 h2
        rw [put_ne _ _ e2] at hx2
        have := l2 x2 hx2
        dsimp only; omega
      · exact absurd rfl hne
  · intro k hk hne
    by_cases e : k = b + i
    · subst e
      exact ⟨by have := h.nx; omega, fun _ => .inr (by omega)⟩
    · rw [put_ne _ _ (fun e2 => e (pa_inj e2))] at hne
      exact ⟨(h.names k hk hne).1, fun hlt => .inl ((h.names k hk hne).2 hlt)⟩
  · intro n hall
    rw [put_ne _ _ (hall (b + i) (by omega) (by have := h.nx; omega))]
    exact h.env n hall
  · intro j hj hno
    rw [hp.old j (by have := h.wsize; omega)]
    exact h.keep j hj hno
  · intro n q hg
    rcases hG n q hg with h1 | ⟨rfl, rfl⟩
    · obtain ⟨e1, l1⟩ := hlt n q h1
      rw [put_ne _ _ e1]
      exact h.dom n q h1
    · exact .inr ⟨b + i, _, by omega, by have := h.nx; omega, rfl, put_same _ _ _, .inr h.wsize⟩
  · intro k q hk hu' hl
    rcases hk with hk | rfl
    · exact h.disj k q hk hu' hl
    · cases e : Tr.get (pa (b + k)) (T.S s).h with
      | none => rfl
      | some q' => exact absurd rfl (hlt _ q' (.inl e)).1
end
end
end Dr
end Go.Proofs.YtohikcchbjchkaaGreatDoor.Sx

/- The executor is sound: regions whose order is drawn. -/
namespace Go.Proofs.YtohikcchbjchkaaGreatDoor.Sx
open Go
theorem least {p : Nat → Prop} : ∀ n, p n → ∃ k, k ≤ n ∧ p k ∧ ∀ j, j < k → ¬ p j := by
  intro n
  induction n using Nat.strongRecOn with
  | _ n ih =>
    intro hn
    by_cases h : ∃ j, j < n ∧ p j
    · obtain ⟨j, hj, hp⟩ := h
      obtain ⟨k, h1, h2, h3⟩ := ih j hj hp
      exact ⟨k, by omega, h2, h3⟩
    · exact ⟨n, Nat.le_refl _, hn, fun j hj hp => h ⟨j, hj, hp⟩⟩
namespace Dr
variable {c : Cx} {rec : Job → Out} {ops : Array Oper} {sz b : Nat} {T : Dr c rec ops sz b} {L : Nat → Prop} {s i : Nat} {o : Oper}
/-- One that looks sees at any time what it saw. -/
theorem Set'.look (h : T.Set' L s) (h0 : (T.S 0).hs = []) (hi : i < ops.size) (hm : ∀ k, (T.D i).m.testBit k = true → L k) (hL : ¬ L i) {g : LF} {x : SV} (hl : T.Look i g x) : g (T.S s).h [] (T.fr i) = .v x := by
  rcases Nat.lt_or_ge i s with hlt | hge
  · rcases h.top with e | ⟨k, e, hk⟩
    · omega
    · subst e
      have hks := h.sle
      have hkL : L k := (h.stage k (by omega) hk).2 (by omega)
      have hne : k ≠ i := fun e => hL (e ▸ hkL)
      have hbit : ∀ k', k' ≤ k → T.Hv k' → (T.D k').m.testBit i = false := by
        intro k' hk' hv
        cases e : (T.D k').m.testBit i with
        | false => rfl
        | true => exact absurd (h.closed k' ((h.stage k' (by omega) hv).2 (by omega)) i e) hL
      obtain ⟨d, e⟩ : ∃ d, k = i + 1 + d := ⟨k - (i + 1), by omega⟩
      have hmem := T.sn_mem hl d (by omega) fun k' a b hv => hbit k' (by omega) hv
      rw [← e] at hmem
      have hb := hbit k (Nat.le_refl _) hk
      obtain ⟨v', h', nx', sn', hw⟩ := hk
      have := (again_ok hw.2.2.2.1 _ hmem hb).1
      rw [hw.2.2.2.2]
      exact sees_ok this
  · by_cases hex : ∃ k, s ≤ k ∧ k < i ∧ T.Hv k
    · obtain ⟨k1, hk1⟩ := hex
      obtain ⟨k0, _, ⟨q1, q2, q3⟩, q4⟩ := least (p := fun k => s ≤ k ∧ k < i ∧ T.Hv k) k1 hk1
      obtain ⟨d, rfl⟩ : ∃ d, k0 = s + d := ⟨k0 - s, by omega⟩
      obtain ⟨f1, _⟩ := T.flat (s := s) d (by omega) fun k a b hv => q4 k b ⟨a, by omega, hv⟩
      rw [← f1]
      refine sees_ok (T.elder_ok h0 i (by omega) hl.2.2.2.1 (s + d) q2 q3 fun k' a b' hv => ?_)
      cases e : (T.D i).m.testBit k' with
      | false => rfl
      | true =>
        have := (h.stage k' (by omega) hv).1 (hm k' e)
        omega
    · obtain ⟨d, rfl⟩ : ∃ d, i = s + d := ⟨i - s, by omega⟩
      obtain ⟨f1, _⟩ := T.flat (s := s) d (by omega) fun k a b hv => hex ⟨k, a, b, hv⟩
      rw [← f1]; exact hl.2.2.1
section
variable {B : Nat} {ε0 ε ε' : Env} {h0 : Tr SO} {u0 w w' : World} {df : List Deferred} {a : Act} {v : SV} {y : Value}
theorem Inv.freshA (h : T.Inv B ε0 h0 u0 df L s ε a w) : FreshA ε (T.S s).nx := by
  intro k hk
  cases e : ε (pa k) with
  | none => rfl
  | some x =>
    have := (h.names k (by have := h.nx; omega) (by rw [e]; simp)).1
    omega
/-- One more, that is heavy. -/
theorem Inv.heavy (h : T.Inv B ε0 h0 u0 df L s ε a w) (hal : (T.S 0).al = []) (ho : ops[i]? = some o) (hL : ¬ L i) (hm : ∀ k, (T.D i).m.testBit k = true → L k) {h' : Tr SO} {nx' : Nat} {sn' : List Seen} (hv : T.HvW i v h' nx' sn')
    (g : Goes c ε (promo (T.D i).m (T.S i).al (T.S i).h) (T.S i).nx w ε' h' nx' w') (s2 : Sat c B ε' h' w') (hy : den ε' v = some y) :
    T.Inv B ε0 h0 u0 df (add L i) (i + 1) ε' (a.put o.dst y) w' := by
  have hi : i < ops.size := (Array.getElem?_eq_some_iff.1 ho).1
  have hh : T.Hv i := ⟨v, h', nx', sn', hv⟩
  obtain ⟨hsi, eh, en, hset⟩ := h.toSet'.heavy hi hm hL hh
  have hS1 : (T.S (i + 1)).h = h' := by rw [hv.2.2.2.2]
  have hS2 : (T.S (i + 1)).nx = nx' := by rw [hv.2.2.2.2]
  have hfr : FreshA ε (T.S i).nx := by rw [en]; exact h.freshA
  have hsub := g.sub (hfr.fresh _)
  have unpLe : ∀ {k}, T.Unp i k → T.Unp s k := fun hu k' hk' hv => hu k' (by omega) hv
  have subG : ∀ n q, Tr.get n (promo (T.D i).m (T.S i).al (T.S i).h) = some q → T.G s L n q := by
    intro n q hq
    rcases promo_get hq with ⟨k, h1, h2⟩ | h1
    · obtain ⟨q1, q2, q3, q4⟩ := T.al_mem hal i (by omega) k n q h1
      exact .inr ⟨k, hm k h2, unpLe q4, q2, q3⟩
    · rw [eh] at h1; exact .inl h1
  have extra : ∀ k, L k → T.Unp s k → (T.D i).m.testBit k = false → (∃ q g x, T.Lay k g x q) → Tr.get (pa (b + k)) (promo (T.D i).m (T.S i).al (T.S i).h) = none := by
    rintro k hk hu hb ⟨q, g, x, hl⟩
    cases e : Tr.get (pa (b + k)) (promo (T.D i).m (T.S i).al (T.S i).h) with
    | none => rfl
    | some q' =>
      rcases promo_get e with ⟨k2, h1, h2⟩ | h1
      · obtain ⟨_, _, q3, _⟩ := T.al_mem hal i (by omega) k2 _ q' h1
        have := pa_inj q3
        have e2 : k2 = k := by omega
        subst e2; rw [hb] at h2; cases h2
      · rw [eh, h.disj k q hk hu ⟨g, x, hl⟩] at h1; cases h1
  have hG : ∀ n q, T.G (i + 1) (add L i) n q → Tr.get n h' = some q ∨ ∃ k, L k ∧ T.Unp s k ∧ (T.D i).m.testBit k = false ∧ (∃ g x, T.Lay k g x q) ∧ n = pa (b + k) := by
    intro n q hg
    rcases hg with h1 | ⟨k, hk, h2, ⟨g', x, h3⟩, h4⟩
    · rw [hS1] at h1; exact .inl h1
    · rcases hk with hk | rfl
      · exact .inr ⟨k, hk, fun k' hk' hv => h2 k' (by omega) hv, h2 i (by omega) hh, ⟨g', x, h3⟩, h4⟩
      · exact absurd hh (T.lay_hv h3)
  -- what an extra one comes to
  have ex : ∀ n q k, L k → T.Unp s k → (T.D i).m.testBit k = false → (∃ g x, T.Lay k g x q) → n = pa (b + k) → T.G s L n q ∧ ε' n = ε n ∧ Tr.get n (promo (T.D i).m (T.S i).al (T.S i).h) = none := by
    rintro n q k hk hu hb ⟨g', x, hl⟩ rfl
    refine ⟨.inr ⟨k, hk, hu, ⟨g', x, hl⟩, rfl⟩, g.env _ fun j h1 h2 e => ?_, extra k hk hu hb ⟨q, g', x, hl⟩⟩
    have := pa_inj e
    have h3 := h.lt k hk
    have h4 := h.nx
    rw [en] at h1
    omega
  have ownApart : ∀ n q x j, T.G s L n q → Tr.get n (promo (T.D i).m (T.S i).al (T.S i).h) = none → ε n = some x → Own c ε (promo (T.D i).m (T.S i).al (T.S i).h) j → x.b ≠ j := by
    rintro n q x j hg hnone hx ⟨m, q2, x2, h1, h2, h3, h4⟩ e
    have hne : m ≠ n := fun e => by rw [e, hnone] at h1; cases h1
    exact h.sat.sep m n q2 q x2 x (subG m q2 h1) hg hne h2 h3 hx (by rw [h4, e])
  have ltw : ∀ n q x, T.G s L n q → ε n = some x → x.b < w.heap.size := by
    intro n q x hg hx
    obtain ⟨x', hx', hox, _⟩ := h.sat.obj n q hg
    rw [hx] at hx'; cases hx'; exact hox.lt
  have ownDom : ∀ j, Own c ε (promo (T.D i).m (T.S i).al (T.S i).h) j → Own c ε0 h0 j ∨ u0.heap.size ≤ j := by
    rintro j ⟨m, q2, x2, h1, h2, h3, h4⟩
    rcases h.dom m q2 (subG m q2 h1) with ⟨o', e1, e2⟩ | ⟨k, x, _, _, _, e1, e2⟩
    · exact .inl ⟨m, o', x2, e1, h2, by rw [← e2]; exact h3, h4⟩
    · rw [h3] at e1; cases e1; rw [← h4]; exact e2
  refine { toSet' := hset, cur := h.cur_add ho hL (by rw [hv.2.2.2.2]) hsub hy, size := by cases hd : o.dst <;> simp [Act.put] <;> exact h.size, dfr := by cases hd : o.dst <;> simp [Act.put] <;> exact h.dfr, sat := ⟨?_, ?_⟩, names := ?_, nx := ?_, env := ?_, io := h.io.trans g.io, wsize := Nat.le_trans h.wsize g.size, keep := ?_, dom := ?_, disj := ?_ }
  · intro n q hg
    rcases hG n q hg with h1 | ⟨k, k1, k2, k3, k4, k5⟩
    · exact s2.obj n q h1
    · obtain ⟨e1, e2, e3⟩ := ex n q k k1 k2 k3 k4 k5
      obtain ⟨x, hx, hox, hBx⟩ := h.sat.obj n q e1
      refine ⟨x, by rw [e2]; exact hx, hox.keep hsub (g.keep _ hox.lt fun hown => ownApart n q x _ e1 e3 hx hown rfl), hBx⟩
  · intro n m q1 q2 x1 x2 h1 h2 hne ho1 hx1 hx2
    -- apart: an extra one and one of the heap behind
    have apart : ∀ {n1 n2 p1 p2 y1 y2}, T.G s L n1 p1 → ε' n1 = ε n1 → Tr.get n1 (promo (T.D i).m (T.S i).al (T.S i).h) = none → Tr.get n2 h' = some p2 → n1 ≠ n2 → (ownP c n1 = true ∨ ownP c n2 = true) → ε' n1 = some y1 → ε' n2 = some y2 → y1.b ≠ y2.b := by
      intro n1 n2 p1 p2 y1 y2 a1 a2 a3 a4 a5 a6 a7 a8
      rw [a2] at a7
      rcases g.dom n2 p2 a4 with ⟨p', d1, d2⟩ | ⟨k, z, _, _, _, d1, d2⟩
      · rw [d2] at a8
        rcases a6 with a6 | a6
        · exact h.sat.sep n1 n2 p1 p' y1 y2 a1 (subG n2 p' d1) a5 a6 a7 a8
        · exact (h.sat.sep n2 n1 p' p1 y2 y1 (subG n2 p' d1) a1 (Ne.symm a5) a6 a8 a7).symm
      · rw [a8] at d1; cases d1
        rcases d2 with d2 | d2
        · exact ownApart n1 p1 y1 _ a1 a3 a7 d2
        · have := ltw n1 p1 y1 a1 a7; omega
    rcases hG n q1 h1 with h1 | ⟨k, k1, k2, k3, k4, k5⟩
    · rcases hG m q2 h2 with h2 | ⟨l, l1, l2, l3, l4, l5⟩
      · exact s2.sep n m q1 q2 x1 x2 h1 h2 hne ho1 hx1 hx2
      · obtain ⟨e1, e2, e3⟩ := ex m q2 l l1 l2 l3 l4 l5
        exact (apart e1 e2 e3 h1 (Ne.symm hne) (.inr ho1) hx2 hx1).symm
    · obtain ⟨e1, e2, e3⟩ := ex n q1 k k1 k2 k3 k4 k5
      rcases hG m q2 h2 with h2 | ⟨l, l1, l2, l3, l4, l5⟩
      · exact apart e1 e2 e3 h2 hne (.inl ho1) hx1 hx2
      · obtain ⟨f1, f2, f3⟩ := ex m q2 l l1 l2 l3 l4 l5
        rw [e2] at hx1; rw [f2] at hx2
        exact h.sat.sep n m q1 q2 x1 x2 e1 f1 hne ho1 hx1 hx2
  · intro k hk hne
    rw [hS2]
    have hle := g.le
    refine ⟨?_, fun hlt => ?_⟩
    · rcases Nat.lt_or_ge k nx' with h1 | h1
      · exact h1
      · exact absurd (g.freshA hfr k h1) hne
    · have : ε' (pa k) = ε (pa k) := g.env _ fun j h1 h2 e => by
        have := pa_inj e
        have h4 := h.nx
        rw [en] at h1
        omega
      rw [this] at hne
      exact .inl ((h.names k hk hne).2 hlt)
  · rw [hS2]; have := h.nx; have := g.le; rw [en] at this; omega
  · intro n hall
    rw [hS2] at hall
    have hle := g.le
    rw [g.env n fun k h1 h2 => hall k (by have := h.nx; rw [en] at h1; omega) h2]
    exact h.env n fun k h1 h2 => hall k h1 (by rw [en] at hle; omega)
  · intro j hj hno
    rw [g.keep j (by have := h.wsize; omega) fun hown => by
      rcases ownDom j hown with e | e
      · exact hno e
      · omega]
    exact h.keep j hj hno
  · intro n q hg
    rw [hS2]
    have hle := g.le
    rw [en] at hle
    have wide : ∀ {n q}, T.G s L n q → ε' n = ε n → (∃ o', Tr.get n h0 = some o' ∧ ε' n = ε0 n) ∨ ∃ k x, b ≤ k ∧ k < nx' ∧ n = pa k ∧ ε' n = some x ∧ (Own c ε0 h0 x.b ∨ u0.heap.size ≤ x.b) := by
      intro n q hg e
      rcases h.dom n q hg with ⟨o', e1, e2⟩ | ⟨k, x, k1, k2, k3, e1, e2⟩
      · exact .inl ⟨o', e1, e.trans e2⟩
      · exact .inr ⟨k, x, k1, by omega, k3, e.trans e1, e2⟩
    rcases hG n q hg with h1 | ⟨k, k1, k2, k3, k4, k5⟩
    · rcases g.dom n q h1 with ⟨p', d1, d2⟩ | ⟨k, z, z1, z2, z3, d1, d2⟩
      · exact wide (subG n p' d1) d2
      · refine .inr ⟨k, z, by have := h.nx; rw [en] at z1; omega, z2, z3, d1, ?_⟩
        rcases d2 with d2 | d2
        · exact ownDom _ d2
        · exact .inr (Nat.le_trans h.wsize d2)
    · obtain ⟨e1, e2, _⟩ := ex n q k k1 k2 k3 k4 k5
      exact wide e1 e2
  · intro k q hk hu hl
    rw [hS1]
    rcases hk with hk | rfl
    · cases e : Tr.get (pa (b + k)) h' with
      | none => rfl
      | some q' =>
        obtain ⟨e1, e2, e3⟩ := ex (pa (b + k)) q k hk (fun k' hk' hv => hu k' (by omega) hv) (hu i (by omega) hh) hl rfl
        rcases g.dom _ q' e with ⟨p', d1, _⟩ | ⟨j, z, z1, z2, z3, _⟩
        · rw [e3] at d1; cases d1
        · have := pa_inj z3
          have h3 := h.lt k hk
          have h4 := h.nx
          rw [en] at z1
          omega
    · obtain ⟨g', x, hl⟩ := hl
      exact absurd hh (T.lay_hv hl)
end
end Dr
end Go.Proofs.YtohikcchbjchkaaGreatDoor.Sx

/- The executor is sound. -/
namespace Go.Proofs.YtohikcchbjchkaaGreatDoor.Sx
open Go
section
variable {P : Program} {c : Cx} {B : Nat} {w0 : World}
theorem sat_e {c : Cx} {B : Nat} {ε : Env} {w : World} : Sat c B ε .e w := ⟨fun n o h => (by rw [Tr.get_e] at h; cases h), fun n m o o' x y h => (by rw [Tr.get_e] at h; cases h)⟩
theorem light_op {x : Op} {k : Bool} {g : LF} (h : compI c x = some (.l k g)) : compL c x = some (k, g) ∧ ∀ cl, x ≠ .defer cl := by
  rcases compI_inv h with ⟨k', g', e, h1, h2⟩ | ⟨g', e, _⟩ | ⟨_, _, _, _, e, _⟩ | ⟨_, _, _, _, e, _⟩ | ⟨_, _, e, _⟩
  · cases e; exact ⟨h1, h2⟩
  · cases e
  · cases e
  · cases e
  · cases e
theorem draw_any (hP : POk P c) {rec : Job → Out} {ops : Array Oper} {sz b : Nat} (T : Dr c rec ops sz b) (hal : (T.S 0).al = []) (hhs : (T.S 0).hs = []) {F : Fence} (hF : Free F) {ε0 : Env} {h0 : Tr SO} {u0 : World} {df : List Deferred} (hpre : Pre c B w0 ε0 h0 b u0) {Q : Exit → Act → World → Prop}
    (N : Nat → Prop) (hN : ∀ i, N i → T.Hv i)
    (hvy : ∀ (i : Nat) (o : Oper), ops[i]? = some o → ∀ (v : SV) (h' : Tr SO) (nx' : Nat) (sn' : List Seen), T.HvW i v h' nx' sn' → ∀ (s : Nat) (ε : Env) (a : Act) (w : World) (L : Nat → Prop), T.Inv B ε0 h0 u0 df L s ε a w → ¬ L i → (∀ k, (T.D i).m.testBit k = true → L k) →
      Pre c B w0 ε (promo (T.D i).m (T.S i).al (T.S i).h) (T.S i).nx w → FrOk ε (T.fr i) a.tmps → ∀ {K : Act → World → Prop}, (¬ N i → Behind c B ε (promo (T.D i).m (T.S i).al (T.S i).h) (T.S i).nx w a o v h' nx' K) → o.wpIn F 0 P a w K Q)
    (hQ : ∀ s ε a w L, T.Inv B ε0 h0 u0 df L s ε a w → (∀ k, k < ops.size → L k) → (∀ k, N k → ¬ L k) → Q .normal a w) :
    ∀ (fuel : Nat) (listed : Array Bool) (U : List Nat) (s : Nat) (ε : Env) (a : Act) (w : World), listed.size = ops.size → U.length ≤ fuel → (∀ k, k < ops.size → listed.getD k false = false → k ∈ U) → (∀ k, N k → ¬ (listed.getD k false = true)) → T.Inv B ε0 h0 u0 df (fun k => listed.getD k false = true) s ε a w → wpAnyIn F 0 P .any ops Q fuel listed a w := by
  intro fuel
  have full : ∀ (listed : Array Bool), listed.size = ops.size → Region.ready .any ops listed = [] → ∀ k, k < ops.size → listed.getD k false = true := by
    intro listed hsz hr k
    induction k using Nat.strongRecOn with
    | _ k ih =>
      intro hk
      cases e : listed.getD k false with
      | true => rfl
      | false =>
        have ho : ops[k]? = some ops[k] := by simp [hk]
        have hmem : k ∈ Region.ready .any ops listed := by
          rw [mem_ready]
          refine ⟨?_, ops[k], ho, fun e' he hb => ih e'.on (T.edge k _ ho e' he hb) (by have := T.edge k _ ho e' he hb; omega)⟩
          have hlt : k < listed.size := by omega
          simp [hlt] at e ⊢
          exact e
        rw [hr] at hmem; cases hmem
  induction fuel with
  | zero =>
    intro listed U s ε a w hsz hU hall hNl hinv
    have hU0 : U = [] := List.eq_nil_of_length_eq_zero (by omega)
    have hfull : ∀ k, k < ops.size → listed.getD k false = true := by
      intro k hk
      cases e : listed.getD k false with
      | true => rfl
      | false => have := hall k hk e; rw [hU0] at this; cases this
    refine ⟨?_, hQ s ε a w _ hinv hfull hNl⟩
    cases hr : Region.ready .any ops listed with
    | nil => rfl
    | cons j js =>
      have hj : j ∈ Region.ready .any ops listed := by rw [hr]; exact List.mem_cons_self
      obtain ⟨h1, o, ho, _⟩ := mem_ready.1 hj
      have hlt : j < ops.size := (Array.getElem?_eq_some_iff.1 ho).1
      have h2 := hfull j hlt
      have hlt2 : j < listed.size := by omega
      simp [hlt2] at h1 h2
      rw [h1] at h2; cases h2
  | succ fuel ih =>
    intro listed U s ε a w hsz hU hall hNl hinv
    refine ⟨fun hr => hQ s ε a w _ hinv (full listed hsz hr) hNl, fun i hi => ?_⟩
    obtain ⟨hun, o, ho, hready⟩ := mem_ready.1 hi
    have hlt : i < ops.size := (Array.getElem?_eq_some_iff.1 ho).1
    have hlt2 : i < listed.size := by omega
    have hL : ¬ (listed.getD i false = true) := by
      simp [hlt2] at hun ⊢
      exact hun
    have hm : ∀ k, (T.D i).m.testBit k = true → listed.getD k false = true := by
      intro k hk
      obtain ⟨e, he, hb, hor⟩ := T.ahead i o ho k hk
      rcases hor with rfl | hor
      · exact hready e he hb
      · exact hinv.closed e.on (hready e he hb) k hor
    have hset : (fun k => (listed.setIfInBounds i true).getD k false = true) = add (fun k => listed.getD k false = true) i := by
      funext k
      apply propext
      by_cases e : k = i
      · subst e
        simp [add, hlt2]
      · rw [getD_set_ne false (Ne.symm e)]
        simp [add, e]
    have next : ¬ N i → ∀ {s' ε' a' w'}, T.Inv B ε0 h0 u0 df (add (fun k => listed.getD k false = true) i) s' ε' a' w' → wpAnyIn F 0 P .any ops Q fuel (listed.setIfInBounds i true) a' w' := by
      intro hNi s' ε' a' w' hinv'
      have hiU : i ∈ U := hall i hlt (by simpa using hL)
      refine ih (listed.setIfInBounds i true) (U.erase i) s' ε' a' w' (by simp [hsz]) (by rw [List.length_erase_of_mem hiU]; omega) (fun k hk hkf => ?_) (fun k hk hkt => ?_) (by rw [hset]; exact hinv')
      case refine_2 =>
        by_cases e : k = i
        · subst e; exact hNi hk
        · rw [getD_set_ne false (Ne.symm e)] at hkt
          exact hNl k hk hkt
      by_cases e : k = i
      · subst e; simp [hlt2] at hkf
      · rw [getD_set_ne false (Ne.symm e)] at hkf
        exact (List.mem_erase_of_ne e).2 (hall k hk hkf)
    have hfr := hinv.frOk ho hL hm
    obtain ⟨hg, hd, hc, _⟩ := T.cmp i o ho
    have hwant : ∀ {bb}, passed (T.fr i) (T.D i).gd = some bb → Region.wanted o (yielded ops a.tmps) = !bb := fun hp => passed_ok (a := a) (ε := ε) hg (fun p _ v hv t e => hfr t v (by rw [← e]; exact hv)) hp
    have henv : GEnv c ε := hpre.env.sub (hinv.sub hpre.fresh)
    have hbase := hinv.base hpre.sat hpre.base
    have hrunL : ∀ {y : Value} {w' : World}, (∀ cl, o.op ≠ .defer cl) → (execOp a.eval o).run P w = .ok (.value y) w' → wpAnyIn F 0 P .any ops Q fuel (listed.setIfInBounds i true) (a.put o.dst y) w' → o.wpIn F 0 P a w (wpAnyIn F 0 P .any ops Q fuel (listed.setIfInBounds i true)) Q := by
      intro y w' hnd hr hk
      refine ⟨fun f _ => hF.fn f, ?_⟩
      rw [Oper.semAt_eq _ _ _ hnd, hr, Oper.uponIn_value]
      exact hk
    unfold wpOpIn
    rw [ho]
    dsimp only
    rcases T.kind hlt with hk | ⟨g, x, hk⟩ | ⟨g, x, hk⟩ | ⟨g, x, ob, hk⟩ | ⟨v, h', nx', sn', hk⟩
    · rw [hwant hk.1]
      refine ⟨fun f _ => hF.fn f, next (fun hn => T.skip_hv hk (hN i hn)) (hinv.same ho hL hm (T.skip_hv hk) (fun g x ob hl => ?_) (by rw [hk.2]) (v := .tup []) (y := undef) rfl)⟩
      have := hl.1; rw [hk.1] at this; cases this
    · rw [hwant hk.1]
      show o.wpIn F 0 P a w _ Q
      rw [hk.2.1] at hc
      obtain ⟨hcl, hnd⟩ := light_op hc
      have hl := compL_ok hP hcl B ε (T.S s).h [] (T.fr i) a w o rfl (hinv.sat.sat fun n q hq => .inl hq) hfr henv
      rw [hinv.toSet'.look hhs hlt hm hL hk] at hl
      obtain ⟨y, hy, hr⟩ := hl
      refine hrunL hnd hr (next (fun hn => T.look_hv hk (hN i hn)) (hinv.same ho hL hm (T.look_hv hk) (fun g' x' ob hl => ?_) (by rw [hk.2.2.2.2]) hy))
      have h1 := hl.2.1; rw [hk.2.1] at h1; cases h1
    · rw [hwant hk.1]
      show o.wpIn F 0 P a w _ Q
      rw [hk.2.1] at hc
      obtain ⟨hcl, hnd⟩ := light_op hc
      have hl := compL_ok hP hcl B ε .e (pa (b + i)) (T.fr i) a w o rfl sat_e hfr henv
      rw [hk.2.2.1] at hl
      obtain ⟨y, hy, hr⟩ := hl
      refine hrunL hnd hr (next (fun hn => T.plain_hv hk (hN i hn)) (hinv.same ho hL hm (T.plain_hv hk) (fun g' x' ob hl => ?_) (by rw [hk.2.2.2]) hy))
      have h1 := hl.2.1; rw [hk.2.1] at h1; cases h1
      have h2 := hl.2.2.1; rw [hk.2.2.1] at h2; cases h2
    · rw [hwant hk.1]
      show o.wpIn F 0 P a w _ Q
      have hc2 := hc
      rw [hk.2.1] at hc2
      obtain ⟨hcl, hnd⟩ := light_op hc2
      have hl := compL_ok hP hcl B ε .e (pa (b + i)) (T.fr i) a w o rfl sat_e hfr henv
      rw [hk.2.2.1] at hl
      obtain ⟨y, w', K, hr, hpush, hy, hob⟩ := hl (hinv.none_i hlt hL)
      exact hrunL hnd hr (next (fun hn => T.lay_hv hk (hN i hn)) (hinv.lay hpre.sat hpre.base ho hL hm hk hpush hy hob))
    · rw [hwant hk.1]
      show o.wpIn F 0 P a w _ Q
      obtain ⟨hsi, eh, en, _⟩ := hinv.toSet'.heavy hlt hm hL ⟨v, h', nx', sn', hk⟩
      have hsat : Sat c B ε (promo (T.D i).m (T.S i).al (T.S i).h) w := hinv.sat.sat fun n q hq => by
        rcases promo_get hq with ⟨k, h1, h2⟩ | h1
        · obtain ⟨q1, q2, q3, q4⟩ := T.al_mem hal i (by omega) k n q h1
          exact .inr ⟨k, hm k h2, fun k' hk' hv => q4 k' (by omega) hv, q2, q3⟩
        · rw [eh] at h1; exact .inl h1
      refine hvy i o ho v h' nx' sn' hk s ε a w _ hinv hL hm ⟨hsat, hbase, henv, by rw [en]; exact hinv.freshA⟩ hfr fun hNi ε' y w' e1 e2 e3 => ?_
      exact next hNi (hinv.heavy hal ho hL hm hk e2 e3 e1)
theorem draw_ok (hP : POk P c) {rec : Job → Out} (hS : Sound P c B w0 rec) {id : Nat} {ops : Array Oper} {sz : Nat} {l : List DIns} {ms : List Nat} {ε : Env} {f : Tr SV} {ds : List Df} {h : Tr SO} {nx : Nat} {w : World} {a : Act} {F : Fence} (hm : masks [] ops.toList = some ms) (ht : tmpOk ops.toList ms ops.toList 0 = true) (hc : compD c sz ops.toList ops.toList ms = some l) (hnb : ∀ wd, xDraw rec l f ds h nx ≠ .bad wd)
    (hF : Free F) (hp : Pre c B w0 ε h nx w) (hf : FrOk ε f a.tmps) (hsz : sz ≤ a.tmps.size) (hd : DfOk ε ds a.defers) : (Code.region id ops true).wpIn F 0 P (CodeQ c B ε h nx w sz (xDraw rec l f ds h nx)) a w := by
  unfold xDraw at hnb ⊢
  cases hr : drawOps rec nx l 0 ⟨f, h, [], 0, [], [], nx + l.length⟩ with
  | bad wd => rw [hr] at hnb; exact absurd rfl (hnb wd)
  | ok s' =>
    dsimp only
    have hlen : l.length = ops.size := by rw [(compD_spec hc).1]; simp
    obtain ⟨T, hT0, hTN, _⟩ := Dr.mk' (sz := sz) hm ht hc hr
    refine wpIn_region_any hP.mixed ?_
    have hu : Pre c B w0 ε h nx { w with drawn := w.drawn + 1 } := ⟨hp.sat.heap rfl, ⟨hp.base.size, hp.base.keep⟩, hp.env, hp.fresh⟩
    have hno : ∀ k, ¬ ((Array.replicate ops.size false).getD k false = true) := by
      intro k
      by_cases hk : k < ops.size <;> simp [hk]
    refine draw_any hP T (by rw [hT0]) (by rw [hT0]) hF (df := a.defers) hu (fun _ => False) (fun _ h => h.elim) (fun i o ho v h' nx' sn' hk _ _ _ _ _ _ _ _ hpr hfr _ hK => heavy_ok hP hS hF (T.cmp i o ho).2.2.1 hpr hfr hk.2.2.1 (hK (fun h => h))) ?_ ops.size (Array.replicate ops.size false) (List.range ops.size) 0 ε a { w with drawn := w.drawn + 1 } (by simp) (by simp) (fun k hk _ => List.mem_range.2 hk) (fun _ h => h.elim) ?_
    · intro s ε' a' w' L hinv hall _
      have hfl : (T.S ops.size).h = (T.S s).h ∧ (T.S ops.size).nx = (T.S s).nx := by
        obtain ⟨d, hd'⟩ : ∃ d, ops.size = s + d := ⟨ops.size - s, by have := hinv.sle; omega⟩
        rw [hd']
        refine T.flat d (by omega) fun k a b hv => ?_
        have := (hinv.stage k (by omega) hv).1 (hall k (by omega))
        omega
      have hgets : ∀ n q, Tr.get n (promoA s'.al s'.h) = some q → T.G s L n q := by
        intro n q hq
        rw [← hTN] at hq
        rcases promoA_get hq with ⟨k, h1⟩ | h1
        · obtain ⟨q1, q2, q3, q4⟩ := T.al_mem (by rw [hT0]) ops.size (Nat.le_refl _) k n q h1
          exact .inr ⟨k, hall k q1, fun k' hk' hv => q4 k' (by have := hinv.sle; omega) hv, q2, q3⟩
        · rw [hfl.1] at h1; exact .inl h1
      have hnx : s'.nx = (T.S s).nx := by rw [← hTN]; exact hfl.2
      refine ⟨s'.f, ds, promoA s'.al s'.h, s'.nx, ε', .go, ?_, hinv.size, by rw [hinv.dfr]; exact hd.sub (hinv.sub hp.fresh), ?_, hinv.sat.sat hgets⟩
      · intro t v hv
        rw [← hTN] at hv
        refine hinv.cur t v ?_
        rcases T.wrote ops.size (Nat.le_refl _) hv with ⟨k, q1, q2, q3, q4⟩ | ⟨q1, q2⟩
        · exact .inl ⟨k, q1, hall k q1, q2, q3, fun k' hk' hlt => q4 k' hlt (hinv.lt k' hk')⟩
        · exact .inr ⟨fun k hk => q1 k (hinv.lt k hk), q2⟩
      · refine ⟨by rw [hnx]; have := hinv.nx; omega, fun n hn => hinv.env n (by rw [← hnx]; exact hn), hinv.io, hinv.wsize, fun j hj hno => hinv.keep j hj hno, fun n q hq => ?_⟩
        rw [hnx]
        exact hinv.dom n q (hgets n q hq)
    · have hG : ∀ n q, T.G 0 (fun k => (Array.replicate ops.size false).getD k false = true) n q → Tr.get n h = some q := by
        intro n q hg
        rcases hg with h1 | ⟨k, hk, _⟩
        · rw [hT0] at h1; exact h1
        · exact absurd hk (hno k)
      refine { lt := fun k hk => absurd hk (hno k), closed := fun k hk => absurd hk (hno k), sle := Nat.zero_le _, stage := fun k _ _ => ⟨fun hk => absurd hk (hno k), fun hk => by omega⟩, top := .inl rfl, cur := ?_, size := hsz, dfr := rfl, sat := ⟨fun n q hq => hu.sat.obj n q (hG n q hq), fun n m p q x y h1 h2 => hu.sat.sep n m p q x y (hG n p h1) (hG m q h2)⟩, names := ?_, nx := ?_, env := fun _ _ => rfl, io := ⟨rfl, rfl⟩, wsize := Nat.le_refl _, keep := fun _ _ _ => rfl, dom := fun n q hq => .inl ⟨q, hG n q hq, rfl⟩, disj := fun k o hk => absurd hk (hno k) }
      · intro t v hc'
        rcases hc' with ⟨k, _, hk, _⟩ | ⟨_, hg⟩
        · exact absurd hk (hno k)
        · rw [hT0] at hg; exact hf t v hg
      · intro k hk hne
        exact absurd (hp.fresh k hk) hne
      · rw [hT0]; show nx + ops.size ≤ nx + l.length; omega
  | pan t f0 s' =>
    dsimp only
    obtain ⟨hcalm, hlast⟩ := ops_pan hr
    have hlen : l.length = ops.size := by rw [(compD_spec hc).1]; simp
    obtain ⟨T, hT0, hTN, hTD⟩ := Dr.mk' (sz := sz) hm ht hc hcalm
    obtain ⟨hst, D0, hl0, hm0, hpan⟩ := hlast T.S hT0 (fun j D hj => by
      have hlt : j < ops.size := by rw [← hlen]; exact (List.getElem?_eq_some_iff.1 hj).1
      rw [hTD j hlt] at hj; cases hj
      have := T.stp j hlt
      rw [Nat.zero_add]; exact this)
    have hn0 : 0 < ops.size := by
      rw [← hlen]
      cases l with
      | nil => cases hl0
      | cons _ _ => simp
    have hD0 : D0 = T.D (ops.size - 1) := by
      rw [hlen, hTD _ (by omega)] at hl0; exact (Option.some.inj hl0).symm
    subst hD0
    rw [hlen, Nat.zero_add] at hm0 hpan
    rw [Nat.zero_add, hTN] at hpan
    refine wpIn_region_any hP.mixed ?_
    have hu : Pre c B w0 ε h nx { w with drawn := w.drawn + 1 } := ⟨hp.sat.heap rfl, ⟨hp.base.size, hp.base.keep⟩, hp.env, hp.fresh⟩
    have hno : ∀ k, ¬ ((Array.replicate ops.size false).getD k false = true) := by
      intro k
      by_cases hk : k < ops.size <;> simp [hk]
    have fin : ∀ {s : Nat} {ε' : Env} {a' : Act} {w' : World} {L : Nat → Prop}, T.Inv B ε h { w with drawn := w.drawn + 1 } a.defers L s ε' a' w' → (∀ k, k < ops.size → L k) → Goes c ε h nx w ε' (promoA s'.al s'.h) s'.nx w' ∧ Sat c B ε' (promoA s'.al s'.h) w' := by
      intro s ε' a' w' L hinv hall
      have hfl : (T.S ops.size).h = (T.S s).h ∧ (T.S ops.size).nx = (T.S s).nx := by
        obtain ⟨d, hd'⟩ : ∃ d, ops.size = s + d := ⟨ops.size - s, by have := hinv.sle; omega⟩
        rw [hd']
        refine T.flat d (by omega) fun k a b hv => ?_
        have := (hinv.stage k (by omega) hv).1 (hall k (by omega))
        omega
      have hgets : ∀ n q, Tr.get n (promoA s'.al s'.h) = some q → T.G s L n q := by
        intro n q hq
        rw [← hTN] at hq
        rcases promoA_get hq with ⟨k, h1⟩ | h1
        · obtain ⟨q1, q2, q3, q4⟩ := T.al_mem (by rw [hT0]) ops.size (Nat.le_refl _) k n q h1
          exact .inr ⟨k, hall k q1, fun k' hk' hv => q4 k' (by have := hinv.sle; omega) hv, q2, q3⟩
        · rw [hfl.1] at h1; exact .inl h1
      have hnx : s'.nx = (T.S s).nx := by rw [← hTN]; exact hfl.2
      refine ⟨⟨by rw [hnx]; have := hinv.nx; omega, fun n hn => hinv.env n (by rw [← hnx]; exact hn), hinv.io, hinv.wsize, fun j hj hno => hinv.keep j hj hno, fun n q hq => ?_⟩, hinv.sat.sat hgets⟩
      rw [hnx]
      exact hinv.dom n q (hgets n q hq)
    obtain ⟨hf0, _, hpz, _, _, _, _, hvp⟩ := step_calm.2 _ _ _ hpan
    refine draw_any hP T (by rw [hT0]) (by rw [hT0]) hF (df := a.defers) hu (fun k => k = ops.size - 1) (fun i e => ?_) (fun i o ho v h' nx' sn' hk s ε' a' w' L hinv hL hmL hpr hfr K hK => ?_) ?_ ops.size (Array.replicate ops.size false) (List.range ops.size) 0 ε a { w with drawn := w.drawn + 1 } (by simp) (by simp) (fun k hk _ => List.mem_range.2 hk) (fun k _ => hno k) ?_
    · subst e
      have hcv := (heavy_calm (rec := rec)).2 _ _ _ _ _ hvp
      have hkd := T.kind (i := ops.size - 1) (by omega)
      have e0 : heavy (calm rec) (T.fr (ops.size - 1)) (promo (T.D (ops.size - 1)).m (T.S (ops.size - 1)).al (T.S (ops.size - 1)).h) (T.S (ops.size - 1)).nx (T.D (ops.size - 1)).op = _ := hcv
      rcases hkd with hk | ⟨g, x, hk⟩ | ⟨g, x, hk⟩ | ⟨g, x, ob, hk⟩ | hk
      · have h1 := hk.1
        have h2 : passed (T.fr (ops.size - 1)) (T.D (ops.size - 1)).gd = some false := hpz
        rw [h1] at h2; cases h2
      · rw [hk.2.1] at e0; cases e0
      · rw [hk.2.1] at e0; cases e0
      · rw [hk.2.1] at e0; cases e0
      · exact hk
    · by_cases hi : i + 1 < ops.size
      · have h1 := hst i (T.D i) (hTD i (by omega)) (by rw [hlen]; exact hi)
        rw [Nat.zero_add] at h1
        exact heavy_ok hP hS hF (T.cmp i o ho).2.2.1 hpr hfr (step_heavy h1 hk.1 hk.2.2.1) (hK (by omega))
      · have hilt : i < ops.size := (Array.getElem?_eq_some_iff.1 ho).1
        obtain rfl : i = ops.size - 1 := by omega
        have hcv := (heavy_calm (rec := rec)).2 _ _ _ _ _ hvp
        have hcv2 := hk.2.2.1
        have e0 : heavy (calm rec) (T.fr (ops.size - 1)) (promo (T.D (ops.size - 1)).m (T.S (ops.size - 1)).al (T.S (ops.size - 1)).h) (T.S (ops.size - 1)).nx (T.D (ops.size - 1)).op = _ := hcv
        rw [e0] at hcv2
        cases hcv2
        refine heavy_gen hP hS hF (T.cmp _ o ho).2.2.1 hpr hfr hvp (.inr ⟨_, _, _, _, _, rfl⟩) (fun _ _ _ e => by cases e) (fun t2 f2 d2 h2 n2 e ε1 w1 g1 s1 => ?_)
        cases e
        have hall : ∀ k, k < ops.size → add L (ops.size - 1) k := by
          intro k hk'
          by_cases e : k = ops.size - 1
          · exact .inr e
          · refine .inl (hmL k ?_)
            rw [hm0, Nat.testBit_two_pow_sub_one]
            simp; omega
        have hinv2 := hinv.heavy (by rw [hT0]) ho hL hmL hk g1 s1 (y := .tuple #[]) rfl
        obtain ⟨r1, r2⟩ := fin hinv2 hall
        refine ⟨f0, ds, promoA s'.al s'.h, s'.nx, ε1, .pan, ?_, hinv.size, by rw [hinv.dfr]; exact hd.sub (r1.sub (hp.fresh.fresh _)), r1, r2⟩
        rw [hf0]
        intro t v hv
        have hcur : ∃ x, den ε' v = some x ∧ a'.tmps[t]? = some x := by
          refine hinv.cur t v ?_
          rcases T.wrote (ops.size - 1) (by omega) hv with ⟨k, q1, q2, q3, q4⟩ | ⟨q1, q2⟩
          · refine .inl ⟨k, by omega, (hall k (by omega)).resolve_right (by omega), q2, q3, fun k' hk' hlt => q4 k' hlt ?_⟩
            have h1 := hinv.lt k' hk'
            have h2 : k' ≠ ops.size - 1 := fun e => hL (e ▸ hk')
            omega
          · refine .inr ⟨fun k hk' => q1 k ?_, q2⟩
            have h1 := hinv.lt k hk'
            have h2 : k ≠ ops.size - 1 := fun e => hL (e ▸ hk')
            omega
        obtain ⟨x, e1, e2⟩ := hcur
        exact ⟨x, den_sub (g1.sub (hpr.fresh.fresh _)) _ e1, e2⟩
    · intro s ε' a' w' L hinv hall hNL
      exact absurd (hall _ (by omega)) (hNL (ops.size - 1) rfl)
    · have hG : ∀ n q, T.G 0 (fun k => (Array.replicate ops.size false).getD k false = true) n q → Tr.get n h = some q := by
        intro n q hg
        rcases hg with h1 | ⟨k, hk, _⟩
        · rw [hT0] at h1; exact h1
        · exact absurd hk (hno k)
      refine { lt := fun k hk => absurd hk (hno k), closed := fun k hk => absurd hk (hno k), sle := Nat.zero_le _, stage := fun k _ _ => ⟨fun hk => absurd hk (hno k), fun hk => by omega⟩, top := .inl rfl, cur := ?_, size := hsz, dfr := rfl, sat := ⟨fun n q hq => hu.sat.obj n q (hG n q hq), fun n m p q x y h1 h2 => hu.sat.sep n m p q x y (hG n p h1) (hG m q h2)⟩, names := ?_, nx := ?_, env := fun _ _ => rfl, io := ⟨rfl, rfl⟩, wsize := Nat.le_refl _, keep := fun _ _ _ => rfl, dom := fun n q hq => .inl ⟨q, hG n q hq, rfl⟩, disj := fun k o hk => absurd hk (hno k) }
      · intro t v hc'
        rcases hc' with ⟨k, _, hk, _⟩ | ⟨_, hg⟩
        · exact absurd hk (hno k)
        · rw [hT0] at hg; exact hf t v hg
      · intro k hk hne
        exact absurd (hp.fresh k hk) hne
      · rw [hT0]; show nx + ops.size ≤ nx + l.length; omega
/-- One step more. -/
theorem step_sound (hP : POk P c) (hF : FOk P c) (hM : MemoOk P c B w0) {rec : Job → Out} (hS : Sound P c B w0 rec) : Sound P c B w0 (xStep c rec) := by
  intro j
  by_cases hb : ∃ wd, xStep c rec j = .bad wd
  · exact .inl hb
  · have hnb : ∀ wd, xStep c rec j ≠ .bad wd := fun wd e => hb ⟨wd, e⟩
    refine .inr ?_
    cases j with
    | code ro cd f ds h nx =>
      intro sz code ε w a F hcd hro hp hf hsz hd
      subst hcd
      exact code_ok hP hS (fun h1 h2 h3 h4 h5 h6 h7 h8 h9 => draw_ok hP hS h1 h2 h3 h4 h5 h6 h7 h8 h9) (fun h1 h2 h3 h4 h5 h6 h7 h8 => rf_ok hP hS h1 h2 h3 h4 h5 h6 h7 h8) code hnb hro hp hf hsz hd
    | call k args h nx =>
      intro ε w vs hp ha
      exact call_ok hP hF hM hS hnb hp ha
    | round l args h nx =>
      intro ε w vs x hp ha hx
      exact round_ok hP hS hnb hp ha hx
    | dcall k args h nx =>
      intro ε w vs hp ha
      exact dcall_ok hP hF hS hnb hp ha
    | scope ro b0 cd f ds h nx =>
      intro sz x r ε w a F h0 h1 hro hp hf hsz hd
      subst h0; subst h1
      exact scope_ok hS hnb hro hp hf hsz hd
/-- The executor is sound. -/
theorem exec_sound (hP : POk P c) (hF : FOk P c) (hM : MemoOk P c B w0) : ∀ g, Sound P c B w0 (exec c g)
  | 0 => fun _ => .inl ⟨_, rfl⟩
  | g + 1 => step_sound hP hF hM (exec_sound hP hF hM g)
end
end Go.Proofs.YtohikcchbjchkaaGreatDoor.Sx

/- What is read off a program's text does not hang on the tables of functions. -/
namespace Go.Proofs.YtohikcchbjchkaaGreatDoor.Sx
open Go
theorem compF_tabs (c : Cx) (F : Tr IFn) (X : Tr Xk) (M : Tr (List SV → Option SV)) (V : Tr Nat) : compF { c with fn := F, ext := X, memo := M, rcv := V } = compF c := by kernel_rfl
/-- A program's functions. -/
noncomputable def fnsT (c : Cx) : List Func → Nat → Tr IFn → Tr IFn
  | [], _, t => t
  | f :: l, k, t => fnsT c l (k + 1) (Tr.set (compF c k f) (pa k) t)
theorem fnsT_get (c : Cx) : ∀ (l : List Func) (k : Nat) (t : Tr IFn) (i : Nat), Tr.get (pa i) (fnsT c l k t) = if k ≤ i ∧ i < k + l.length then (l[i - k]?).bind (compF c i) else Tr.get (pa i) t
  | [], k, t, i => by
    rw [if_neg (by simp)]; rfl
  | x :: l, k, t, i => by
    show Tr.get (pa i) (fnsT c l (k + 1) (Tr.set (compF c k x) (pa k) t)) = _
    rw [fnsT_get c l (k + 1) _ i]
    by_cases h : i = k
    · subst h
      rw [if_neg (by omega), if_pos (by simp), Tr.get_set_same]; simp
    · rw [Tr.get_set_ne _ _ _ _ (fun e => h (pa_inj e))]
      by_cases h2 : k ≤ i ∧ i < k + (x :: l).length
      · rw [if_pos h2, if_pos (by simp at h2; omega)]
        obtain ⟨d, rfl⟩ : ∃ d, i = k + 1 + d := ⟨i - (k + 1), by omega⟩
        rw [show k + 1 + d - (k + 1) = d by omega, show k + 1 + d - k = d + 1 by omega]; rfl
      · rw [if_neg h2, if_neg (by simp at h2 ⊢; omega)]
/-- A program's tables, read. -/
noncomputable def cxOf (P : Program) : Cx := { ty := Tr.ofList P.types.toList 0 .e, fn := .e, ext := .e, memo := .e, rcv := .e, ng := P.globals.size, ro := P.globals.size, lies := fun e n o u => liesAt P P.depth e (n / P.cellsOf e) o u 1, eqok := fun t => !(P.eqGuardType P.depth t) && !(P.stoodInHeld t), cmpok := fun t => ((P.info? t).map (·.comparable)).getD false }
theorem cxOf_ok {P : Program} (hm : P.follows .mixedOrders = true) (F : Tr IFn) (X : Tr Xk) (M : Tr (List SV → Option SV)) (V : Tr Nat) : POk P { cxOf P with fn := F, ext := X, memo := M, rcv := V } where
  ty t i h := by
    have h' : Tr.get (pa t) (Tr.ofList P.types.toList 0 .e) = some i := h
    rw [Tr.get_ofList] at h'
    split at h'
    · have h2 : P.types[t]? = some i := by simpa using h'
      have hlt : t < P.types.size := (Array.getElem?_eq_some_iff.1 h2).1
      unfold Tables.info?
      rw [if_pos hlt]; exact h2
    · rw [Tr.get_e] at h'; cases h'
  eqok t h := by
    have h' : (!(P.eqGuardType P.depth t) && !(P.stoodInHeld t)) = true := h
    simpa using h'
  cmpok t h := by
    have h' : ((P.info? t).map (·.comparable)).getD false = true := h
    cases e : P.info? t with
    | none => rw [e] at h'; cases h'
    | some i => rw [e] at h'; exact ⟨i, rfl, h'⟩
  lies _ _ _ _ h := h
  mixed := hm
end Go.Proofs.YtohikcchbjchkaaGreatDoor.Sx

/- The start of a run: a program's tables, the memory at the door, calls that were run before. -/
namespace Go.Proofs.YtohikcchbjchkaaGreatDoor.Sx
open Go

noncomputable def cxT (P : Program) (X : Tr Xk) (M : Tr (List SV → Option SV)) (V : Tr Nat := .e) : Cx := { cxOf P with fn := fnsT (cxOf P) P.funcs.toList 0 .e, ext := X, memo := M, rcv := V }
theorem cxT_ok {P : Program} (hm : P.follows .mixedOrders = true) (X : Tr Xk) (M : Tr (List SV → Option SV)) (V : Tr Nat := .e) : POk P (cxT P X M V) := cxOf_ok hm _ _ _ _

/-! ### Functions without a body -/
def BodyLess (P : Program) (k : Nat) (e : Array Value → Sem Value) : Prop := ∃ F, P.funcs[k]? = some F ∧ (F.name == "runtime.NumGoroutine") = false ∧ F.body.isNone = true ∧ Extern.findNext F = none ∧ Extern.find F = some e
def ExtIs (P : Program) (k : Nat) : Xk → Prop
  | .noEsc => BodyLess P k Extern.AbiNoEscape.same
  | .idxB => BodyLess P k Extern.BytealgIndexByte.indexByte
  | .cntB => BodyLess P k Extern.BytealgCount.count
  | .cmpS => BodyLess P k Extern.BytealgCompare.compare
  | .mclone => BodyLess P k Extern.MapsClone.clone
  | .mkNZ e => ∃ ps t, P.underlying t = some (.slice e) ∧ BodyLess P k (Extern.BytealgMakeNoZero.makeNoZero ps #[t])
theorem denL_two {ε : Env} {a b : SV} {vs : List Value} (h : denL ε [a, b] = some vs) : ∃ x y, den ε a = some x ∧ den ε b = some y ∧ vs = [x, y] := by
  unfold denL at h
  obtain ⟨x, hx, h⟩ := Option.bind_eq_some_iff.1 h
  obtain ⟨l, hl, h⟩ := Option.bind_eq_some_iff.1 h
  unfold denL at hl
  obtain ⟨y, hy, hl⟩ := Option.bind_eq_some_iff.1 hl
  obtain ⟨m, hm, hl⟩ := Option.bind_eq_some_iff.1 hl
  unfold denL at hm
  cases hm; cases hl; cases h
  exact ⟨x, y, hx, hy, rfl⟩
theorem denL_one {ε : Env} {a : SV} {vs : List Value} (h : denL ε [a] = some vs) : ∃ x, den ε a = some x ∧ vs = [x] := by
  unfold denL at h
  obtain ⟨x, hx, h⟩ := Option.bind_eq_some_iff.1 h
  obtain ⟨l, hl, h⟩ := Option.bind_eq_some_iff.1 h
  unfold denL at hl
  cases hl; cases h
  exact ⟨x, hx, rfl⟩
theorem asByteV_eq {v : SV} {b : Nat} (h : asByteV v = some b) : v = .int .u8 (.ofNat b) ∧ b < 256 := by
  unfold asByteV at h
  split at h
  · rename_i n
    cases hb : Nat.blt n 256 with
    | true =>
      rw [hb] at h; cases h
      exact ⟨rfl, by simpa using hb⟩
    | false => rw [hb] at h; cases h
  · cases h
theorem indexB_find (b : Nat) (hb : b < 256) : ∀ (pre l : List UInt8), indexB b l pre.length = ((List.range' pre.length l.length).find? fun (i : Nat) => (pre ++ l)[i]! == b.toUInt8)
  | pre, [] => by simp [indexB]
  | pre, x :: l => by
    have ih := indexB_find b hb (pre ++ [x]) l
    have hx : (pre ++ x :: l)[pre.length]! = x := by simp
    rw [List.length_cons, List.range'_succ, List.find?_cons]
    show (bif Nat.beq x.toNat b then some pre.length else indexB b l (pre.length + 1)) = _
    rw [hx]
    cases e : Nat.beq x.toNat b with
    | true =>
      have e2 := Nat.eq_of_beq_eq_true e
      have : (x == b.toUInt8) = true := by
        rw [beq_iff_eq]
        apply UInt8.toNat_inj.1
        rw [e2]; simp [Nat.toUInt8, Nat.mod_eq_of_lt hb]
      rw [this]; rfl
    | false =>
      have : (x == b.toUInt8) = false := by
        cases hh : (x == b.toUInt8) with
        | false => rfl
        | true =>
          rw [beq_iff_eq] at hh
          subst hh
          have : (b.toUInt8).toNat = b := by simp [Nat.toUInt8, Nat.mod_eq_of_lt hb]
          rw [this, Nat.beq_refl] at e; cases e
      rw [this]
      simp only [List.length_append, List.length_cons, List.length_nil, Nat.zero_add, List.append_assoc, List.cons_append, List.nil_append] at ih
      exact ih
theorem firstIdx_eq (s : List UInt8) (b : Nat) (hb : b < 256) : firstIdx ⟨s.toArray⟩ b.toUInt8 = match indexB b s 0 with
    | some i => Int.ofNat i
    | none => -1 := by
  have h := indexB_find b hb [] s
  have h' : indexB b s 0 = _ := h
  rw [h']
  unfold firstIdx
  have e1 : (⟨s.toArray⟩ : ByteArray).size = s.length := rfl
  rw [e1, List.range_eq_range']
  have e2 : (fun (i : Nat) => (⟨s.toArray⟩ : ByteArray)[i]! == b.toUInt8) = fun (i : Nat) => ([] ++ s)[i]! == b.toUInt8 := by
    funext i
    congr 1
    by_cases hi : i < s.length
    · have h1 : i < (⟨s.toArray⟩ : ByteArray).size := hi
      rw [getElem!_pos (⟨s.toArray⟩ : ByteArray) i h1, getElem!_pos ([] ++ s) i (by simpa using hi)]
      rfl
    · have h1 : ¬ i < (⟨s.toArray⟩ : ByteArray).size := hi
      rw [getElem!_neg (⟨s.toArray⟩ : ByteArray) i h1, getElem!_neg ([] ++ s) i (by simpa using hi)]
  rw [e2]; rfl
theorem countB_eq (b : Nat) (hb : b < 256) : ∀ s : List UInt8, countB b s = Lib.countByte s b.toUInt8
  | [] => rfl
  | x :: l => by
    show (bif Nat.beq x.toNat b then countB b l + 1 else countB b l) = List.count b.toUInt8 (x :: l)
    rw [countB_eq b hb l, List.count_cons]
    have hbb : (b.toUInt8).toNat = b := by simp [Nat.toUInt8, Nat.mod_eq_of_lt hb]
    cases e : Nat.beq x.toNat b with
    | true =>
      have e2 := Nat.eq_of_beq_eq_true e
      have : (x == b.toUInt8) = true := by rw [beq_iff_eq]; apply UInt8.toNat_inj.1; rw [e2, hbb]
      rw [this]; rfl
    | false =>
      have : (x == b.toUInt8) = false := by
        cases hh : (x == b.toUInt8) with
        | false => rfl
        | true => rw [beq_iff_eq] at hh; rw [hh, hbb, Nat.beq_refl] at e; cases e
      rw [this]; rfl
theorem cmpS_eq : ∀ a b : List UInt8, (bif ltB a b then (-1 : Int) else bif ltB b a then 1 else 0) = Lib.compareBytes a b
  | [], [] => rfl
  | [], _ :: _ => rfl
  | _ :: _, [] => rfl
  | x :: a, y :: b => by
    have ih := cmpS_eq a b
    show (bif (bif Nat.blt x.toNat y.toNat then true else bif Nat.beq x.toNat y.toNat then ltB a b else false) then (-1 : Int) else bif (bif Nat.blt y.toNat x.toNat then true else bif Nat.beq y.toNat x.toNat then ltB b a else false) then 1 else 0) = if x < y then -1 else if y < x then 1 else Lib.compareBytes a b
    by_cases h1 : x.toNat < y.toNat
    · have e1 : Nat.blt x.toNat y.toNat = true := by simpa using h1
      have e2 : x < y := UInt8.lt_iff_toNat_lt.2 h1
      rw [e1, if_pos e2]; rfl
    · have e1 : Nat.blt x.toNat y.toNat = false := by
        cases hh : Nat.blt x.toNat y.toNat with
        | false => rfl
        | true => exact absurd (by simpa using hh) h1
      have e2 : ¬ x < y := fun h => h1 (UInt8.lt_iff_toNat_lt.1 h)
      by_cases h2 : y.toNat < x.toNat
      · have e3 : Nat.blt y.toNat x.toNat = true := by simpa using h2
        have e4 : y < x := UInt8.lt_iff_toNat_lt.2 h2
        have e5 : Nat.beq x.toNat y.toNat = false := by
          cases hh : Nat.beq x.toNat y.toNat with
          | false => rfl
          | true => have := Nat.eq_of_beq_eq_true hh; omega
        rw [e1, e3, e5, if_neg e2, if_pos e4]; rfl
      · have e3 : Nat.blt y.toNat x.toNat = false := by
          cases hh : Nat.blt y.toNat x.toNat with
          | false => rfl
          | true => exact absurd (by simpa using hh) h2
        have e4 : ¬ y < x := fun h => h2 (UInt8.lt_iff_toNat_lt.1 h)
        have e6 : x.toNat = y.toNat := by omega
        rw [e1, e3, e6, Nat.beq_refl, if_neg e2, if_neg e4]
        exact ih
theorem clone_run {P : Program} {w : World} {r : Nat} {es : Array MapEntry} {clock : Nat} (t : TypeId) (hb : w.heap[r]? = some (.map es clock)) :
    (Extern.MapsClone.clone #[.iface t (.map (some r))]).run P w = .ok (.iface t (.map (some w.heap.size))) { w with heap := w.heap.push (.map es clock) } := by
  have e : Extern.MapsClone.clone #[.iface t (.map (some r))] = (getObj r >>= fun o => match o with
      | .map entries clock => (newObj (.map entries clock) >>= fun n => pure (.iface t (.map (some n))))
      | _ => stuck "maps.clone: a map expected") := rfl
  rw [e]
  simp only [Sem.run_bind, run_getObj (P := P) hb (by simp), Result.andThen_ok]
  simp [newObj, Sem.run]
theorem ext_ok {P : Program} {c : Cx} {k : Nat} {x : Xk} (hx : ExtIs P k x) {B : Nat} {ε : Env} {args : List SV} {vs : List Value} {h h' : Tr SO} {nx nx' : Nat} {v : SV} {w : World} (hs : Sat c B ε h w) (hB : B ≤ w.heap.size) (hfr : FreshA ε nx) (ha : denL ε args = some vs) (hv : extV x args h nx = some (v, h', nx')) :
    ∃ ε' y w', den ε' v = some y ∧ (callFunc k vs.toArray).run P w = .ok (.value y) w' ∧ Goes c ε h nx w ε' h' nx' w' ∧ Sat c B ε' h' w' := by
  have hn : ε (pa nx) = none := hfr nx (Nat.le_refl _)
  cases x with
  | noEsc =>
    obtain ⟨F, h1, h2, h3, h4, h5⟩ := hx
    unfold extV at hv
    dsimp only at hv
    split at hv
    · cases hv
      obtain ⟨y, hy, rfl⟩ := denL_one ha
      exact ⟨ε, y, w, hy, by rw [run_callFunc_extern h1 h2 h3 h4 h5]; rfl, Goes.refl _ _ _ _ _, hs⟩
    · cases hv
  | idxB =>
    obtain ⟨F, h1, h2, h3, h4, h5⟩ := hx
    unfold extV at hv
    dsimp only at hv
    split at hv
    · obtain ⟨b, hb, hv2⟩ := Option.bind_eq_some_iff.1 hv
      clear hv
      obtain ⟨rfl, hlt⟩ := asByteV_eq hb
      cases hv2
      obtain ⟨y1, y2, e1, e2, rfl⟩ := denL_two ha
      cases e1; cases e2
      rename_i s
      refine ⟨ε, _, w, rfl, ?_, Goes.refl _ _ _ _ _, hs⟩
      rw [run_callFunc_extern h1 h2 h3 h4 h5]
      have hr := run_indexByte_string (P := P) ⟨s.toArray⟩ (Int.ofNat b) w
      rw [show (Int.ofNat b).toNat.toUInt8 = b.toUInt8 from rfl, firstIdx_eq s b hlt] at hr
      show ((Extern.BytealgIndexByte.indexByte #[.string ⟨s.toArray⟩, .int .u8 (Int.ofNat b)]).run P w).andThen _ = _
      rw [hr]; rfl
    · cases hv
  | cntB =>
    obtain ⟨F, h1, h2, h3, h4, h5⟩ := hx
    unfold extV at hv
    dsimp only at hv
    split at hv
    · obtain ⟨b, hb, hv2⟩ := Option.bind_eq_some_iff.1 hv
      clear hv
      obtain ⟨rfl, hlt⟩ := asByteV_eq hb
      cases hv2
      obtain ⟨y1, y2, e1, e2, rfl⟩ := denL_two ha
      cases e1; cases e2
      rename_i s
      refine ⟨ε, _, w, rfl, ?_, Goes.refl _ _ _ _ _, hs⟩
      rw [run_callFunc_extern h1 h2 h3 h4 h5]
      have hr := Lib.run_countString (P := P) ⟨s.toArray⟩ (Int.ofNat b) w
      rw [show (Int.ofNat b).toNat.toUInt8 = b.toUInt8 from rfl] at hr
      show ((Extern.BytealgCount.count #[.string ⟨s.toArray⟩, .int .u8 (Int.ofNat b)]).run P w).andThen _ = _
      rw [hr, countB_eq b hlt s]; rfl
    · cases hv
  | cmpS =>
    obtain ⟨F, h1, h2, h3, h4, h5⟩ := hx
    unfold extV at hv
    dsimp only at hv
    split at hv
    · rename_i a b
      cases hv
      obtain ⟨y1, y2, e1, e2, rfl⟩ := denL_two ha
      cases e1; cases e2
      refine ⟨ε, _, w, rfl, ?_, Goes.refl _ _ _ _ _, hs⟩
      rw [run_callFunc_extern h1 h2 h3 h4 h5]
      have hr := Lib.run_compareString (P := P) ⟨a.toArray⟩ ⟨b.toArray⟩ w
      show ((Extern.BytealgCompare.compare #[.string ⟨a.toArray⟩, .string ⟨b.toArray⟩]).run P w).andThen _ = _
      rw [hr, cmpS_eq a b]; rfl
    · cases hv
  | mclone =>
    obtain ⟨F, h1, h2, h3, h4, h5⟩ := hx
    unfold extV at hv
    dsimp only at hv
    split at hv
    · rename_i t n
      obtain ⟨ob, hob, hv⟩ := Option.bind_eq_some_iff.1 hv
      cases ob <;> try cases hv
      rename_i es clock
      obtain ⟨y, hy, rfl⟩ := denL_one ha
      unfold den at hy
      obtain ⟨z, hz, hy⟩ := Option.bind_eq_some_iff.1 hy
      cases hy
      obtain ⟨bl, hbl, rfl⟩ := den_map hz
      obtain ⟨ma, hw, hent⟩ := map_at hs hob hbl
      obtain ⟨g1, g2⟩ := sat_new (K := 0) (o := .map es clock) hs hB hn (Push.of (w' := { w with heap := w.heap.push (.map ma clock) }) rfl) ⟨ma, by simp, hent.sub (put_sub _ hn)⟩
      refine ⟨_, .iface t (.map (some w.heap.size)), _, ?_, ?_, g2, g1⟩
      · unfold den
        rw [show den (put ε (pa nx) ⟨w.heap.size, 0, 0⟩) (.map (pa nx)) = some (.map (some w.heap.size)) from by unfold den; rw [put_same]; rfl]
        rfl
      · rw [run_callFunc_extern h1 h2 h3 h4 h5]
        show ((Extern.MapsClone.clone #[.iface t (.map (some bl.b))]).run P w).andThen _ = _
        rw [clone_run t hw]; rfl
    · cases hv
  | mkNZ e =>
    obtain ⟨ps, t, ht, F, h1, h2, h3, h4, h5⟩ := hx
    unfold extV at hv
    dsimp only at hv
    split at hv
    · rename_i n
      obtain ⟨hle, hv⟩ := bif_t hv
      cases hv
      have hle' := Nat.le_of_ble_eq_true hle
      obtain ⟨y, hy, rfl⟩ := denL_one ha
      cases hy
      obtain ⟨cs, hr, hcs, _, _⟩ := Go.Lib.run_makeNoZero_cap (P := P) w ps t e ht n (by omega)
      obtain ⟨g1, g2, g3⟩ := fresh_cells (vs := []) (xs := []) (zs := cs.toList) (e := e) (s := 1) (K := cs.size) (all := n) (w' := w.drew.drew.alloc (.cells cs e)) hs hB hn rfl (by show w.heap.push (Obj.cells cs e) = w.heap.push (.cells ([] ++ cs.toList).toArray e); rw [List.nil_append, Array.toArray_toList]) (by simp) hcs (some 0)
      refine ⟨_, _, _, g3, ?_, g2, g1⟩
      rw [run_callFunc_extern h1 h2 h3 h4 h5]
      show ((Extern.BytealgMakeNoZero.makeNoZero ps #[t] #[.int .i64 (n : Int)]).run P w).andThen _ = _
      rw [hr]; rfl
    · cases hv
theorem cxT_fn {P : Program} {X : Tr Xk} {M : Tr (List SV → Option SV)} {V : Tr Nat} {k : Nat} {fn : IFn} (h : Tr.get (pa k) (cxT P X M V).fn = some fn) : ∃ F, P.funcs[k]? = some F ∧ compF (cxOf P) k F = some fn := by
  have h' : Tr.get (pa k) (fnsT (cxOf P) P.funcs.toList 0 .e) = some fn := h
  rw [fnsT_get] at h'
  split at h'
  · obtain ⟨F, hF, hc⟩ := Option.bind_eq_some_iff.1 h'
    exact ⟨F, by simpa using hF, hc⟩
  · rw [Tr.get_e] at h'; cases h'
theorem cxT_fok {P : Program} (hn : (P.funcs.toList.all fun F => !(F.name == "runtime.NumGoroutine")) = true) {X : Tr Xk} (hx : ∀ k x, Tr.get (pa k) X = some x → ExtIs P k x) (M : Tr (List SV → Option SV)) {V : Tr Nat} (hv : ∀ k t, Tr.get (pa k) V = some t → Rcv P k t) : FOk P (cxT P X M V) where
  rcv k t h := hv k t h
  fn k fn h := by
    obtain ⟨F, h1, h2⟩ := cxT_fn h
    refine ⟨F, h1, ?_, ?_⟩
    · have hm : F ∈ P.funcs.toList := by simpa using Array.mem_of_getElem? h1
      simpa using List.all_eq_true.1 hn F hm
    · have e := congrFun (congrFun (compF_tabs (cxOf P) (fnsT (cxOf P) P.funcs.toList 0 .e) X M V) k) F
      exact e.trans h2
  ext k x _ hX B ε args vs h nx v h' nx' w hs hB hfr ha hv := ext_ok (hx k x hX) hs hB hfr ha hv

/-! ### The memory at the door -/
/-- The package variables' names, and no other. -/
def env0 (ng : Nat) : Env := fun n => if n = pa (paN n) ∧ paN n < ng then some ⟨paN n, 0, 0⟩ else none
theorem env0_lt {ng g : Nat} (h : g < ng) : env0 ng (pa g) = some ⟨g, 0, 0⟩ := by
  unfold env0
  rw [paN_pa, if_pos ⟨rfl, h⟩]
theorem env0_ge {ng g : Nat} (h : ng ≤ g) : env0 ng (pa g) = none := by
  unfold env0
  rw [paN_pa, if_neg (by omega)]
/-- What is known of the package variables. -/
def Laid (H : Tr SO) (ng : Nat) (w : World) : Prop := ∀ n o, Tr.get n H = some o → ∃ g, g < ng ∧ n = pa g ∧ ObjOk (env0 ng) w ⟨g, 0, 0⟩ o
theorem not_own {c : Cx} {H : Tr SO} {ng : Nat} {w : World} (hc : c.ro = ng) (hl : Laid H ng w) {n : Pa} {o : SO} (h : Tr.get n H = some o) : ownP c n = false := by
  obtain ⟨g, hg, rfl, _⟩ := hl n o h
  unfold ownP
  rw [hc, paN_pa]
  cases e : Nat.ble ng g with
  | false => rfl
  | true => have := Nat.le_of_ble_eq_true e; omega
theorem pre_start {c : Cx} {H : Tr SO} {ng B : Nat} {w0 w : World} (h1 : c.ng = ng) (h2 : c.ro = ng) (hl : Laid H ng w0) (hb : Base B w0 w) (hng : ng ≤ B) : Pre c B w0 (env0 ng) H ng w where
  sat := by
    refine ⟨fun n o h => ?_, fun n m o o' x y h _ _ ho => ?_⟩
    · obtain ⟨g, hg, e, hob⟩ := hl n o h
      refine ⟨⟨g, 0, 0⟩, by rw [e]; exact env0_lt hg, hob.keep (Sub.refl _) (hb.keep g (by omega)), fun ho => ?_⟩
      rw [not_own h2 hl h] at ho; cases ho
    · rw [not_own h2 hl h] at ho; cases ho
  base := hb
  env g hg := ⟨0, env0_lt (by rw [h1] at hg; exact hg)⟩
  fresh k hk := env0_ge hk
theorem Base.refl (w : World) : Base w.heap.size w w := ⟨Nat.le_refl _, fun _ _ => rfl⟩

/-! ### Calls that are run -/
def isV (v : SV) : Out → Bool
  | .val x _ _ => svEq 1000 x v
  | _ => false
/-- A call that was run comes to what it was run to. -/
theorem run_val {P : Program} {c : Cx} {B : Nat} {w0 : World} (hP : POk P c) (hF : FOk P c) (hM : MemoOk P c B w0) {ng : Nat} (h1 : c.ng = ng) (h2 : c.ro = ng) {H : Tr SO} (hl : Laid H ng w0) (hng : ng ≤ B) {g k : Nat} {args : List SV} {v : SV}
    (hfn : (Tr.get (pa k) c.fn).isSome = true) (hr : isV v (exec c g (.call k args H ng)) = true) {w : World} (hb : Base B w0 w) {vs : List Value} (ha : denL (env0 ng) args = some vs) :
    CallsIn Fence.wide 0 P k vs.toArray w fun e w' => (∃ ε y, e = .returned y ∧ den ε v = some y) ∧ Left' w w' := by
  have hS := exec_sound hP hF hM g (.call k args H ng)
  rcases hS with ⟨wd, e⟩ | hS
  · rw [e] at hr; cases hr
  rcases hS (env0 ng) w vs (pre_start h1 h2 hl hb hng) ha with ⟨e, _⟩ | ⟨_, _, hc⟩
  · rw [e] at hfn; cases hfn
  refine CallsIn.mono hc fun e w' q => ?_
  rcases q with ⟨x, h', nx', ε', y, q1, q2, q3, q4, q5⟩ | ⟨t, f1, ds1, h', nx', ε', q1, _⟩
  case inr => rw [q1] at hr; cases hr
  rw [q1] at hr
  have e2 := svEq_eq 1000 x v hr
  subst e2
  refine ⟨⟨ε', y, q2, q3⟩, q4.io, q4.size, fun b hb => q4.keep b hb ?_⟩
  rintro ⟨n, o, z, z1, z2, _⟩
  rw [not_own h2 hl z1] at z2; cases z2

/-! ### Tables of calls -/
def none0 : Env := fun _ => none
theorem none0_sub (ε : Env) : Sub none0 ε := fun _ _ h => by cases h
noncomputable def setT : List (Nat × List (List SV × SV)) → Tr (List SV → Option SV) → Tr (List SV → Option SV)
  | [], M => M
  | (k, l) :: t, M => setT t (Tr.set (some fun xs => memoF xs l) (pa k) M)
theorem setT_get : ∀ (t : List (Nat × List (List SV × SV))) (M : Tr (List SV → Option SV)) (k : Nat) (m : List SV → Option SV), Tr.get (pa k) (setT t M) = some m → (∃ l, (k, l) ∈ t ∧ m = fun xs => memoF xs l) ∨ Tr.get (pa k) M = some m
  | [], M, k, m, h => .inr h
  | (k', l) :: t, M, k, m, h => by
    rcases setT_get t _ k m h with ⟨l', h1, h2⟩ | h1
    · exact .inl ⟨l', List.mem_cons_of_mem _ h1, h2⟩
    · by_cases e : k = k'
      · subst e
        rw [Tr.get_set_same] at h1; cases h1
        exact .inl ⟨l, List.mem_cons_self, rfl⟩
      · rw [Tr.get_set_ne _ _ _ _ (fun e2 => e (pa_inj e2))] at h1
        exact .inr h1
/-- Each of the calls comes to what the table says; nothing in it bears a block. -/
noncomputable def tabOk (c : Cx) (g : Nat) (H : Tr SO) (ng : Nat) (t : List (Nat × List (List SV × SV))) : Bool := t.all fun q => (Tr.get (pa q.1) c.fn).isSome && q.2.all fun x => (denL none0 x.1).isSome && (den none0 x.2).isSome && isV x.2 (exec c g (.call q.1 x.1 H ng))
theorem memo_tab {P : Program} {X : Tr Xk} {V : Tr Nat} (hP : ∀ M, POk P (cxT P X M V)) (hF : ∀ M, FOk P (cxT P X M V)) {M : Tr (List SV → Option SV)} {B : Nat} {w0 : World} (hM : MemoOk P (cxT P X M V) B w0) {H : Tr SO} (hl : Laid H P.globals.size w0) (hng : P.globals.size ≤ B) {g : Nat} {t : List (Nat × List (List SV × SV))}
    (ht : tabOk (cxT P X M V) g H P.globals.size t = true) : MemoOk P (cxT P X (setT t M) V) B w0 := by
  intro k m hm args v hv ε w vs hb ha
  rcases setT_get t M k m hm with ⟨l, h1, rfl⟩ | h1
  · have h2 := memoF_mem hv
    have h3 := List.all_eq_true.1 ht (k, l) h1
    rw [Bool.and_eq_true] at h3
    have h4 := List.all_eq_true.1 h3.2 (args, v) h2
    rw [Bool.and_eq_true, Bool.and_eq_true] at h4
    obtain ⟨⟨h5, h6⟩, h7⟩ := h4
    obtain ⟨vs', e1⟩ := Option.isSome_iff_exists.1 h5
    obtain ⟨y, e2⟩ := Option.isSome_iff_exists.1 h6
    have e3 := denL_sub (none0_sub ε) _ e1
    rw [ha] at e3; cases e3
    refine ⟨y, fun ε => den_sub (none0_sub ε) _ e2, ?_⟩
    refine CallsIn.mono (run_val (hP M) (hF M) hM rfl rfl hl hng h3.1 h7 hb (denL_sub (none0_sub _) _ e1)) fun e w' q => ?_
    obtain ⟨⟨ε', y', q1, q2⟩, q3⟩ := q
    rw [den_sub (none0_sub ε') _ e2] at q2; cases q2
    exact ⟨q1, q3⟩
  · exact hM k m h1 args v hv ε w vs hb ha
/-- A closed law, run. -/
theorem run_law {P : Program} {c : Cx} {w : World} (hP : POk P c) (hF : FOk P c) (hM : MemoOk P c w.heap.size w) {ng : Nat} (h1 : c.ng = ng) (h2 : c.ro = ng) {H : Tr SO} (hl : Laid H ng w) (hng : ng ≤ w.heap.size) {g k : Nat}
    (hfn : (Tr.get (pa k) c.fn).isSome = true) (hr : isV (.bool true) (exec c g (.call k [] H ng)) = true) : Calls P k #[] w fun e w' => e = .returned (.bool true) ∧ Left' w w' := by
  refine callsIn_wide.1 (CallsIn.mono (run_val hP hF hM h1 h2 hl hng hfn hr (Base.refl w) (vs := []) rfl) fun e w' q => ?_)
  obtain ⟨⟨ε, y, q1, q2⟩, q3⟩ := q
  cases q2
  exact ⟨q1, q3⟩
end Go.Proofs.YtohikcchbjchkaaGreatDoor.Sx

/- Calls that were proved by contracts: Index. -/
namespace Go.Proofs.YtohikcchbjchkaaGreatDoor.Sx
open Go

/-- What a contract of a function with plain arguments gives. -/
def Known (P : Program) (B : Nat) (w0 : World) (k : Nat) (f : List SV → Option SV) : Prop := ∀ xs v, f xs = some v → ∀ ε w vs, Base B w0 w → denL ε xs = some vs → ∃ y, (∀ ε, den ε v = some y) ∧ CallsIn Fence.wide 0 P k vs.toArray w fun e w' => e = .returned y ∧ Left' w w'
theorem memo_e {P : Program} {X : Tr Xk} {V : Tr Nat} {B : Nat} {w0 : World} : MemoOk P (cxT P X .e V) B w0 := by
  intro k m hm
  have h : Tr.get (pa k) (Tr.e : Tr (List SV → Option SV)) = some m := hm
  rw [Tr.get_e] at h; cases h
theorem memo_set {P : Program} {X : Tr Xk} {V : Tr Nat} {M : Tr (List SV → Option SV)} {B : Nat} {w0 : World} (hM : MemoOk P (cxT P X M V) B w0) {k : Nat} {f : List SV → Option SV} (hf : Known P B w0 k f) : MemoOk P (cxT P X (Tr.set (some f) (pa k) M) V) B w0 := by
  intro k' m hm
  have h : Tr.get (pa k') (Tr.set (some f) (pa k) M) = some m := hm
  by_cases e : k' = k
  · subst e
    rw [Tr.get_set_same] at h; cases h
    exact hf
  · rw [Tr.get_set_ne _ _ _ _ (fun e2 => e (pa_inj e2))] at h
    exact hM k' m h
def preL : List UInt8 → List UInt8 → Bool
  | [], _ => true
  | x :: b, a => match a with
    | [] => false
    | y :: a => bif Nat.beq x.toNat y.toNat then preL b a else false
theorem preL_eq : ∀ b a, preL b a = b.isPrefixOf a
  | [], a => by simp [preL]
  | x :: b, [] => rfl
  | x :: b, y :: a => by
    show (bif Nat.beq x.toNat y.toNat then preL b a else false) = (x == y && b.isPrefixOf a)
    rw [preL_eq b a]
    cases e : Nat.beq x.toNat y.toNat with
    | true =>
      have : x = y := UInt8.toNat_inj.1 (Nat.eq_of_beq_eq_true e)
      subst this; simp
    | false =>
      have : (x == y) = false := by
        cases hh : (x == y) with
        | false => rfl
        | true => rw [beq_iff_eq] at hh; subst hh; rw [Nat.beq_refl] at e; cases e
      rw [this]; rfl
def indexL (b : List UInt8) : List UInt8 → Nat → Int
  | [], i => match b with
    | [] => Int.ofNat i
    | _ :: _ => Int.negSucc 0
  | x :: a, i => bif preL b (x :: a) then Int.ofNat i else indexL b a (i + 1)
theorem indexL_eq (b : List UInt8) : ∀ (a : List UInt8) (i : Nat), indexL b a i = if Lib.index a b = -1 then -1 else (i : Int) + Lib.index a b
  | [], i => by
    cases b with
    | nil => simp [indexL, Lib.index]
    | cons y b => simp [indexL, Lib.index]
  | x :: a, i => by
    have hge := Lib.index_ge a b
    show (bif preL b (x :: a) then Int.ofNat i else indexL b a (i + 1)) = _
    have hx : Lib.index (x :: a) b = if b.isPrefixOf (x :: a) then 0 else if Lib.index a b == -1 then -1 else Lib.index a b + 1 := rfl
    rw [indexL_eq b a (i + 1), preL_eq, hx]
    generalize Lib.index a b = j at *
    cases hp : b.isPrefixOf (x :: a) with
    | true => simp
    | false =>
      by_cases e : j = -1
      · subst e; simp
      · have e2 : (j == -1) = false := by simpa using e
        have e3 : ¬ (j + 1 = -1) := by omega
        rw [if_neg e, e2]
        simp only [cond_false, Bool.false_eq_true, if_false, if_neg e3]
        omega
def ixM : List SV → Option SV := fun xs => match xs with
  | [.str a, .str b] => bif Nat.blt a.length 4294967281 then some (.int .i64 (indexL b a 0)) else none
  | _ => none
theorem ixM_known {P : Program} {B : Nat} {w0 : World} {k : Nat} (h : ∀ (s sub : ByteArray) (w : World), s.size < 4294967281 → Base B w0 w → Calls P k #[.string s, .string sub] w fun e w' => e = .returned (.int .i64 (Lib.index s.data.toList sub.data.toList)) ∧ w' = w) : Known P B w0 k ixM := by
  intro xs v hv ε w vs hb ha
  unfold ixM at hv
  split at hv
  · rename_i a b
    cases hl : Nat.blt a.length 4294967281 with
    | false => rw [hl] at hv; cases hv
    | true =>
      rw [hl] at hv; cases hv
      obtain ⟨x, y, h1, h2, rfl⟩ := denL_two ha
      cases h1; cases h2
      refine ⟨_, fun _ => rfl, callsIn_wide.2 ((h ⟨a.toArray⟩ ⟨b.toArray⟩ w (show a.length < 4294967281 by simpa using hl) hb).mono fun e w' q => ?_)⟩
      obtain ⟨rfl, rfl⟩ := q
      refine ⟨?_, Io.refl _, Nat.le_refl _, fun _ _ => rfl⟩
      have e1 := indexL_eq b a 0
      have hge := Lib.index_ge a b
      rw [e1]
      congr 2
      show Lib.index a b = _
      split <;> omega
  · cases hv
/-- A contract, as a call that was proved before. -/
theorem known_of {P : Program} {B : Nat} {w0 : World} {k : Nat} {f : List SV → Option SV} (h : ∀ xs v, f xs = some v → ∃ (vs : List Value) (y : Value), denL none0 xs = some vs ∧ den none0 v = some y ∧ ∀ w, Base B w0 w → Calls P k vs.toArray w fun e w' => e = .returned y ∧ Left' w w') : Known P B w0 k f := by
  intro xs v hv ε w vs hb ha
  obtain ⟨vs', y, h1, h2, h3⟩ := h xs v hv
  have e := denL_sub (none0_sub ε) _ h1
  rw [ha] at e; cases e
  exact ⟨y, fun ε => den_sub (none0_sub ε) _ h2, callsIn_wide.2 (h3 w hb)⟩
theorem rcv_e {P : Program} (k t : Nat) (h : Tr.get (pa k) (.e : Tr Nat) = some t) : Rcv P k t := by rw [Tr.get_e] at h; cases h
theorem tabOk_nil {c : Cx} {g : Nat} {H : Tr SO} {ng : Nat} : tabOk c g H ng [] = true := rfl
theorem tabOk_cons {c : Cx} {g : Nat} {H : Tr SO} {ng : Nat} {q : Nat × List (List SV × SV)} {t : List (Nat × List (List SV × SV))} (h1 : tabOk c g H ng [q] = true) (h2 : tabOk c g H ng t = true) : tabOk c g H ng (q :: t) = true := by
  unfold tabOk at h1 h2 ⊢
  rw [List.all_cons] at h1 ⊢
  rw [Bool.and_eq_true] at h1
  rw [h1.1, h2]; rfl
/-! ### Lists of what is known -/
noncomputable def hOf : List (Nat × SO) → Tr SO
  | [] => .e
  | (g, o) :: l => Tr.set (some o) (pa g) (hOf l)
theorem hOf_get : ∀ (l : List (Nat × SO)) (n : Pa) (o : SO), Tr.get n (hOf l) = some o → ∃ g, n = pa g ∧ (g, o) ∈ l
  | [], n, o, h => by
    have h' : Tr.get n (Tr.e : Tr SO) = some o := h
    rw [Tr.get_e] at h'; cases h'
  | (g, o') :: l, n, o, h => by
    have h' : Tr.get n (Tr.set (some o') (pa g) (hOf l)) = some o := h
    by_cases e : n = pa g
    · subst e
      rw [Tr.get_set_same] at h'; cases h'
      exact ⟨g, rfl, List.mem_cons_self⟩
    · rw [Tr.get_set_ne _ _ _ _ e] at h'
      obtain ⟨g', h1, h2⟩ := hOf_get l n o h'
      exact ⟨g', h1, List.mem_cons_of_mem _ h2⟩
theorem laid_of {l : List (Nat × SO)} {ng : Nat} {w : World} (h : ∀ q ∈ l, q.1 < ng ∧ ObjOk (env0 ng) w ⟨q.1, 0, 0⟩ q.2) : Laid (hOf l) ng w := by
  intro n o hn
  obtain ⟨g, rfl, hm⟩ := hOf_get l n o hn
  exact ⟨g, (h _ hm).1, rfl, (h _ hm).2⟩
/-- A whole variable. -/
theorem laid_cells {ng : Nat} {w : World} {g : Nat} {c : Array Value} {t s : Nat} {vs : List SV} (hw : w.heap[g]? = some (.cells c t)) (hd : denL none0 vs = some c.toList) : ObjOk (env0 ng) w ⟨g, 0, 0⟩ (.cells vs t s false (some 0)) := by
  refine ⟨c, (0, 0), c.toList, hw, denL_sub (none0_sub _) _ hd, ?_, ?_, .inl rfl⟩
  · intro i y hi
    simpa using hi
  · simp
noncomputable def xOf : List (Nat × Xk) → Tr Xk
  | [] => .e
  | (g, o) :: l => Tr.set (some o) (pa g) (xOf l)
theorem xOf_is {P : Program} : ∀ {l : List (Nat × Xk)}, (∀ q ∈ l, ExtIs P q.1 q.2) → ∀ k x, Tr.get (pa k) (xOf l) = some x → ExtIs P k x
  | [], _, k, x, h => by
    have h' : Tr.get (pa k) (Tr.e : Tr Xk) = some x := h
    rw [Tr.get_e] at h'; cases h'
  | (g, o') :: l, ha, k, x, h => by
    have h' : Tr.get (pa k) (Tr.set (some o') (pa g) (xOf l)) = some x := h
    by_cases e : k = g
    · subst e
      rw [Tr.get_set_same] at h'; cases h'
      exact ha _ List.mem_cons_self
    · rw [Tr.get_set_ne _ _ _ _ (fun e2 => e (pa_inj e2))] at h'
      exact xOf_is (fun q hq => ha q (List.mem_cons_of_mem _ hq)) k x h'
/-- A world that keeps what the first one held. -/
theorem Base.cell {B : Nat} {w0 w : World} (hb : Base B w0 w) {a : Addr} (h : a.block < B) : w.cell? a = w0.cell? a := by
  unfold World.cell?
  rw [hb.keep a.block h]
end Go.Proofs.YtohikcchbjchkaaGreatDoor.Sx

