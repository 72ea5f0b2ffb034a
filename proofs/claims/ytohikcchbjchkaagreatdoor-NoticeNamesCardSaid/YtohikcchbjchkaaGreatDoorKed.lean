import Derived.Test.YtohikcchbjchkaaGreatDoorKec
import Derived.Laws.AppendOwn
import Derived.DefersIn
import Derived.RangeFuncCalls
import Derived.OrdersIn
import Derived.RangeFuncRecord
set_option linter.unusedVariables false
set_option linter.unusedSimpArgs false
/- The operations that change memory: append. -/
namespace Go.Proofs.YtohikcchbjchkaaGreatDoor.Sx
open Go
section
variable {P : Program} {c : Cx}
theorem Sat.heap {B : Nat} {ε : Env} {h : Tr SO} {w w' : World} (hs : Sat c B ε h w) (e : w'.heap = w.heap) : Sat c B ε h w' :=
  ⟨fun n o hn => let ⟨x, hx, ho, hB⟩ := hs.obj n o hn; ⟨x, hx, ho.keep (Sub.refl ε) (by rw [e]), hB⟩, hs.sep⟩
theorem Goes.heap {ε ε' : Env} {h h' : Tr SO} {nx nx' : Nat} {w w' u : World} (g : Goes c ε h nx w ε' h' nx' w') (e : u.heap = w'.heap) (hi : Io w' u := by exact ⟨rfl, rfl⟩) : Goes c ε h nx w ε' h' nx' u :=
  ⟨g.le, g.env, g.io.trans hi, by rw [e]; exact g.size, by rw [e]; exact g.keep, g.dom⟩
/-- A new block of cells. -/
theorem fresh_cells {B : Nat} {ε : Env} {h : Tr SO} {w w' : World} (hst : Sat c B ε h w) (hB : B ≤ w.heap.size) {nx : Nat} (hf : ε (pa nx) = none) {vs : List SV} {xs zs : List Value} (hd : denL ε vs = some xs) {e s K all : Nat} (hw : w'.heap = w.heap.push (.cells (xs ++ zs).toArray e)) (hsz : xs.length + zs.length = K * s) (hall : all ≤ K) (fz : Option Nat) (hio : Io w w' := by exact ⟨rfl, rfl⟩) :
    Sat c B (put ε (pa nx) ⟨w.heap.size, 0, K⟩) (Tr.set (some (.cells vs e s true fz)) (pa nx) h) w' ∧ Goes c ε h nx w (put ε (pa nx) ⟨w.heap.size, 0, K⟩) (Tr.set (some (.cells vs e s true fz)) (pa nx) h) (nx + 1) w' ∧
      den (put ε (pa nx) ⟨w.heap.size, 0, K⟩) (.sl (pa nx) 0 all (.rel 0)) = some (.slice (some ⟨w.heap.size, 0, none⟩) all K) := by
  have hob : ObjOk (put ε (pa nx) ⟨w.heap.size, 0, K⟩) w' ⟨w.heap.size, 0, K⟩ (.cells vs e s true fz) := by
    refine ⟨(xs ++ zs).toArray, (0, 0), xs, by rw [hw]; simp, denL_sub (put_sub _ hf) _ hd, ?_, ?_, ?_⟩
    · intro i y hi
      have hl : i < xs.length := (List.getElem?_eq_some_iff.1 hi).1
      simp only [Nat.zero_add, List.getElem?_toArray]
      rw [List.getElem?_append_left hl]; exact hi
    · simp; omega
    · cases fz with
      | none => intro i _ h; simp at h
      | some k => exact .inl rfl
  obtain ⟨g1, g2⟩ := sat_new hst hB hf (Push.of hw hio) hob
  refine ⟨g1, g2, ?_⟩
  unfold den
  rw [put_same]
  show (if all + 0 ≤ K then some (Value.slice (some ⟨w.heap.size, 0 + 0, none⟩) all (K - 0)) else none) = _
  rw [if_pos (by omega)]; rfl
/-- One block under another name. -/
theorem sat_move {B : Nat} {ε : Env} {h : Tr SO} {w w' : World} (hs : Sat c B ε h w) {n : Pa} {o o' : SO} {x x' : Blk} (hn : Tr.get n h = some o) (ho : ownP c n = true) (hx : ε n = some x) {nx : Nat} (hf : ε (pa nx) = none) (hxb : x'.b = x.b) (hsz : w'.heap.size = w.heap.size) (hk : ∀ b, b ≠ x.b → w'.heap[b]? = w.heap[b]?) (hob : ObjOk (put ε (pa nx) x') w' x' o') (hio : Io w w' := by exact ⟨rfl, rfl⟩) :
    Sat c B (put ε (pa nx) x') (Tr.set (some o') (pa nx) (Tr.set none n h)) w' ∧ Goes c ε h nx w (put ε (pa nx) x') (Tr.set (some o') (pa nx) (Tr.set none n h)) (nx + 1) w' := by
  have hsub := put_sub x' hf
  have hget : ∀ m q, m ≠ pa nx → Tr.get m (Tr.set (some o') (pa nx) (Tr.set none n h)) = some q → m ≠ n ∧ Tr.get m h = some q := by
    intro m q e hq
    rw [Tr.get_set_ne _ _ _ _ e] at hq
    by_cases e2 : m = n
    · subst e2; rw [Tr.get_set_same] at hq; cases hq
    · rw [Tr.get_set_ne _ _ _ _ e2] at hq; exact ⟨e2, hq⟩
  have hBx : B ≤ x.b := by
    obtain ⟨x2, hx2, _, hB⟩ := hs.obj n o hn
    rw [hx] at hx2; cases hx2
    exact hB ho
  refine ⟨⟨?_, ?_⟩, ⟨Nat.le_succ _, ?_, hio, by rw [hsz]; exact Nat.le_refl _, ?_, ?_⟩⟩
  · intro m q hq
    by_cases e : m = pa nx
    · subst e
      rw [Tr.get_set_same] at hq; cases hq
      exact ⟨x', put_same _ _ _, hob, fun _ => by rw [hxb]; exact hBx⟩
    · obtain ⟨e2, hq⟩ := hget m q e hq
      obtain ⟨y, hy, hoy, hB⟩ := hs.obj m q hq
      exact ⟨y, hsub _ _ hy, hoy.keep hsub (hk y.b fun e3 => hs.sep n m o q x y hn hq (Ne.symm e2) ho hx hy e3.symm), hB⟩
  · intro m1 m2 q1 q2 y1 y2 h1 h2 hne ho1 hy1 hy2
    by_cases e1 : m1 = pa nx
    · subst e1
      have e2 : m2 ≠ pa nx := Ne.symm hne
      obtain ⟨e3, h2⟩ := hget m2 q2 e2 h2
      rw [put_same] at hy1; cases hy1
      rw [put_ne _ _ e2] at hy2
      rw [hxb]
      exact hs.sep n m2 o q2 x y2 hn h2 (Ne.symm e3) ho hx hy2
    · obtain ⟨e3, h1⟩ := hget m1 q1 e1 h1
      rw [put_ne _ _ e1] at hy1
      by_cases e2 : m2 = pa nx
      · subst e2
        rw [put_same] at hy2; cases hy2
        rw [hxb]
        exact hs.sep m1 n q1 o y1 x h1 hn e3 ho1 hy1 hx
      · obtain ⟨e4, h2⟩ := hget m2 q2 e2 h2
        rw [put_ne _ _ e2] at hy2
        exact hs.sep m1 m2 q1 q2 y1 y2 h1 h2 hne ho1 hy1 hy2
  · intro m hm
    exact put_ne _ _ (hm nx (Nat.le_refl _) (Nat.lt_succ_self _))
  · intro b hb hno
    exact hk b fun e => hno ⟨n, o, x, hn, ho, hx, e.symm⟩
  · intro m q h1
    by_cases e : m = pa nx
    · subst e
      exact .inr ⟨nx, x', Nat.le_refl _, Nat.lt_succ_self _, rfl, put_same _ _ _, .inl ⟨n, o, x, hn, ho, hx, hxb.symm⟩⟩
    · obtain ⟨e3, h1⟩ := hget m q e h1
      exact .inl ⟨q, h1, put_ne _ _ e⟩
/-- What is known of an append's types. -/
structure AppT (P : Program) (c : Cx) (ats : Array TypeId) (e s b : Nat) : Prop where
  ex : ∃ t u, ats[0]? = some t ∧ undT c.ty t = some (.slice e) ∧ ats[1]? = some u ∧ ((∃ e', P.underlying u = some (.slice e')) ∨ P.underlying u = some .string)
  size : sizeT c.ty e = some s
  bytes : bytesT c.ty e = some b
  zero : ∃ z, zeroN c.ty e s = some z
  pos : 0 < s
/-- What the append comes to. -/
def AppGoes (P : Program) (c : Cx) (B : Nat) (ε : Env) (h : Tr SO) (nx : Nat) (w : World) (ats : Array TypeId) (ty : TypeId) (s x : Value) (v : SV) (h' : Tr SO) (nx' : Nat) : Prop :=
  ∃ ε' y w', (Builtin.append_ ats ty #[s, x]).run P w = .ok y w' ∧ den ε' v = some y ∧ Goes c ε h nx w ε' h' nx' w' ∧ Sat c B ε' h' w'
section
variable {ats : Array TypeId} {ty e s b : Nat} {B : Nat} {ε : Env} {h : Tr SO} {w : World} {nx : Nat} {x : SV} {x' : Value} {k : Nat} {new : List SV}
theorem app_same (hP : POk P c) (hT : AppT P c ats e s b) (hst : Sat c B ε h w) (hx : den ε x = some x') (hk : lenS x = some 0) (hnew : srcOf h s 0 x = some new) {sv : SV} {sv' : Value} (hsv : den ε sv = some sv') (hfit : fits sv = true) :
    AppGoes P c B ε h nx w ats ty sv' x' sv h nx := by
  obtain ⟨t, u, ht, hd, hu, hkk⟩ := hT.ex
  obtain ⟨ys, h1, h2, h3, h4⟩ := srcOf_ok (P := P) hst hx hk (Nat.le_refl 0) hnew
  have hys : ys = [] := by cases ys with | nil => rfl | cons _ _ => simp at h2
  subst hys
  have key : ∀ {base : Option Addr} {sl sc : Nat}, sl ≤ sc → (Builtin.append_ ats ty #[.slice base sl sc, x']).run P w = .ok (.slice base sl sc) w := by
    intro base sl sc hle
    refine append_in hP ht hd hT.size hu hkk h4 h3 (by omega) ?_
    cases base with
    | none => rfl
    | some A => rfl
  refine ⟨ε, sv', w, ?_, hsv, Goes.refl _ _ _ _ _, hst⟩
  cases sv with
  | nilsl => cases hsv; exact key (Nat.le_refl _)
  | slt _ _ _ _ => obtain ⟨A, q, rfl⟩ := den_slt hsv; exact key (Nat.zero_le _)
  | sl n o len cp =>
    obtain ⟨blk, kk, hb, rfl, hex, hrel⟩ := den_sl hsv
    refine key ?_
    cases cp with
    | ex q => rw [hex q rfl]; exact Nat.le_of_ble_eq_true hfit
    | rel q => obtain ⟨h5, rfl⟩ := hrel q rfl; omega
  | _ => cases hfit
theorem app_fresh (hP : POk P c) (hT : AppT P c ats e s b) (hst : Sat c B ε h w) (hB : B ≤ w.heap.size) (hf : ε (pa nx) = none) (hx : den ε x = some x') (hk : lenS x = some k) (hnew : srcOf h s k x = some new) (hbb : b ≤ 65536) {base : Option Addr} {sl sc : Nat} {old : List SV} {os : List Value} (hold : denL ε old = some os) (hos : os.length = sl * s)
    (ho : (Builtin.firstCells s sl (.slice base sl sc)).run P w.drew = .ok os.toArray w.drew) (hcap : sc < sl + k) (hle : sl + k ≤ 1000000000) (fz : Option Nat) :
    ∃ K w', (Builtin.append_ ats ty #[.slice base sl sc, x']).run P w = .ok (.slice (some ⟨w.heap.size, 0, none⟩) (sl + k) K) w' ∧ Io w w' ∧ ∃ xs zs : List Value, denL ε (old ++ new) = some xs ∧ w'.heap = w.heap.push (.cells (xs ++ zs).toArray e) ∧ xs.length + zs.length = K * s ∧ sl + k ≤ K := by
  obtain ⟨t, u, ht, hd, hu, hkk⟩ := hT.ex
  obtain ⟨z, hz⟩ := hT.zero
  obtain ⟨ys, h1, h2, h3, h4⟩ := srcOf_ok (P := P) hst hx hk (Nat.le_refl k) hnew
  obtain ⟨_, h1', _, h3', _⟩ := srcOf_ok (P := P) (hst.heap (w' := w.drew) rfl) hx hk (Nat.le_refl k) hnew
  rw [h1] at h1'; cases h1'
  obtain ⟨zs, hzs, hr⟩ := append_new hP ht hd hT.size hT.bytes hz hu hkk h4 h3' ho hcap hle hbb
  have hge := grownCap_ge w (sl + k) sc e
  refine ⟨_, _, hr, ⟨rfl, rfl⟩, os ++ ys, zs, denL_append hold h1, rfl, ?_, hge⟩
  have : (sl + k) * s + (grownCap w (sl + k) sc e - (sl + k)) * s = grownCap w (sl + k) sc e * s := by
    rw [← Nat.add_mul]; congr 1; omega
  rw [List.length_append, hos, h2, hzs, ← this, Nat.add_mul]
theorem appOwn_inv {h : Tr SO} {nx : Nat} {n : Pa} {o len q e s all : Nat} {new : List SV} {v : SV} {h' : Tr SO} {nx' : Nat} (ha : appOwn c h nx n o len q e s new all = some (v, h', nx')) :
    ∃ vs z old, allOne new = true ∧ ownP c n = true ∧ Tr.get n h = some (.cells vs e s true z) ∧ free z (o + len * s) = true ∧ o = q * s ∧ rd vs o (len * s) = some old ∧ v = .sl (pa nx) 0 all (.rel 0) ∧ h' = Tr.set (some (.cells (old ++ new) e s true (lessZ z o))) (pa nx) (Tr.set none n h) ∧ nx' = nx + 1 := by
  unfold appOwn at ha
  obtain ⟨hone, h1⟩ := bif_t ha
  obtain ⟨hown, h2⟩ := bif_t h1
  obtain ⟨⟨vs, e', s', opn, z⟩, hq, h3⟩ := Option.bind_eq_some_iff.1 h2
  dsimp only at h3
  obtain ⟨he, h4⟩ := bif_t h3
  obtain ⟨hs, h5⟩ := bif_t h4
  obtain ⟨hop, h6⟩ := bif_t h5
  obtain ⟨hfree, h7⟩ := bif_t h6
  obtain ⟨hoq, h8⟩ := bif_t h7
  obtain ⟨old, hold, h9⟩ := Option.bind_eq_some_iff.1 h8
  have e1 := Nat.eq_of_beq_eq_true he
  have e2 := Nat.eq_of_beq_eq_true hs
  have e3 := Nat.eq_of_beq_eq_true hoq
  have hg := getC_get hq
  dsimp only at hg
  clear ha h1 h2 h3 h4 h5 h6 h7 h8 he hs hoq hq
  subst e1; subst e2; subst hop
  cases h9
  exact ⟨vs, z, old, hone, hown, hg, hfree, e3, hold, rfl, rfl, rfl⟩
theorem app_own (hP : POk P c) (hT : AppT P c ats e s b) (hst : Sat c B ε h w) (hB : B ≤ w.heap.size) (hf : ε (pa nx) = none) (hx : den ε x = some x') (hk : lenS x = some k) (hnew : srcOf h s k x = some new) (hbb : b ≤ 65536) {A : Addr} {n : Pa} {o len q cap all : Nat} {bl : Blk} (hbl : ε n = some bl)
    (hA : (A = ⟨bl.b, bl.q + o, none⟩ ∧ cap = bl.K - q ∧ len + q ≤ bl.K) ∨ (len = 0 ∧ cap = 0)) (hk0 : 0 < k) (hall : all = len + k) (hle : all ≤ 1000000000) {v : SV} {h' : Tr SO} {nx' : Nat} (ha : appOwn c h nx n o len q e s new all = some (v, h', nx')) :
    AppGoes P c B ε h nx w ats ty (.slice (some A) len cap) x' v h' nx' := by
  obtain ⟨vs, z, old, hone, hown, hg, hfree, hoq', hold, rfl, rfl, rfl⟩ := appOwn_inv ha
  obtain ⟨t, u, ht, hd, hu, hkk⟩ := hT.ex
  obtain ⟨ys, h1, h2, h3, h4⟩ := srcOf_ok (P := P) hst hx hk (Nat.le_refl k) hnew
  by_cases hin : len + k ≤ cap
  · -- in place
    obtain ⟨rfl, rfl, hlq⟩ : A = ⟨bl.b, bl.q + o, none⟩ ∧ cap = bl.K - q ∧ len + q ≤ bl.K := by
      rcases hA with hA | hA
      · exact hA
      · omega
    obtain ⟨x2, hx2, hob, _⟩ := hst.obj n _ hg
    rw [hbl] at hx2; cases hx2
    obtain ⟨cs, fr, xs, g1, g2, g3, g4, g5⟩ := CellsOk.ex hob
    simp only [if_true] at g4
    obtain ⟨g6, g7⟩ := denL_rd g2 hold
    have hfits : o + len * s + k * s ≤ bl.K * s := by
      rw [hoq', ← Nat.add_mul, ← Nat.add_mul]
      exact Nat.mul_le_mul_right s (by omega)
    have hnf : ∀ j, bl.q + (o + len * s) ≤ j → j < cs.size → ¬ (fr.1 ≤ j ∧ j < fr.2) := by
      intro j hj hj2
      cases z with
      | none => exact g5 j hj2
      | some kz =>
        have hk : kz ≤ o + len * s := Nat.le_of_ble_eq_true hfree
        rcases g5 with g5 | g5 <;> omega
    obtain ⟨w', cs', r1, r2, r3, r4, r5, r6, r7⟩ := storeCells_run (P := P) ys 0 w cs (off := bl.q + (o + len * s)) (b := bl.b) g1 (by omega) (fun j ha hb => hnf j (by omega) (by omega)) (allOne_den hone h1)
    have hKs : bl.q + bl.K * s = bl.q + o + (bl.K - q) * s := by
      rw [hoq', Nat.add_assoc, ← Nat.add_mul]; congr 2; omega
    have hlold : ((xs.drop o).take (len * s)).length = len * s := by simp; omega
    have hobj : ObjOk (put ε (pa nx) ⟨bl.b, bl.q + o, bl.K - q⟩) w' ⟨bl.b, bl.q + o, bl.K - q⟩ (.cells (old ++ new) e s true (lessZ z o)) := by
      refine ⟨cs', fr, _, r2, denL_sub (put_sub _ hf) _ (denL_append g6 h1), ?_, ?_, ?_⟩
      · intro i y hi
        show cs'[bl.q + o + i]? = some y
        rw [r4]
        by_cases hc : i < len * s
        · rw [List.getElem?_append_left (by rw [hlold]; exact hc)] at hi
          rw [if_neg (by omega), Nat.add_assoc]
          refine g3 _ _ ?_
          rw [List.getElem?_take, if_pos hc, List.getElem?_drop] at hi
          exact hi
        · rw [List.getElem?_append_right (by rw [hlold]; omega), hlold] at hi
          have hlt := (List.getElem?_eq_some_iff.1 hi).1
          rw [if_pos (by omega), show bl.q + o + i - (bl.q + (o + len * s) + 0) = i - len * s by omega]
          exact hi
      · rw [if_pos rfl]
        dsimp only
        rw [r3, List.length_append, hlold, h2]
        refine ⟨by omega, ?_⟩
        rw [← Nat.add_mul]
        exact Nat.mul_le_mul_right s (by omega)
      · cases z with
        | none => intro i hi; exact g5 i (by rw [← r3]; exact hi)
        | some kz =>
          show fr.1 = fr.2 ∨ fr.2 ≤ bl.q + o + (kz - o)
          rcases g5 with g5 | g5
          · exact .inl g5
          · exact .inr (by omega)
    obtain ⟨m1, m2⟩ := sat_move hst hg hown hbl hf (x' := ⟨bl.b, bl.q + o, bl.K - q⟩) rfl r5 r6 hobj r7
    refine ⟨_, .slice (some ⟨bl.b, bl.q + o, none⟩) (len + k) (bl.K - q), w', ?_, ?_, m2, m1⟩
    · refine append_in hP ht hd hT.size hu hkk h4 h3 hin ?_
      show (storeCells ((⟨bl.b, bl.q + o, none⟩ : Addr).add (len * s)) ys).run P w = _
      rw [add_off]; exact r1
    · unfold den
      rw [put_same]
      show (if all + 0 ≤ bl.K - q then some (Value.slice (some ⟨bl.b, bl.q + o + 0, none⟩) all (bl.K - q - 0)) else none) = _
      rw [if_pos (by omega), hall]; rfl
  · -- elsewhere
    have hos : ∃ os, denL ε old = some os ∧ os.length = len * s ∧ (Builtin.firstCells s len (.slice (some A) len cap)).run P w.drew = .ok os.toArray w.drew := by
      rcases hA with ⟨rfl, rfl, hlq⟩ | ⟨rfl, rfl⟩
      · exact loadN (P := P) (hst.heap (w' := w.drew) rfl) hg hold hbl
      · have : old = [] := by
          have := (rd_eq hold).1
          simpa using this
        subst this
        exact ⟨[], rfl, by simp, by simp [Builtin.firstCells, loadCells, loadCellsFrom]⟩
    obtain ⟨os, ho1, ho2, ho3⟩ := hos
    obtain ⟨K, w', r1, rio, xs, zs, r2, r3, r4, r5⟩ := app_fresh (ty := ty) hP hT hst hB hf hx hk hnew hbb ho1 ho2 ho3 (by omega) (by omega) none
    obtain ⟨d1, d2⟩ := sat_del hst n nx
    obtain ⟨f1, f2, f3⟩ := fresh_cells d1 hB hf r2 r3 r4 r5 (lessZ z o) rio
    exact ⟨_, _, w', r1, by rw [hall]; exact f3, d2.trans f2, f1⟩
/-- Append. -/
theorem appV_ok (hP : POk P c) (hT : AppT P c ats e s b) (hst : Sat c B ε h w) (hB : B ≤ w.heap.size) (hx : den ε x = some x') {sv : SV} {sv' : Value} (hsv : den ε sv = some sv') {v : SV} {h' : Tr SO} {nx' : Nat} (hv : appV c h nx e s b sv x = some (v, h', nx')) (hfr : Fresh ε nx nx') :
    AppGoes P c B ε h nx w ats ty sv' x' v h' nx' := by
  unfold appV at hv
  obtain ⟨k, hk, hv⟩ := Option.bind_eq_some_iff.1 hv
  obtain ⟨new, hnew, hv⟩ := Option.bind_eq_some_iff.1 hv
  cases hk0 : Nat.beq k 0 with
  | true =>
    rw [hk0] at hv
    obtain ⟨hfit, hv⟩ := bif_t (show (bif fits sv then some (sv, h, nx) else none) = some (v, h', nx') from hv)
    cases hv
    cases Nat.eq_of_beq_eq_true hk0
    exact app_same hP hT hst hx hk hnew hsv hfit
  | false =>
    rw [hk0] at hv
    have hkp : 0 < k := by cases k with | zero => cases hk0 | succ k => omega
    obtain ⟨hbb, hv⟩ := bif_t (show (bif Nat.ble b 65536 then _ else none) = some (v, h', nx') from hv)
    have hbb := Nat.le_of_ble_eq_true hbb
    obtain ⟨t, u, ht, hd, hu, hkk⟩ := hT.ex
    obtain ⟨ys, h1, h2, h3, h4⟩ := srcOf_ok (P := P) hst hx hk (Nat.le_refl k) hnew
    have mkNew : ∀ {base : Option Addr} {sl sc : Nat} {old : List SV} {os : List Value}, denL ε old = some os → os.length = sl * s → (Builtin.firstCells s sl (.slice base sl sc)).run P w.drew = .ok os.toArray w.drew → sc < sl + k → sl + k ≤ 1000000000 → appNew h nx e s (sl + k) (old ++ new) = some (v, h', nx') →
        AppGoes P c B ε h nx w ats ty (.slice base sl sc) x' v h' nx' := by
      intro base sl sc old os a1 a2 a3 a4 a5 a6
      cases a6
      have hf : ε (pa nx) = none := hfr nx (Nat.le_refl _) (Nat.lt_succ_self _)
      obtain ⟨K, w', r1, rio, xs, zs, r2, r3, r4, r5⟩ := app_fresh (ty := ty) hP hT hst hB hf hx hk hnew hbb a1 a2 a3 a4 a5 none
      obtain ⟨f1, f2, f3⟩ := fresh_cells hst hB hf r2 r3 r4 r5 (some 0) rio
      exact ⟨_, _, w', r1, f3, f2, f1⟩
    have hnx : ∀ {n o len q all}, appOwn c h nx n o len q e s new all = some (v, h', nx') → ε (pa nx) = none := by
      intro n o len q all ha
      obtain ⟨_, _, _, _, _, _, _, _, _, _, _, e9⟩ := appOwn_inv ha
      rw [e9] at hfr
      exact hfr nx (Nat.le_refl _) (Nat.lt_succ_self _)
    cases sv with
    | nilsl =>
      cases hsv
      obtain ⟨hle, hv⟩ := bif_t (show (bif Nat.ble k 1000000000 then appNew h nx e s k new else none) = some (v, h', nx') from hv)
      have hle := Nat.le_of_ble_eq_true hle
      refine mkNew (old := []) (os := []) rfl (by simp) ?_ (by omega) (by omega) (by rw [Nat.zero_add]; exact hv)
      simp [Builtin.firstCells]
    | slt n o o' q =>
      obtain ⟨hle, hv⟩ := bif_t (show (bif Nat.ble k 1000000000 then appOwn c h nx n o 0 q e s new k else none) = some (v, h', nx') from hv)
      have hle := Nat.le_of_ble_eq_true hle
      unfold den at hsv
      obtain ⟨bl, hbl, hsv⟩ := Option.bind_eq_some_iff.1 hsv
      injection hsv with hsv
      by_cases hKq : bl.K ≤ q
      · rw [if_pos hKq] at hsv
        subst hsv
        exact app_own hP hT hst hB (hnx hv) hx hk hnew hbb hbl (.inr ⟨rfl, rfl⟩) hkp (by omega) hle hv
      · rw [if_neg hKq] at hsv
        subst hsv
        exact app_own hP hT hst hB (hnx hv) hx hk hnew hbb hbl (.inl ⟨rfl, rfl, by omega⟩) hkp (by omega) hle hv
    | sl n o len cp =>
      obtain ⟨hle, hv⟩ := bif_t (show (bif Nat.ble (len + k) 1000000000 then _ else none) = some (v, h', nx') from hv)
      have hle := Nat.le_of_ble_eq_true hle
      obtain ⟨bl, kk, hbl, rfl, hex, hrel⟩ := den_sl hsv
      cases cp with
      | ex q =>
        have hex := hex q rfl; subst hex
        dsimp only at hv
        cases hc : Nat.ble (len + k) kk with
        | true =>
          rw [hc] at hv
          obtain ⟨h2', hs2, hv⟩ := Option.bind_eq_some_iff.1 (show (setV c h n (o + len * s) new).bind _ = some (v, h', nx') from hv)
          cases hv
          obtain ⟨w', r1, r2, r3⟩ := setV_ok (P := P) hst h1 hbl hs2 nx
          refine ⟨ε, .slice (some ⟨bl.b, bl.q + o, none⟩) (len + k) kk, w', ?_, by unfold den; rw [hbl]; rfl, r3, r2⟩
          refine append_in hP ht hd hT.size hu hkk h4 h3 (Nat.le_of_ble_eq_true hc) ?_
          show (storeCells ((⟨bl.b, bl.q + o, none⟩ : Addr).add (len * s)) ys).run P w = _
          rw [add_off]; exact r1
        | false =>
          rw [hc] at hv
          obtain ⟨⟨vs, e', s', opn, z⟩, hq, hv⟩ := Option.bind_eq_some_iff.1 (show (getC h n).bind _ = some (v, h', nx') from hv)
          obtain ⟨old, hold, hv⟩ := Option.bind_eq_some_iff.1 hv
          obtain ⟨os, ho1, ho2, ho3⟩ := loadN (P := P) (hst.heap (w' := w.drew) rfl) (getC_get hq) hold hbl
          refine mkNew ho1 ho2 ho3 ?_ hle hv
          have : ¬ (len + k ≤ kk) := fun e => by rw [Nat.ble_eq_true_of_le e] at hc; cases hc
          omega
      | rel q =>
        obtain ⟨hlq, rfl⟩ := hrel q rfl
        dsimp only at hv
        obtain ⟨⟨vs, e', s', opn, z⟩, hq, hv⟩ := Option.bind_eq_some_iff.1 hv
        dsimp only at hv
        cases hc : Nat.ble (o + (len + k) * s) vs.length with
        | false =>
          rw [hc] at hv
          exact app_own hP hT hst hB (hnx hv) hx hk hnew hbb hbl (.inl ⟨rfl, rfl, hlq⟩) hkp rfl hle hv
        | true =>
          rw [hc] at hv
          obtain ⟨hop, hv⟩ := bif_t (show (bif opn then _ else none) = some (v, h', nx') from hv)
          obtain ⟨hs, hv⟩ := bif_t hv
          obtain ⟨hoq, hv⟩ := bif_t hv
          obtain ⟨h2', hs2, hv⟩ := Option.bind_eq_some_iff.1 hv
          cases hv; cases hop
          cases Nat.eq_of_beq_eq_true hs
          have hoq' := Nat.eq_of_beq_eq_true hoq
          obtain ⟨x2, hx2, hob, _⟩ := hst.obj n _ (getC_get hq)
          rw [hbl] at hx2; cases hx2
          obtain ⟨cs, fr, xs, g1, g2, g3, g4, g5⟩ := CellsOk.ex hob
          dsimp only at g2 g4
          simp only [if_true] at g4
          have hcap : q + (len + k) ≤ bl.K := by
            have a1 : o + (len + k) * s ≤ vs.length := Nat.le_of_ble_eq_true hc
            have a2 := denL_len g2
            have a3 : (q + (len + k)) * s ≤ bl.K * s := by rw [Nat.add_mul, ← hoq']; omega
            exact Nat.le_of_mul_le_mul_right a3 hT.pos
          obtain ⟨w', r1, r2, r3⟩ := setV_ok (P := P) hst h1 hbl hs2 nx
          refine ⟨ε, .slice (some ⟨bl.b, bl.q + o, none⟩) (len + k) (bl.K - q), w', ?_, ?_, r3, r2⟩
          · refine append_in hP ht hd hT.size hu hkk h4 h3 (by omega) ?_
            show (storeCells ((⟨bl.b, bl.q + o, none⟩ : Addr).add (len * s)) ys).run P w = _
            rw [add_off]; exact r1
          · unfold den; rw [hbl]
            show (if len + k + q ≤ bl.K then _ else none) = _
            rw [if_pos (by omega)]
    | _ => cases hv
end
end
end Go.Proofs.YtohikcchbjchkaaGreatDoor.Sx

/- The operations that change memory: maps, iterators, copy. -/
namespace Go.Proofs.YtohikcchbjchkaaGreatDoor.Sx
open Go
section
variable {P : Program} {c : Cx}
theorem Io.drew (w : World) : Io w w.drew := ⟨rfl, rfl⟩
theorem setObj_upd {B : Nat} {ε : Env} {h : Tr SO} {w : World} (hs : Sat c B ε h w) {n : Pa} {o o' : SO} {x : Blk} (hn : Tr.get n h = some o) (ho : ownP c n = true) (hx : ε n = some x) {ob ob' : Obj} (hw : w.heap[x.b]? = some ob) (hob : ObjOk ε { w with heap := w.heap.setIfInBounds x.b ob' } x o') (nx : Nat) (hc : ∀ a b c, ob ≠ .cells a b c) :
    (setObj x.b ob').run P w = .ok () { w with heap := w.heap.setIfInBounds x.b ob' } ∧ Sat c B ε (Tr.set (some o') n h) { w with heap := w.heap.setIfInBounds x.b ob' } ∧ Goes c ε h nx w ε (Tr.set (some o') n h) nx { w with heap := w.heap.setIfInBounds x.b ob' } := by
  refine ⟨?_, sat_upd hs hn ho hx (by simp) (fun b hb => ?_) hob nx⟩
  · unfold setObj
    simp only [Sem.run, hw]
  · dsimp only
    rw [Array.getElem?_setIfInBounds_ne (Ne.symm hb)]
theorem map_at {B : Nat} {ε : Env} {h : Tr SO} {w : World} (hs : Sat c B ε h w) {n : Pa} {es : List (SV × SV × Nat)} {clock : Nat} {x : Blk} (hn : Tr.get n h = some (.map es clock)) (hx : ε n = some x) : ∃ m : Array MapEntry, w.heap[x.b]? = some (.map m clock) ∧ EntOk ε es m.toList := by
  obtain ⟨x', hx', ho, _⟩ := hs.obj n _ hn
  rw [hx] at hx'; cases hx'
  exact ho
theorem ent_append {ε : Env} {l l2 : List (SV × SV × Nat)} {m m2 : List MapEntry} (h : EntOk ε l m) (h2 : EntOk ε l2 m2) : EntOk ε (l ++ l2) (m ++ m2) := by
  induction h with
  | nil => exact h2
  | cons a b _ ih => exact .cons a b ih
/-! ### Keys that are found -/
theorem upd_ok (hP : POk P c) {ε : Env} {kt : Nat} {k v : SV} {k' v' : Value} (hk : den ε k = some k') (hv : den ε v = some v') (w : World) : ∀ {es : List (SV × SV × Nat)} {m : List MapEntry} {r : Option (List (SV × SV × Nat))} (i : Nat), EntOk ε es m → upd c kt k v es = some r →
    (r = none → (Instr.findAsking kt k' m i).run P w = .ok none w) ∧ (∀ es', r = some es' → ∃ j y e, (Instr.findAsking kt k' m i).run P w = .ok (some (i + j, y)) w ∧ m[j]? = some e ∧ e.key = k' ∧ EntOk ε es' (m.modify j fun e => { e with key := k', val := v' }))
  | [], _, r, i, .nil, h => by cases h; exact ⟨fun _ => rfl, fun _ e => by cases e⟩
  | (k1, v1, b1) :: es, _, r, i, .cons (x := x) (y := y) (m := m) h1 h2 h3, h => by
    obtain ⟨b, hb, h⟩ := Option.bind_eq_some_iff.1 (show (eqT c 64 false kt k k1).bind _ = some r from h)
    have he := eqT_ok hP 64 false kt k k1 b hb hk h1 Op.maxDepth (by decide) w
    have he' : (Op.equal kt k' x).run P w = .ok b w := he
    have hrun : (Instr.findAsking kt k' (⟨x, y, b1⟩ :: m) i).run P w = if b = true then .ok (some (i, y)) w else (Instr.findAsking kt k' m (i + 1)).run P w := by
      conv => lhs; unfold Instr.findAsking
      simp only [Sem.run_bind, he', Result.andThen_ok]
      cases b <;> rfl
    cases b with
    | true =>
      obtain ⟨hse, h⟩ := bif_t (show (bif svEq 1000 k k1 then some (some ((k, v, b1) :: es)) else none) = some r from h)
      cases h
      refine ⟨(fun e => by cases e), fun es' e => ?_⟩
      cases e
      have hkk := svEq_eq 1000 k k1 hse
      subst hkk
      rw [hk] at h1; cases h1
      exact ⟨0, y, ⟨k', y, b1⟩, by rw [hrun]; simp, rfl, rfl, .cons hk hv h3⟩
    | false =>
      have h' : ((upd c kt k v es).bind fun r => match r with
        | some l => some (some ((k1, v1, b1) :: l))
        | none => some none) = some r := h
      obtain ⟨r1, hr1, h''⟩ := Option.bind_eq_some_iff.1 h'
      obtain ⟨n1, n2⟩ := upd_ok hP hk hv w (i + 1) h3 hr1
      rw [if_neg (by simp)] at hrun
      cases r1 with
      | none =>
        cases h''
        exact ⟨fun _ => hrun.trans (n1 rfl), fun _ e => by cases e⟩
      | some l =>
        cases h''
        refine ⟨(fun e => by cases e), fun es' e => ?_⟩
        cases e
        obtain ⟨j, z, e, q1, q2, q3, q4⟩ := n2 l rfl
        exact ⟨j + 1, z, e, by rw [hrun, q1, Nat.add_assoc, Nat.add_comm 1 j], by simpa using q2, q3, .cons h1 h2 q4⟩
theorem era_ok (hP : POk P c) {ε : Env} {kt : Nat} {k : SV} {k' : Value} (hk : den ε k = some k') (w : World) : ∀ {es es' : List (SV × SV × Nat)} {m : List MapEntry} (i : Nat), EntOk ε es m → era c kt k es = some es' →
    ((Instr.findAsking kt k' m i).run P w = .ok none w ∧ EntOk ε es' m) ∨ (∃ j y, (Instr.findAsking kt k' m i).run P w = .ok (some (i + j, y)) w ∧ j < m.length ∧ EntOk ε es' (m.eraseIdx j))
  | [], es', _, i, .nil, h => by cases h; exact .inl ⟨rfl, .nil⟩
  | (k1, v1, b1) :: es, es', _, i, .cons (x := x) (y := y) (m := m) h1 h2 h3, h => by
    obtain ⟨b, hb, h⟩ := Option.bind_eq_some_iff.1 (show (eqT c 64 false kt k k1).bind _ = some es' from h)
    have he := eqT_ok hP 64 false kt k k1 b hb hk h1 Op.maxDepth (by decide) w
    have he' : (Op.equal kt k' x).run P w = .ok b w := he
    have hrun : (Instr.findAsking kt k' (⟨x, y, b1⟩ :: m) i).run P w = if b = true then .ok (some (i, y)) w else (Instr.findAsking kt k' m (i + 1)).run P w := by
      conv => lhs; unfold Instr.findAsking
      simp only [Sem.run_bind, he', Result.andThen_ok]
      cases b <;> rfl
    cases b with
    | true =>
      have h' : some es = some es' := h
      cases h'
      exact .inr ⟨0, y, by rw [hrun]; simp, by simp, h3⟩
    | false =>
      have h' : ((era c kt k es).bind fun r => some ((k1, v1, b1) :: r)) = some es' := h
      obtain ⟨r1, hr1, h''⟩ := Option.bind_eq_some_iff.1 h'
      cases h''
      rw [if_neg (by simp)] at hrun
      rcases era_ok hP hk w (i + 1) h3 hr1 with ⟨q1, q2⟩ | ⟨j, z, q1, q2, q3⟩
      · exact .inl ⟨hrun.trans q1, .cons h1 h2 q2⟩
      · exact .inr ⟨j + 1, z, by rw [hrun, q1, Nat.add_assoc, Nat.add_comm 1 j], by simpa using q2, .cons h1 h2 q3⟩
theorem und_key (hP : POk P c) {kt : Nat} {k : SV} (hko : keyOk c kt k = true) : ∃ kd, P.underlying kt = some kd := by
  unfold keyOk at hko
  split at hko
  · cases hko
  · rename_i d hd; exact ⟨d, und_ok hP hd⟩
theorem same_plain {ε : Env} {v : SV} (h : plainKey v = true) {y : Value} (hy : den ε v = some y) (n : Nat) : Instr.sameBits n y y = true := by
  cases v with
  | bool b => cases hy; cases n <;> simp [Instr.sameBits]
  | int k m => cases hy; cases n <;> simp [Instr.sameBits]
  | str s =>
    cases hy
    have : ((⟨s.toArray⟩ : ByteArray) == ⟨s.toArray⟩) = true := by
      show (s.toArray == s.toArray) = true
      simp
    cases n <;> simpa [Instr.sameBits] using this
  | _ => cases h
theorem same_zip {ε : Env} (n : Nat) : ∀ {l : List SV} {ys : List Value}, l.all plainKey = true → denL ε l = some ys → ((ys.zip ys).all fun (x, y) => Instr.sameBits n x y) = true
  | [], ys, _, h => by cases h; rfl
  | v :: l, ys, hp, h => by
    obtain ⟨y, zs, h1, h2, rfl⟩ := denL_cons h
    rw [List.all_cons, Bool.and_eq_true] at hp
    rw [List.zip_cons_cons, List.all_cons, same_zip n hp.2 h2]
    show (Instr.sameBits n y y && true) = true
    rw [same_plain hp.1 h1 n]; rfl
theorem same_key {kt : Nat} {k : SV} (hko : keyOk c kt k = true) {ε : Env} {y : Value} (hy : den ε k = some y) (n : Nat) : Instr.sameBits (n + 1) y y = true := by
  have hp : plainKey k = true ∨ ∃ l, k = .agg l ∧ l.all plainKey = true := by
    unfold keyOk at hko
    split at hko
    · cases hko
    · split at hko
      · split at hko
        · rename_i l
          refine .inr ⟨l, rfl, ?_⟩
          cases h : l.all plainKey with
          | true => rfl
          | false => rw [h] at hko; cases hko
        · cases hko
      · rename_i d _ _ _
        cases hk1 : kt1 d with
        | true => rw [hk1] at hko; exact .inl hko
        | false => rw [hk1] at hko; cases hko
  rcases hp with h | ⟨l, rfl, h⟩
  · exact same_plain h hy _
  · unfold den at hy
    obtain ⟨ys, h1, h2⟩ := Option.bind_eq_some_iff.1 hy
    cases h2
    unfold Instr.sameBits
    have := same_zip n h h1
    simpa using this
/-! ### Entries laid, entries taken -/
theorem mIns_ok (hP : POk P c) {t kt et : Nat} (hd : undT c.ty t = some (.map kt et)) {B : Nat} {ε : Env} {h h' : Tr SO} {w : World} {nx nx' : Nat} (hst : Sat c B ε h w) {m k v r : SV} {m' k' v' : Value} (hm : den ε m = some m') (hk : den ε k = some k') (hv : den ε v = some v') (hr : mIns c h nx kt m k v = some (r, h', nx')) :
    nx' = nx ∧ ∃ w', (Instr.mapUpdate t m' k' v').run P w = .ok () w' ∧ r = .tup [] ∧ Goes c ε h nx w ε h' nx w' ∧ Sat c B ε h' w' := by
  unfold mIns at hr
  obtain ⟨hko, hr⟩ := bif_t hr
  cases m <;> try cases hr
  rename_i n
  obtain ⟨hown, hr⟩ := bif_t hr
  obtain ⟨ob, hn, hr⟩ := Option.bind_eq_some_iff.1 hr
  cases ob <;> try cases hr
  rename_i es clock
  obtain ⟨u, hu, hr⟩ := Option.bind_eq_some_iff.1 hr
  obtain ⟨x, hx, rfl⟩ := den_map hm
  obtain ⟨ma, hw, hent⟩ := map_at hst hn hx
  obtain ⟨kd, ukd⟩ := und_key hP hko
  have hro := run_getObj (P := P) hw (by simp)
  have hck := checkKey_ok hP hko hk false 9998 w
  obtain ⟨n1, n2⟩ := upd_ok hP hk hv w 0 hent hu
  have ud := und_ok hP hd
  cases u with
  | none =>
    cases hr
    have hfr := findKey_run (P := P) ukd (n1 rfl)
    obtain ⟨q1, q2, q3⟩ := setObj_upd (P := P) hst hn hown hx hw (ob' := .map (ma.push { key := k', val := v', born := clock }) (clock + 1)) (o' := .map (es ++ [(k, v, clock)]) (clock + 1))
      ⟨_, by rw [Array.getElem?_setIfInBounds_self_of_lt (Array.getElem?_eq_some_iff.1 hw).1], by
        rw [Array.toList_push]
        exact ent_append hent (.cons hk hv .nil)⟩ nx (by simp)
    refine ⟨rfl, _, ?_, rfl, q3, q2⟩
    unfold Instr.mapUpdate
    simp only [Sem.run_bind, run_underlying ud, Result.andThen_ok, hro, hck, hfr, q1]
  | some es' =>
    cases hr
    obtain ⟨j, y, e, f1, f2, f3, f4⟩ := n2 es' rfl
    have hfr := findKey_run (P := P) ukd f1
    obtain ⟨q1, q2, q3⟩ := setObj_upd (P := P) hst hn hown hx hw (ob' := .map (ma.modify j fun e => { e with key := k', val := v' }) clock) (o' := .map es' clock)
      ⟨_, by rw [Array.getElem?_setIfInBounds_self_of_lt (Array.getElem?_eq_some_iff.1 hw).1], by rw [Array.toList_modify]; exact f4⟩ nx (by simp)
    refine ⟨rfl, _, ?_, rfl, q3, q2⟩
    have hold : ((ma[0 + j]?).map (·.key)).getD k' = k' := by
      have : ma[0 + j]? = some e := by rw [Nat.zero_add]; simpa using f2
      rw [this]; exact f3
    unfold Instr.mapUpdate
    simp only [Sem.run_bind, run_underlying ud, Result.andThen_ok, hro, hck, hfr, hold, Instr.keyThatStays, same_key hko hk, if_true, Sem.run_pure]
    rw [Nat.zero_add]; exact q1
theorem mDel_ok (hP : POk P c) {ats : Array TypeId} {ty t kt et : Nat} (hat : ats[0]? = some t) (hd : undT c.ty t = some (.map kt et)) {B : Nat} {ε : Env} {h h' : Tr SO} {w : World} {nx nx' : Nat} (hst : Sat c B ε h w) {m k r : SV} {m' k' : Value} (hm : den ε m = some m') (hk : den ε k = some k') (hr : mDel c h nx kt m k = some (r, h', nx')) :
    nx' = nx ∧ ∃ w', (Builtin.delete_ ats ty #[m', k']).run P w = .ok (.tuple #[]) w' ∧ r = .tup [] ∧ Goes c ε h nx w ε h' nx w' ∧ Sat c B ε h' w' := by
  unfold mDel at hr
  obtain ⟨hko, hr⟩ := bif_t hr
  have ud := und_ok hP hd
  cases m <;> try cases hr
  · rename_i n
    obtain ⟨hown, hr⟩ := bif_t hr
    obtain ⟨ob, hn, hr⟩ := Option.bind_eq_some_iff.1 hr
    cases ob <;> try cases hr
    rename_i es clock
    obtain ⟨es', hu, hr⟩ := Option.bind_eq_some_iff.1 hr
    cases hr
    obtain ⟨x, hx, rfl⟩ := den_map hm
    obtain ⟨ma, hw, hent⟩ := map_at hst hn hx
    obtain ⟨kd, ukd⟩ := und_key hP hko
    have hro := run_getObj (P := P) hw (by simp)
    have hck := checkKey_ok hP hko hk ma.isEmpty 9998 w
    have hlt := (Array.getElem?_eq_some_iff.1 hw).1
    rcases era_ok hP hk w 0 hent hu with ⟨f1, f2⟩ | ⟨j, y, f1, f2, f3⟩
    · have hfr := findKey_run (P := P) ukd f1
      obtain ⟨q1, q2, q3⟩ := setObj_upd (P := P) hst hn hown hx hw (ob' := .map ma clock) (o' := .map es' clock) ⟨_, by rw [Array.getElem?_setIfInBounds_self_of_lt hlt], f2⟩ nx (by simp)
      refine ⟨rfl, _, ?_, rfl, q3, q2⟩
      simp [Builtin.delete_, hat, run_underlying ud, hro, hck, hfr, q1]
    · have hfr := findKey_run (P := P) ukd f1
      obtain ⟨q1, q2, q3⟩ := setObj_upd (P := P) hst hn hown hx hw (ob' := .map (ma.eraseIdxIfInBounds j) clock) (o' := .map es' clock)
        ⟨_, by rw [Array.getElem?_setIfInBounds_self_of_lt hlt], by
          have hj : j < ma.size := by simpa using f2
          rw [Array.eraseIdxIfInBounds, dif_pos hj, Array.toList_eraseIdx]; exact f3⟩ nx (by simp)
      refine ⟨rfl, _, ?_, rfl, q3, q2⟩
      simp [Builtin.delete_, hat, run_underlying ud, hro, hck, hfr, q1]
  · cases hm
    have hck := checkKey_ok hP hko hk true 9998 w
    exact ⟨rfl, w, by simp [Builtin.delete_, hat, run_underlying ud, hck], rfl, Goes.refl _ _ _ _ _, hst⟩
theorem mClrM_ok (hP : POk P c) {ats : Array TypeId} {ty t kt et : Nat} (hat : ats[0]? = some t) (hd : undT c.ty t = some (.map kt et)) {B : Nat} {ε : Env} {h h' : Tr SO} {w : World} {nx nx' : Nat} (hst : Sat c B ε h w) {m r : SV} {m' : Value} (hm : den ε m = some m') (hr : mClrM c h nx m = some (r, h', nx')) :
    nx' = nx ∧ ∃ w', (Builtin.clear_ ats ty #[m']).run P w = .ok (.tuple #[]) w' ∧ r = .tup [] ∧ Goes c ε h nx w ε h' nx w' ∧ Sat c B ε h' w' := by
  unfold mClrM at hr
  have ud := und_ok hP hd
  cases m <;> try cases hr
  · rename_i n
    obtain ⟨hown, hr⟩ := bif_t hr
    obtain ⟨ob, hn, hr⟩ := Option.bind_eq_some_iff.1 hr
    have key : ∃ es clock, ob = .map es clock ∧ r = .tup [] ∧ h' = Tr.set (some (.map [] clock)) n h ∧ nx' = nx := by
      cases ob with
      | map es clock => cases hr; exact ⟨es, clock, rfl, rfl, rfl, rfl⟩
      | _ => cases hr
    obtain ⟨es, clock, rfl, rfl, rfl, rfl⟩ := key
    clear hr
    obtain ⟨x, hx, rfl⟩ := den_map hm
    obtain ⟨ma, hw, hent⟩ := map_at hst hn hx
    have hro := run_getObj (P := P) hw (by simp)
    have hlt := (Array.getElem?_eq_some_iff.1 hw).1
    obtain ⟨q1, q2, q3⟩ := setObj_upd (P := P) hst hn hown hx hw (ob' := .map #[] clock) (o' := .map [] clock) ⟨_, by rw [Array.getElem?_setIfInBounds_self_of_lt hlt], .nil⟩ _ (by simp)
    refine ⟨rfl, _, ?_, rfl, q3, q2⟩
    simp [Builtin.clear_, hat, run_underlying ud, hro, q1]
  · cases hm
    exact ⟨rfl, w, by simp [Builtin.clear_, hat, run_underlying ud], rfl, Goes.refl _ _ _ _ _, hst⟩
/-! ### Copies -/
theorem mCpy_ok (hP : POk P c) {ats : Array TypeId} {ty t e s : Nat} (hat : ats[0]? = some t) (hd : undT c.ty t = some (.slice e)) (hs : sizeT c.ty e = some s) {B : Nat} {ε : Env} {h h' : Tr SO} {w : World} {nx nx' : Nat} (hst : Sat c B ε h w) {d x r : SV} {d' x' : Value} (hdv : den ε d = some d') (hxv : den ε x = some x') (hr : mCpy c h nx s d x = some (r, h', nx')) :
    nx' = nx ∧ ∃ y w', (Builtin.copy_ ats ty #[d', x']).run P w = .ok y w' ∧ den ε r = some y ∧ Goes c ε h nx w ε h' nx w' ∧ Sat c B ε h' w' := by
  unfold mCpy at hr
  obtain ⟨k, hk, hr⟩ := Option.bind_eq_some_iff.1 hr
  obtain ⟨k', hk', hr⟩ := Option.bind_eq_some_iff.1 hr
  obtain ⟨new, hnew, hr⟩ := Option.bind_eq_some_iff.1 hr
  obtain ⟨ys, h1, h2, h3, h4⟩ := srcOf_ok (P := P) hst hxv hk (Nat.min_le_left k k') hnew
  have ud := und_ok hP hd
  have hsz := run_size hP hs w
  have hmin : Nat.min k k' = min k k' := rfl
  cases d with
  | nilsl =>
    cases hk'; cases hr; cases hdv
    refine ⟨rfl, .int .i64 0, w, ?_, rfl, Goes.refl _ _ _ _ _, hst⟩
    have e0 : min k 0 = 0 := Nat.min_zero k
    rw [e0] at h3
    simp [Builtin.copy_, hat, run_underlying ud, h4, hsz, h3, goInt]
  | slt n o o' q =>
    cases hk'; cases hr
    obtain ⟨A, q', rfl⟩ := den_slt hdv
    refine ⟨rfl, .int .i64 0, w, ?_, rfl, Goes.refl _ _ _ _ _, hst⟩
    have e0 : min k 0 = 0 := Nat.min_zero k
    rw [e0] at h3
    have e1 : ys = [] := List.eq_nil_of_length_eq_zero (by rw [h2, e0, Nat.zero_mul])
    subst e1
    simp [Builtin.copy_, hat, run_underlying ud, h4, hsz, h3, goInt, storeCells]
  | sl n o len cp =>
    obtain rfl : len = k' := by cases hk'; rfl
    obtain ⟨blk, kk, hbl, rfl, _⟩ := den_sl hdv
    cases h0 : Nat.beq (min k len) 0 with
    | true =>
      have hr' : some (SV.int .i64 0, h, nx) = some (r, h', nx') := by rw [h0] at hr; exact hr
      cases hr'
      have e0 : min k len = 0 := Nat.eq_of_beq_eq_true h0
      refine ⟨rfl, .int .i64 0, w, ?_, rfl, Goes.refl _ _ _ _ _, hst⟩
      have e1 : ys = [] := List.eq_nil_of_length_eq_zero (by rw [h2, e0, Nat.zero_mul])
      subst e1
      rw [e0] at h3
      simp [Builtin.copy_, hat, run_underlying ud, h4, hsz, hmin, e0, h3, goInt, storeCells]
    | false =>
      have hr' : ((setV c h n o new).bind fun h => some (SV.int .i64 (Int.ofNat (min k len)), h, nx)) = some (r, h', nx') := by rw [h0] at hr; exact hr
      obtain ⟨h2', hh2, hr2⟩ := Option.bind_eq_some_iff.1 hr'
      cases hr2
      obtain ⟨w', r1, r2, r3⟩ := setV_ok (P := P) hst h1 hbl hh2 nx
      refine ⟨rfl, _, w', ?_, rfl, r3, r2⟩
      simp [Builtin.copy_, hat, run_underlying ud, h4, hsz, hmin, h3, goInt, r1]
  | _ => first | (cases hk'; done) | (cases hr; done)
/-! ### Iterators -/
theorem unseen_filter {ε : Env} (seen : List Nat) : ∀ {es : List (SV × SV × Nat)} {m : List MapEntry}, EntOk ε es m → EntOk ε (unseen seen es) (m.filter fun e => !(seen.any (Nat.beq e.born)))
  | [], _, .nil => .nil
  | (k, v, b) :: es, _, .cons (x := x) (y := y) (m := m) h1 h2 h3 => by
    have ih := unseen_filter seen h3
    show EntOk ε (bif seen.any (Nat.beq b) then unseen seen es else (k, v, b) :: unseen seen es) _
    rw [List.filter_cons]
    cases e : seen.any (Nat.beq b) with
    | true => simpa [e] using ih
    | false => simpa [e] using EntOk.cons h1 h2 ih
theorem okLast_all {ε : Env} {seen : List Nat} {last : Nat} {es : List (SV × SV × Nat)} {m : List MapEntry} (h : EntOk ε es m) (hl : okLast seen es last = true) : (!seen.isEmpty && !m.isEmpty && m.all (·.born ≥ last)) = false := by
  cases seen with
  | nil => rfl
  | cons a seen =>
    cases h with
    | nil => rfl
    | cons h1 h2 h3 =>
      rename_i k v b x y l m
      have hany : ∀ {es : List (SV × SV × Nat)} {m : List MapEntry}, EntOk ε es m → (es.any fun e => Nat.blt e.2.2 last) = true → (m.all fun e => decide (e.born ≥ last)) = false := by
        intro es m h
        induction h with
        | nil => intro h; cases h
        | cons q1 q2 q3 ih =>
          rename_i k v b x y l m
          intro h
          rw [List.any_cons, Bool.or_eq_true] at h
          rw [List.all_cons]
          rcases h with h | h
          · have : ¬ (b ≥ last) := by
              have h' : Nat.blt b last = true := h
              have : b < last := by simpa using h'
              omega
            have e : decide (b ≥ last) = false := decide_eq_false this
            show (decide (b ≥ last) && _) = false
            rw [e]; rfl
          · rw [ih h, Bool.and_false]
      have := hany (EntOk.cons h1 h2 h3) hl
      rw [this, Bool.and_false]
theorem mNext_ok {isS : Bool} {ty : Nat} {B : Nat} {ε : Env} {h h' : Tr SO} {w : World} {nx nx' : Nat} (hst : Sat c B ε h w) {v r : SV} {v' : Value} (hv : den ε v = some v') (hr : mNext c h nx isS v = some (r, h', nx')) :
    nx' = nx ∧ ∃ y w', (Instr.next v' isS ty).run P w = .ok y w' ∧ den ε r = some y ∧ Goes c ε h nx w ε h' nx w' ∧ Sat c B ε h' w' := by
  unfold mNext at hr
  cases v <;> try cases hr
  rename_i n o
  obtain ⟨ho, hr⟩ := bif_t hr
  obtain ⟨hown, hr⟩ := bif_t hr
  obtain ⟨ob, hn, hr⟩ := Option.bind_eq_some_iff.1 hr
  have := Nat.eq_of_beq_eq_true ho
  subst this
  obtain ⟨x, hx, rfl⟩ := den_ptr hv
  cases ob <;> try cases hr
  · rename_i s pos
    obtain ⟨x', hx', hob, _⟩ := hst.obj n _ hn
    rw [hx] at hx'; cases hx'
    obtain ⟨hw, hq⟩ := hob
    have hro := run_getObj (P := P) hw (by simp)
    have hlt := (Array.getElem?_eq_some_iff.1 hw).1
    cases isS with
    | false => cases hr
    | true =>
      cases hb : nth s pos with
      | none =>
        have hr' : (bif Nat.ble s.length pos then some (SV.tup [SV.bool false], h, nx) else none) = some (r, h', nx') := by
          have := hr; simp only [cond_true] at this; rw [hb] at this; exact this
        obtain ⟨hle, hr2⟩ := bif_t hr'
        cases hr2
        have hle' := Nat.le_of_ble_eq_true hle
        refine ⟨rfl, .tuple #[.bool false], w, ?_, rfl, Goes.refl _ _ _ _ _, hst⟩
        unfold Instr.next
        have hns : ¬ (pos < (⟨s.toArray⟩ : ByteArray).size) := by show ¬ (pos < s.length); omega
        simp only [hq, Nat.add_zero, Sem.run_bind, hro, Result.andThen_ok, if_neg hns]; rfl
      | some b =>
        have hr' : (bif Nat.blt b.toNat 128 then some (SV.tup [SV.bool true, SV.int .i64 (Int.ofNat pos), SV.int .i32 (Int.ofNat b.toNat)], Tr.set (some (.siter s (pos + 1))) n h, nx) else none) = some (r, h', nx') := by
          have := hr; simp only [cond_true] at this; rw [hb] at this; exact this
        obtain ⟨hlt2, hr2⟩ := bif_t hr'
        cases hr2
        have hb' : s[pos]? = some b := by rw [← nth_get]; exact hb
        have hpos : pos < s.length := (List.getElem?_eq_some_iff.1 hb').1
        have hb128 : b.toNat < 128 := by simpa using hlt2
        obtain ⟨q1, q2, q3⟩ := setObj_upd (P := P) hst hn hown hx hw (ob' := .stringIter ⟨s.toArray⟩ (pos + 1)) (o' := .siter s (pos + 1)) ⟨by rw [Array.getElem?_setIfInBounds_self_of_lt hlt], hq⟩ nx (by simp)
        refine ⟨rfl, .tuple #[.bool true, .int .i64 (Int.ofNat pos), .int .i32 (Int.ofNat b.toNat)], _, ?_, rfl, q3, q2⟩
        unfold Instr.next
        have hns : pos < (⟨s.toArray⟩ : ByteArray).size := hpos
        have hdec : Utf8.decode ⟨s.toArray⟩ pos = (b.toNat, 1) := by
          have hg : (⟨s.toArray⟩ : ByteArray).get! (pos + 0) = b := by
            show (s.toArray)[pos + 0]! = b
            simp [hb']
          unfold Utf8.decode
          simp only [hg]
          rw [if_pos (by omega)]
        simp only [hq, Nat.add_zero, Sem.run_bind, hro, Result.andThen_ok, if_pos hns, hdec, q1]; rfl
  · rename_i m since seen last
    obtain ⟨x', hx', hob, _⟩ := hst.obj n _ hn
    rw [hx] at hx'; cases hx'
    obtain ⟨rr, sn, hw, hq, hseen, hm⟩ := hob
    have hro := run_getObj (P := P) hw (by simp)
    have hlt := (Array.getElem?_eq_some_iff.1 hw).1
    cases isS with
    | true => cases hr
    | false =>
      cases m with
      | none =>
        cases hr
        dsimp only at hm; subst hm
        refine ⟨rfl, .tuple #[.bool false], w, ?_, rfl, Goes.refl _ _ _ _ _, hst⟩
        unfold Instr.next
        simp only [hq, Nat.add_zero, Sem.run_bind, hro, Result.andThen_ok]; rfl
      | some mm =>
        obtain ⟨ob2, hn2, hr⟩ := Option.bind_eq_some_iff.1 (show ((Tr.get mm h).bind _) = some (r, h', nx') from hr)
        obtain ⟨y, hy, rfl⟩ := hm
        cases ob2 <;> try cases hr
        rename_i es clock
        obtain ⟨hok, hr⟩ := bif_t hr
        obtain ⟨ma, hwm, hent⟩ := map_at hst hn2 hy
        have hrm := run_getObj (P := P) hwm (by simp)
        have hall := okLast_all hent hok
        have hsn : (sn.isEmpty) = seen.isEmpty := by
          rw [← hseen]
          cases hh : sn.toList with
          | nil => have : sn = #[] := by apply Array.ext'; simpa using hh
                   subst this; rfl
          | cons a l => 
            have : sn.isEmpty = false := by
              cases he : sn.isEmpty with
              | false => rfl
              | true => rw [Array.isEmpty_iff.1 he] at hh; cases hh
            rw [this]; simp
        have hall' : (!sn.isEmpty && !ma.isEmpty && ma.all (·.born ≥ last)) = false := by
          rw [hsn, ← Array.isEmpty_toList, ← Array.all_toList]; exact hall
        have hflt := unseen_filter seen hent
        have hcont : ∀ e : MapEntry, (seen.any (Nat.beq e.born)) = sn.contains e.born := by
          intro e
          rw [Bool.eq_iff_iff, List.any_eq_true, Array.contains_iff_mem, ← Array.mem_toList_iff, ← List.mem_reverse, hseen]
          constructor
          · rintro ⟨z, hz, e2⟩; rw [Nat.eq_of_beq_eq_true e2]; exact hz
          · intro hz; exact ⟨_, hz, Nat.beq_refl _⟩
        have hleft : (ma.filter fun e => !sn.contains e.born).toList = ma.toList.filter fun e => !(seen.any (Nat.beq e.born)) := by
          rw [Array.toList_filter]
          congr 1
          funext e; rw [hcont e]
        cases hu : unseen seen es with
        | nil =>
          rw [hu] at hr hflt
          cases hr
          rw [← hleft] at hflt
          have hl0 : (ma.filter fun e => !sn.contains e.born) = #[] := by
            generalize (ma.filter fun e => !sn.contains e.born) = A at hflt
            obtain ⟨A⟩ := A
            cases hflt; rfl
          refine ⟨rfl, .tuple #[.bool false], w, ?_, rfl, Goes.refl _ _ _ _ _, hst⟩
          unfold Instr.next
          simp only [hq, Nat.add_zero, Sem.run_bind, hro, hrm, Result.andThen_ok, hall', hl0]
          simp [Question.forced]
        | cons q rest =>
          obtain ⟨k, vv, b⟩ := q
          rw [hu] at hr hflt
          cases rest with
          | cons _ _ => cases hr
          | nil =>
            obtain ⟨hbs, hr⟩ := bif_t (show (bif Nat.blt b since then some (SV.tup [.bool true, k, vv], Tr.set (some (.miter (some mm) since (b :: seen) clock)) n h, nx) else none) = some (r, h', nx') from hr)
            cases hr
            rw [← hleft] at hflt
            obtain ⟨k', v2, hl1, hdk, hdv⟩ : ∃ k' v2, (ma.filter fun e => !sn.contains e.born) = #[⟨k', v2, b⟩] ∧ den ε k = some k' ∧ den ε vv = some v2 := by
              generalize (ma.filter fun e => !sn.contains e.born) = A at hflt
              obtain ⟨A⟩ := A
              cases hflt with
              | cons a1 a2 a3 =>
                cases a3
                exact ⟨_, _, rfl, a1, a2⟩
            have hlt2 : b < since := by simpa using hbs
            obtain ⟨q1, q2, q3⟩ := setObj_upd (P := P) hst hn hown hx hw (ob' := .mapIter (some y.b) since (sn.push b) clock) (o' := .miter (some mm) since (b :: seen) clock) ⟨_, _, by rw [Array.getElem?_setIfInBounds_self_of_lt hlt], hq, by simp [hseen], y, hy, rfl⟩ nx (by simp)
            refine ⟨rfl, .tuple #[.bool true, k', v2], _, ?_, ?_, q3, q2⟩
            · unfold Instr.next
              simp only [hq, Nat.add_zero, Sem.run_bind, hro, hrm, Result.andThen_ok, hall', hl1]
              simp [Question.forced, hlt2, q1]
            · show (denL ε [SV.bool true, k, vv]).bind _ = _
              rw [denL_mk (rfl : den ε (.bool true) = some (.bool true)) (denL_mk hdk (denL_mk hdv rfl))]
              rfl
/-! ### As operations -/
theorem mok_ins (hP : POk P c) {t : Nat} {x y z : Operand} {op : Op} (hop : op = .insert t x y z ∨ op = .mapUpdate t x y z) {g : MF} (h : compM c op = some g) : MOk P c op g := by
  have h' : ((undT c.ty t).bind fun d => match d with
    | .map kt _ => (opdT c.ng x).bind fun m => (opdT c.ng y).bind fun k => (opdT c.ng z).bind fun v => some fun h nx f => (opv f v).bind fun vv => op2 f m k fun mv kv => mIns c h nx kt mv kv vv
    | _ => none) = some g := by
    rcases hop with rfl | rfl <;> exact h
  obtain ⟨d, hd, h1⟩ := Option.bind_eq_some_iff.1 h'
  cases d <;> try cases h1
  rename_i kt et
  obtain ⟨X, hX, h1⟩ := Option.bind_eq_some_iff.1 h1
  obtain ⟨Y, hY, h1⟩ := Option.bind_eq_some_iff.1 h1
  obtain ⟨Z, hZ, h1⟩ := Option.bind_eq_some_iff.1 h1
  cases h1
  intro B ε h nx f a w o v h' nx' ho hst hB hf hg hr hfr
  obtain ⟨vv, hvv, hr⟩ := Option.bind_eq_some_iff.1 hr
  obtain ⟨m, k, hm, hk, hr⟩ := op2_inv hr
  obtain ⟨m', hm', e1⟩ := opd_ok hf hg hX hm
  obtain ⟨k', hk', e2⟩ := opd_ok hf hg hY hk
  obtain ⟨v', hv', e3⟩ := opd_ok hf hg hZ hvv
  obtain ⟨rfl, w', r1, rfl, r2, r3⟩ := mIns_ok hP hd hst hm' hk' hv' hr
  refine ⟨ε, undef, w', .skip, ?_, .inr ⟨rfl, rfl⟩, rfl, r2, r3⟩
  have e : execOp a.eval o = (do Instr.mapUpdate t (a.eval x) (a.eval y) (a.eval z); pure .skip) := by
    unfold execOp
    rw [ho]
    rcases hop with rfl | rfl <;> rfl
  rw [e, e1, e2, e3]
  simp only [Sem.run_bind, r1, Result.andThen_ok, Sem.run_pure]
theorem mok_next {x : Operand} {s : Bool} {g : MF} (h : compM c (.next x s) = some g) : MOk P c (.next x s) g := by
  unfold compM at h; dsimp only at h
  obtain ⟨X, hX, h1⟩ := Option.bind_eq_some_iff.1 h
  cases h1
  intro B ε h nx f a w o v h' nx' ho hst hB hf hg hr hfr
  obtain ⟨p, hp, hr⟩ := Option.bind_eq_some_iff.1 hr
  obtain ⟨p', hp', e1⟩ := opd_ok hf hg hX hp
  obtain ⟨rfl, y, w', r1, r2, r3, r4⟩ := mNext_ok (P := P) (ty := o.type) hst hp' hr
  refine ⟨ε, y, w', .value y, ?_, .inl rfl, r2, r3, r4⟩
  have e : execOp a.eval o = (do pure (Next.value (← Instr.next (a.eval x) s o.type))) := by
    unfold execOp
    rw [ho]
  rw [e, e1]
  simp only [Sem.run_bind, r1, Result.andThen_ok, Sem.run_pure]
end
end Go.Proofs.YtohikcchbjchkaaGreatDoor.Sx

/- The operations that change memory: all of them. -/
namespace Go.Proofs.YtohikcchbjchkaaGreatDoor.Sx
open Go
section
variable {P : Program} {c : Cx}
theorem args2_of {ε : Env} {f : Tr SV} {a : Act} (hf : FrOk ε f a.tmps) (hg : GEnv c ε) {xs : Array Operand} {x y : Opd} (h : mapO (opdT c.ng) xs.toList = some [x, y]) {v u : SV} (hv : opv f x = some v) (hu : opv f y = some u) : ∃ p q, den ε v = some p ∧ den ε u = some q ∧ xs.map a.eval = #[p, q] := by
  have hm : mapO (opv f) [x, y] = some [v, u] := by simp [mapO, hv, hu]
  have hd := opds_ok hf hg h hm
  obtain ⟨p, r, hp, hr, e⟩ := denL_cons hd
  obtain ⟨q, r2, hq, hr2, rfl⟩ := denL_cons hr
  cases hr2
  exact ⟨p, q, hp, hq, by apply Array.ext'; simpa using e⟩
/-- Off a row of bytes. -/
theorem loadBytes_run {b q : Nat} : ∀ (l : List SV) (o : Nat) (acc : List UInt8) {ε : Env} {w : World} {ys : List Value} {bs : List UInt8}, denL ε l = some ys → mapO byteOf l = some bs → (∀ i y, ys[i]? = some y → w.cell? ⟨b, q + (o + i), none⟩ = some y) → (loadBytes ⟨b, q + o, none⟩ ⟨acc.toArray⟩ l.length).run P w = .ok ⟨(acc ++ bs).toArray⟩ w
  | [], o, acc, ε, w, ys, bs, _, h2, _ => by cases h2; simp [loadBytes]
  | v :: l, o, acc, ε, w, ys, bs, h1, h2, h3 => by
    obtain ⟨y, z, hy, hz, rfl⟩ := denL_cons h1
    unfold mapO at h2
    obtain ⟨x, hx, h4⟩ := Option.bind_eq_some_iff.1 h2
    obtain ⟨t, ht, h5⟩ := Option.bind_eq_some_iff.1 h4
    cases h5
    have hc := h3 0 y rfl
    simp only [Nat.add_zero] at hc
    have hyv : ∃ n : Nat, y = .int .u8 (Int.ofNat n) ∧ x = UInt8.ofNat n := by
      unfold byteOf at hx
      split at hx
      · cases hx; cases hy; exact ⟨_, rfl, rfl⟩
      · cases hx
    obtain ⟨n, rfl, rfl⟩ := hyv
    have hadd : (⟨b, q + o, none⟩ : Addr).add 1 = ⟨b, q + (o + 1), none⟩ := add_off b q o 1
    have ih := loadBytes_run l (o + 1) (acc ++ [UInt8.ofNat n]) (ε := ε) (w := w) hz ht (fun i y hi => by
      have := h3 (i + 1) y (by simpa using hi)
      rw [show o + 1 + i = o + (i + 1) by omega]; exact this)
    rw [List.length_cons]
    unfold loadBytes
    simp only [Sem.run_bind, run_load, hc, Result.andThen_ok, hadd]
    have hp : (⟨acc.toArray⟩ : ByteArray).push (Int.toNat (Int.ofNat n)).toUInt8 = ⟨(acc ++ [UInt8.ofNat n]).toArray⟩ := by
      show ByteArray.mk (acc.toArray.push (UInt8.ofNat n)) = _
      simp
    rw [hp, ih]
    simp
theorem size_cells (hP : POk P c) {t s : Nat} (h : sizeT c.ty t = some s) : P.cellsOf t = s := by
  unfold sizeT at h
  obtain ⟨i, hi, h1⟩ := Option.bind_eq_some_iff.1 h
  cases h1
  unfold Program.cellsOf
  rw [hP.ty t i hi]; rfl
theorem vars_here {u n off count : Nat} (h1 : P.cellsOf u = 1) (hle : off + n ≤ count) : liesAt P P.depth u (count / P.cellsOf u) off u n = true := by
  have hd : ∃ d, P.depth = d + 1 := ⟨2 * (P.types.size + Made.depth) + 1, rfl⟩
  obtain ⟨d, hd⟩ := hd
  have hs : sameLayout P (d + 1) u u = true := by unfold sameLayout; simp
  rw [hd]
  unfold liesAt
  rw [hd]
  unfold rowAt
  simp [h1, hs, hle, Nat.mod_one]
theorem freeze_io (w : World) (a : Addr) (n : Nat) : Io w (w.freeze a n) := by
  unfold World.freeze
  split
  · exact Io.refl _
  · exact ⟨rfl, rfl⟩
theorem freeze_heap {w : World} {b off n : Nat} {cs : Array Value} {e : TypeId} {fr : Nat × Nat} (h : w.heap[b]? = some (.cells cs e fr)) (hn : n ≠ 0) :
    (w.freeze ⟨b, off, none⟩ n).heap[b]? = some (.cells cs e (if fr.1 = fr.2 then (off, off + n) else (min fr.1 off, max fr.2 (off + n)))) ∧ (w.freeze ⟨b, off, none⟩ n).heap.size = w.heap.size ∧ ∀ b', b' ≠ b → (w.freeze ⟨b, off, none⟩ n).heap[b']? = w.heap[b']? := by
  obtain ⟨lo, hi⟩ := fr
  unfold World.freeze
  rw [if_neg hn]
  refine ⟨?_, by simp, fun b' hb => ?_⟩
  · dsimp only
    rw [Array.getElem?_modify]
    simp [h]
  · dsimp only
    rw [Array.getElem?_modify]
    simp [Ne.symm hb]
theorem ustr_none (ats : Array TypeId) (ty : TypeId) (pt : TypeId) (h : ats[0]? = some pt) (v : Value) : ∃ s1 s2 s3 : String, Builtin.unsafeString_ ats ty #[.pointer none, v] =
    (do
      let n ← asInt v
      if n < 0 then runtimePanic (.error s1)
      if n > IntKind.i64.max then unsupported (.unsafePointer s2)
      if n = 0 then pure (.string .empty)
      else runtimePanic (.error s3)) := by
  have : ∃ s0 s1 s2 s3 : String, Builtin.unsafeString_ ats ty #[.pointer none, v] =
    (do
      let n ← asInt v
      let some pt := ats[0]? | stuck s0
      if n < 0 then runtimePanic (.error s1)
      if n > IntKind.i64.max then unsupported (.unsafePointer s2)
      if n = 0 then pure (.string .empty)
      else runtimePanic (.error s3)) := ⟨_, _, _, _, rfl⟩
  obtain ⟨s0, s1, s2, s3, e⟩ := this
  exact ⟨s1, s2, s3, by rw [e, h]⟩
theorem ustr_some (ats : Array TypeId) (ty : TypeId) (pt : TypeId) (h : ats[0]? = some pt) (a : Addr) (v : Value) : ∃ s1 s2 s3 : String, Builtin.unsafeString_ ats ty #[.pointer (some a), v] =
    (do
      let n ← asInt v
      if n < 0 then runtimePanic (.error s1)
      if n > IntKind.i64.max then unsupported (.unsafePointer s2)
      if n = 0 then pure (.string .empty)
      else if ← variablesAt a (← elemOf pt) n.toNat then do
        let s ← loadBytes a .empty n.toNat
        freeze a n.toNat
        pure (.string s)
      else unsupported (.unsafePointer s3)) := by
  have : ∃ s0 s1 s2 s3 : String, Builtin.unsafeString_ ats ty #[.pointer (some a), v] =
    (do
      let n ← asInt v
      let some pt := ats[0]? | stuck s0
      if n < 0 then runtimePanic (.error s1)
      if n > IntKind.i64.max then unsupported (.unsafePointer s2)
      if n = 0 then pure (.string .empty)
      else if ← variablesAt a (← elemOf pt) n.toNat then do
        let s ← loadBytes a .empty n.toNat
        freeze a n.toNat
        pure (.string s)
      else unsupported (.unsafePointer s3)) := ⟨_, _, _, _, rfl⟩
  obtain ⟨s0, s1, s2, s3, e⟩ := this
  exact ⟨s1, s2, s3, by rw [e, h]⟩
/-- Every operation that changes memory. -/
theorem compM_ok (hP : POk P c) {op : Op} {g : MF} (h : compM c op = some g) : MOk P c op g := by
  cases op with
  | store t x y => exact mok_store hP h
  | insert t x y z => exact mok_ins hP (.inl rfl) h
  | mapUpdate t x y z => exact mok_ins hP (.inr rfl) h
  | next x s => exact mok_next h
  | call cl =>
    obtain ⟨callee, args, ats⟩ := cl
    unfold compM at h; dsimp only at h
    cases callee with
    | value _ => cases h
    | invoke _ _ => cases h
    | builtin b =>
      obtain ⟨l, hl, h1⟩ := Option.bind_eq_some_iff.1 h
      clear h
      cases b with
      | append =>
        cases l with
        | nil => cases h1
        | cons X l =>
          cases l with
          | nil => cases h1
          | cons Y l =>
            cases l with
            | cons _ _ => cases h1
            | nil =>
              obtain ⟨t, ht, h2⟩ := Option.bind_eq_some_iff.1 h1
              obtain ⟨d, hd, h3⟩ := Option.bind_eq_some_iff.1 h2
              clear h1 h2
              cases d with
              | slice e =>
                obtain ⟨s, hs, h4⟩ := Option.bind_eq_some_iff.1 h3
                obtain ⟨b, hb, h5⟩ := Option.bind_eq_some_iff.1 h4
                obtain ⟨un, hun, h6⟩ := Option.bind_eq_some_iff.1 h5
                obtain ⟨h0, h7⟩ := bif_f h6
                obtain ⟨z, hz, h8⟩ := Option.bind_eq_some_iff.1 h7
                cases h8
                clear h3 h4 h5 h6 h7
                obtain ⟨u, hu, h9⟩ := Option.bind_eq_some_iff.1 hun
                obtain ⟨d2, hd2, h10⟩ := Option.bind_eq_some_iff.1 h9
                clear hun h9
                have hT : AppT P c ats e s b := by
                  refine ⟨⟨t, u, nth_arr ht, hd, nth_arr hu, ?_⟩, hs, hb, ⟨z, hz⟩, ?_⟩
                  · have := und_ok hP hd2
                    cases d2 with
                    | slice e' => exact .inl ⟨e', this⟩
                    | string => exact .inr this
                    | _ => cases h10
                  · cases s with
                    | zero => cases h0
                    | succ s => omega
                intro B ε h nx f a w o v h' nx' ho hst hB hf hg hr hfr
                obtain ⟨p, r, hp, hr2, hr⟩ := op2_inv hr
                obtain ⟨p', r', hp', hr', e1⟩ := args2_of hf hg hl hp hr2
                obtain ⟨ε', y, w', r1, r2, r3, r4⟩ := appV_ok (ty := o.type) hP hT hst hB hr' hp' hr hfr
                refine ⟨ε', y, w', .value y, ?_, .inl rfl, r2, r3, r4⟩
                obtain ⟨cs, e2⟩ := builtin_exec ho
                rw [e2, e1]
                show (do pure (Next.value (← Builtin.append_ ats o.type #[p', r'])) : Sem _).run P w = _
                simp only [Sem.run_bind, r1, Result.andThen_ok, Sem.run_pure]
              | _ => cases h3
      | copy =>
        cases l with
        | nil => cases h1
        | cons X l =>
          cases l with
          | nil => cases h1
          | cons Y l =>
            cases l with
            | cons _ _ => cases h1
            | nil =>
              obtain ⟨t, ht, h2⟩ := Option.bind_eq_some_iff.1 h1
              obtain ⟨d, hd, h3⟩ := Option.bind_eq_some_iff.1 h2
              clear h1 h2
              cases d with
              | slice e =>
                obtain ⟨s, hs, h4⟩ := Option.bind_eq_some_iff.1 h3
                cases h4
                intro B ε h nx f a w o v h' nx' ho hst hB hf hg hr hfr
                obtain ⟨p, r, hp, hr2, hr⟩ := op2_inv hr
                obtain ⟨p', r', hp', hr', e1⟩ := args2_of hf hg hl hp hr2
                obtain ⟨rfl, y, w', r1, r2, r3, r4⟩ := mCpy_ok (ty := o.type) hP (nth_arr ht) hd hs hst hp' hr' hr
                refine ⟨ε, y, w', .value y, ?_, .inl rfl, r2, r3, r4⟩
                obtain ⟨cs, e2⟩ := builtin_exec ho
                rw [e2, e1]
                show (do pure (Next.value (← Builtin.copy_ ats o.type #[p', r'])) : Sem _).run P w = _
                simp only [Sem.run_bind, r1, Result.andThen_ok, Sem.run_pure]
              | _ => cases h3
      | delete =>
        cases l with
        | nil => cases h1
        | cons X l =>
          cases l with
          | nil => cases h1
          | cons Y l =>
            cases l with
            | cons _ _ => cases h1
            | nil =>
              obtain ⟨t, ht, h2⟩ := Option.bind_eq_some_iff.1 h1
              obtain ⟨d, hd, h3⟩ := Option.bind_eq_some_iff.1 h2
              clear h1 h2
              cases d with
              | map kt et =>
                cases h3
                intro B ε h nx f a w o v h' nx' ho hst hB hf hg hr hfr
                obtain ⟨p, r, hp, hr2, hr⟩ := op2_inv hr
                obtain ⟨p', r', hp', hr', e1⟩ := args2_of hf hg hl hp hr2
                obtain ⟨rfl, w', r1, rfl, r3, r4⟩ := mDel_ok (ty := o.type) hP (nth_arr ht) hd hst hp' hr' hr
                refine ⟨ε, .tuple #[], w', .value (.tuple #[]), ?_, .inl rfl, rfl, r3, r4⟩
                obtain ⟨cs, e2⟩ := builtin_exec ho
                rw [e2, e1]
                show (do pure (Next.value (← Builtin.delete_ ats o.type #[p', r'])) : Sem _).run P w = _
                simp only [Sem.run_bind, r1, Result.andThen_ok, Sem.run_pure]
              | _ => cases h3
      | clear =>
        cases l with
        | nil => cases h1
        | cons X l =>
          cases l with
          | cons _ _ => cases h1
          | nil =>
            obtain ⟨t, ht, h2⟩ := Option.bind_eq_some_iff.1 h1
            obtain ⟨d, hd, h3⟩ := Option.bind_eq_some_iff.1 h2
            clear h1 h2
            have ud := und_ok hP hd
            have hat := nth_arr ht
            cases d with
            | slice e =>
              obtain ⟨z, hz, h4⟩ := Option.bind_eq_some_iff.1 h3
              cases h4
              intro B ε h nx f a w o v h' nx' ho hst hB hf hg hr hfr
              obtain ⟨p, hp, hr⟩ := Option.bind_eq_some_iff.1 hr
              obtain ⟨p', hp', e1⟩ := args_of hf hg hl hp
              obtain ⟨cs, e2⟩ := builtin_exec ho
              have fin : ∀ {w'}, (Builtin.clear_ ats o.type #[p']).run P w = .ok (.tuple #[]) w' → (execOp a.eval o).run P w = .ok (.value (.tuple #[])) w' := by
                intro w' hw
                rw [e2, e1]
                show (do pure (Next.value (← Builtin.clear_ ats o.type #[p'])) : Sem _).run P w = _
                simp only [Sem.run_bind, hw, Result.andThen_ok, Sem.run_pure]
              cases p with
              | nilsl =>
                cases hr; cases hp'
                exact ⟨ε, .tuple #[], w, _, fin (by simp [Builtin.clear_, hat, run_underlying ud]), .inl rfl, rfl, Goes.refl _ _ _ _ _, hst⟩
              | slt _ _ _ _ =>
                cases hr
                obtain ⟨A, q, rfl⟩ := den_slt hp'
                exact ⟨ε, .tuple #[], w, _, fin (by simp [Builtin.clear_, hat, run_underlying ud]), .inl rfl, rfl, Goes.refl _ _ _ _ _, hst⟩
              | sl n oo len cp =>
                obtain ⟨blk, kk, hbl, rfl, _⟩ := den_sl hp'
                cases h0 : Nat.beq len 0 with
                | true =>
                  cases Nat.eq_of_beq_eq_true h0
                  have hr' : some (SV.tup [], h, nx) = some (v, h', nx') := hr
                  cases hr'
                  exact ⟨ε, .tuple #[], w, _, fin (by simp [Builtin.clear_, hat, run_underlying ud]), .inl rfl, rfl, Goes.refl _ _ _ _ _, hst⟩
                | false =>
                  have hr' : (setV c h n oo (repL z.cells len)).bind (fun h => some (SV.tup [], h, nx)) = some (v, h', nx') := by
                    have : (bif Nat.beq len 0 then some (SV.tup [], h, nx) else (setV c h n oo (repL z.cells len)).bind (fun h => some (SV.tup [], h, nx))) = some (v, h', nx') := hr
                    rw [h0] at this; exact this
                  obtain ⟨h2', hs2, hr2⟩ := Option.bind_eq_some_iff.1 hr'
                  cases hr2
                  obtain ⟨zv, hzr, hzd⟩ := run_zero hP hz w
                  have hd2 : denL ε (repL z.cells len) = some (Builtin.zeroCells zv.cells len).toList := by
                    have := den_cells (hzd ε)
                    rw [show (Builtin.zeroCells zv.cells len).toList = repL zv.cells.toList len from rep_eq _ _]
                    exact denL_rep this len
                  obtain ⟨w', r1, r2, r3⟩ := setV_ok (P := P) hst hd2 hbl hs2 nx
                  have hln : len ≠ 0 := fun e => by subst e; cases h0
                  refine ⟨ε, .tuple #[], w', _, fin ?_, .inl rfl, rfl, r3, r2⟩
                  obtain ⟨m, rfl⟩ := Nat.exists_eq_succ_of_ne_zero hln
                  simp [Builtin.clear_, hat, run_underlying ud, hzr, r1]
              | _ => cases hr
            | map kt et =>
              cases h3
              intro B ε h nx f a w o v h' nx' ho hst hB hf hg hr hfr
              obtain ⟨p, hp, hr⟩ := Option.bind_eq_some_iff.1 hr
              obtain ⟨p', hp', e1⟩ := args_of hf hg hl hp
              obtain ⟨cs, e2⟩ := builtin_exec ho
              obtain ⟨rfl, w', r1, rfl, r3, r4⟩ := mClrM_ok (ty := o.type) hP hat hd hst hp' hr
              refine ⟨ε, .tuple #[], w', .value (.tuple #[]), ?_, .inl rfl, rfl, r3, r4⟩
              rw [e2, e1]
              show (do pure (Next.value (← Builtin.clear_ ats o.type #[p'])) : Sem _).run P w = _
              simp only [Sem.run_bind, r1, Result.andThen_ok, Sem.run_pure]
            | _ => cases h3
      | unsafeString =>
        cases l with
        | nil => cases h1
        | cons X l =>
          cases l with
          | nil => cases h1
          | cons Y l =>
            cases l with
            | cons _ _ => cases h1
            | nil =>
              obtain ⟨t, ht, h2⟩ := Option.bind_eq_some_iff.1 h1
              obtain ⟨d, hd, h3⟩ := Option.bind_eq_some_iff.1 h2
              clear h1 h2
              have ud := und_ok hP hd
              have hat := nth_arr ht
              cases d with
              | pointer u =>
                obtain ⟨s, hs, h4⟩ := Option.bind_eq_some_iff.1 h3
                obtain ⟨hs1, h5⟩ := bif_t h4
                cases Nat.eq_of_beq_eq_true hs1
                cases h5
                clear h3 h4
                have hco := size_cells hP hs
                intro B ε h nx f a w o v h' nx' ho hst hB hf hg hr hfr
                obtain ⟨p, r, hp, hr2, hr⟩ := op2_inv hr
                obtain ⟨p', r', hp', hr', e1⟩ := args2_of hf hg hl hp hr2
                obtain ⟨cs, e2⟩ := builtin_exec ho
                obtain ⟨len, hlen, hr3⟩ := Option.bind_eq_some_iff.1 (show (asN r).bind _ = some (v, h', nx') from hr)
                obtain ⟨kk, rfl⟩ := den_asN hlen hr'
                have fin : ∀ {w' y}, (Builtin.unsafeString_ ats o.type #[p', .int kk len]).run P w = .ok y w' → (execOp a.eval o).run P w = .ok (.value y) w' := by
                  intro w' y hw
                  rw [e2, e1]
                  show (do pure (Next.value (← Builtin.unsafeString_ ats o.type #[p', .int kk len])) : Sem _).run P w = _
                  simp only [Sem.run_bind, hw, Result.andThen_ok, Sem.run_pure]
                have hel : (elemOf t).run P w = .ok u w := by simp [elemOf, run_underlying ud]
                cases p with
                | nilp =>
                  obtain ⟨h0, hr4⟩ := bif_t (show (bif Nat.beq len 0 then some (SV.str [], h, nx) else none) = some (v, h', nx') from hr3)
                  cases Nat.eq_of_beq_eq_true h0
                  cases hr4; cases hp'
                  exact ⟨ε, .string .empty, w, _, fin (by obtain ⟨_, _, _, eu⟩ := ustr_none ats o.type t hat (.int kk ((0 : Nat) : Int)); rw [eu]; simp [asInt, asIntOf, show IntKind.i64.max = 9223372036854775807 from rfl]), .inl rfl, rfl, Goes.refl _ _ _ _ _, hst⟩
                | ptr n oo =>
                  obtain ⟨bl, hbl, rfl⟩ := den_ptr hp'
                  cases h0 : Nat.beq len 0 with
                  | true =>
                    cases Nat.eq_of_beq_eq_true h0
                    have hr' : some (SV.str [], h, nx) = some (v, h', nx') := hr3
                    cases hr'
                    exact ⟨ε, .string .empty, w, _, fin (by obtain ⟨_, _, _, eu⟩ := ustr_some ats o.type t hat ⟨bl.b, bl.q + oo, none⟩ (.int kk ((0 : Nat) : Int)); rw [eu]; simp [asInt, asIntOf, show IntKind.i64.max = 9223372036854775807 from rfl]), .inl rfl, rfl, Goes.refl _ _ _ _ _, hst⟩
                  | false =>
                    rw [h0] at hr3
                    obtain ⟨hle, hr4⟩ := bif_t (show (bif Nat.ble len 1000000000 then _ else none) = some (v, h', nx') from hr3)
                    obtain ⟨hown, hr5⟩ := bif_t hr4
                    obtain ⟨⟨vs, e, s', q, z⟩, hq, hr6⟩ := Option.bind_eq_some_iff.1 hr5
                    dsimp only at hr6
                    obtain ⟨k, hk, hr7⟩ := Option.bind_eq_some_iff.1 hr6
                    obtain ⟨heu, hr8⟩ := bif_t hr7
                    obtain ⟨row, hrow, hr9⟩ := Option.bind_eq_some_iff.1 hr8
                    obtain ⟨bs, hbs, hr10⟩ := Option.bind_eq_some_iff.1 hr9
                    have hle := Nat.le_of_ble_eq_true hle
                    have hln : len ≠ 0 := fun e => by subst e; cases h0
                    have heu := Nat.eq_of_beq_eq_true heu
                    clear hr3 hr4 hr5 hr6 hr7 hr8 hr9
                    subst heu; subst hk
                    cases hr10
                    have hg2 := getC_get hq
                    dsimp only at hg2
                    obtain ⟨x2, hx2, hob, _⟩ := hst.obj n _ hg2
                    rw [hbl] at hx2; cases hx2
                    obtain ⟨cs, fr, xs, g1, g2, g3, g4, g5⟩ := CellsOk.ex hob
                    dsimp only at g5
                    obtain ⟨d1, d2⟩ := denL_rd g2 hrow
                    have hrl : row.length = len := by
                      obtain ⟨rfl, hh⟩ := rd_eq hrow
                      simp; omega
                    have hxl : bl.q + xs.length ≤ cs.size := by
                      cases q with
                      | true => simp only [if_true] at g4; omega
                      | false => simp only [Bool.false_eq_true, if_false] at g4; omega
                    have hlb := loadBytes_run (P := P) (b := bl.b) (q := bl.q) row oo [] (w := w) d1 hbs (fun i y hi => by
                      rw [List.getElem?_take] at hi
                      split at hi
                      · rw [List.getElem?_drop] at hi
                        have := g3 _ _ hi
                        simp [World.cell?, g1, this]
                      · cases hi)
                    rw [hrl] at hlb
                    have hvar : (variablesAt ⟨bl.b, bl.q + oo, none⟩ e len).run P w = .ok true w := by
                      unfold variablesAt
                      simp only [Sem.run_bind, run_program, Result.andThen_ok, run_shape, World.shape?, g1, Sem.run_pure]
                      rw [vars_here hco (by omega)]
                    obtain ⟨z1, z2, z3⟩ := freeze_heap (off := bl.q + oo) g1 hln
                    have hobj : ObjOk ε (w.freeze ⟨bl.b, bl.q + oo, none⟩ len) bl (.cells vs e s' q (some (max k (oo + len)))) := by
                      refine ⟨cs, _, xs, z1, g2, g3, g4, ?_⟩
                      dsimp only
                      by_cases hc : fr.1 = fr.2
                      · rw [if_pos hc]; right; dsimp only; omega
                      · rw [if_neg hc]; right; dsimp only
                        rcases g5 with g5 | g5
                        · exact absurd g5 hc
                        · omega
                    obtain ⟨m1, m2⟩ := sat_upd hst hg2 hown hbl z2 z3 hobj nx (freeze_io _ _ _)
                    refine ⟨ε, .string ⟨bs.toArray⟩, _, _, fin ?_, .inl rfl, rfl, m2, m1⟩
                    have hn0 : ¬ ((len : Int) < 0) := by omega
                    have hnm : ¬ ((len : Int) > IntKind.i64.max) := by
                      show ¬ ((len : Int) > 9223372036854775807)
                      omega
                    have hl0 : ¬ ((len : Int) = 0) := by omega
                    have hlb' : (loadBytes ⟨bl.b, bl.q + oo, none⟩ .empty len).run P w = .ok ⟨bs.toArray⟩ w := hlb
                    obtain ⟨_, _, _, eu⟩ := ustr_some ats o.type t hat ⟨bl.b, bl.q + oo, none⟩ (.int kk len)
                    rw [eu]
                    have hmx : IntKind.i64.max = 9223372036854775807 := rfl
                    have hnm' : ¬ (9223372036854775807 : Int) < (len : Int) := by omega
                    simp [asInt, asIntOf, hmx, hn0, hnm', hln, hel, hvar, hlb']
                | _ => cases hr3
              | _ => cases h3
      | _ => cases h1
  | _ => cases h
end
end Go.Proofs.YtohikcchbjchkaaGreatDoor.Sx

/- The executor is sound: what is asked; operations in order. -/
namespace Go.Proofs.YtohikcchbjchkaaGreatDoor.Sx
open Go

inductive OutIs : Out → Exit → Tr SV → List Df → Tr SO → Nat → Prop
  | go {f ds h nx} : OutIs (.go f ds h nx) .normal f ds h nx
  | exit {i f ds h nx} : OutIs (.exit i f ds h nx) (.exit i) f ds h nx
  | goto {i f ds h nx} : OutIs (.goto i f ds h nx) (.goto i) f ds h nx
  | ret {f ds h nx} : OutIs (.ret f ds h nx) .ret f ds h nx
  | pan {t f ds h nx} : OutIs (.pan t f ds h nx) (.panic [{ v := .iface t (.agg #[]), recovered := false }]) f ds h nx
/-- The marks among the deferred calls. -/
inductive DfOk (ε : Env) : List Df → List Deferred → Prop
  | nil : DfOk ε [] []
  | mark {n : Pa} {x : Blk} {ds : List Df} {l : List Deferred} : ε n = some x → DfOk ε ds l → DfOk ε (.mark n :: ds) (⟨.collected x.b, #[]⟩ :: l)
  | call {k : Nat} {args : List SV} {xs cs : List Value} {ds : List Df} {l : List Deferred} : denL ε args = some (xs ++ cs) → DfOk ε ds l → DfOk ε (.call k args :: ds) (⟨.fn (.func k) cs.toArray, xs.toArray⟩ :: l)
theorem DfOk.sub {ε ε' : Env} (hs : Sub ε ε') {ds : List Df} {l : List Deferred} (h : DfOk ε ds l) : DfOk ε' ds l := by
  induction h with
  | nil => exact .nil
  | mark hx _ ih => exact .mark (hs _ _ hx) ih
  | call hx _ ih => exact .call (denL_sub hs _ hx) ih
/-- The fence of a function, or of a round. -/
def RoOk (ε : Env) (ro : Option Pa) (F : Fence) : Prop := match ro with
  | none => F = Fence.wide
  | some p => ∃ x, ε p = some x ∧ F = Fence.wide.inRound x.b
theorem RoOk.sub {ε ε' : Env} (hs : Sub ε ε') {ro : Option Pa} {F : Fence} (h : RoOk ε ro F) : RoOk ε' ro F := by
  cases ro with
  | none => exact h
  | some p => obtain ⟨x, hx, e⟩ := h; exact ⟨x, hs _ _ hx, e⟩
/-- A fence that lets all in. -/
def Free (F : Fence) : Prop := F = Fence.wide ∨ ∃ l, F = Fence.wide.inRound l
theorem RoOk.free {ε : Env} {ro : Option Pa} {F : Fence} (h : RoOk ε ro F) : Free F := by
  cases ro with
  | none => exact .inl h
  | some p => obtain ⟨x, _, e⟩ := h; exact .inr ⟨_, e⟩
theorem Free.fn {F : Fence} (h : Free F) (f : FuncId) : F.fn f := by
  rcases h with rfl | ⟨l, rfl⟩ <;> trivial
theorem Free.depth {F : Fence} (h : Free F) : F.depth.isSome = true → 1 ≤ 0 := by
  rcases h with rfl | ⟨l, rfl⟩ <;> simp [Fence.wide]
theorem Free.calls {F : Fence} (h : Free F) {P : Program} {f : FuncId} {args : Array Value} {w : World} {R : Ending → World → Prop} (hc : CallsIn Fence.wide 0 P f args w R) : CallsIn F 0 P f args w R := by
  rcases h with rfl | ⟨l, rfl⟩
  · exact hc
  · exact hc.inRound l
theorem Free.inRound {F : Fence} (h : Free F) (l : Nat) : F.inRound l = Fence.wide.inRound l := by
  rcases h with rfl | ⟨l', rfl⟩ <;> rfl
structure Pre (c : Cx) (B : Nat) (w0 : World) (ε : Env) (h : Tr SO) (nx : Nat) (w : World) : Prop where
  sat : Sat c B ε h w
  base : Base B w0 w
  env : GEnv c ε
  fresh : FreshA ε nx
theorem Pre.next {c : Cx} {B : Nat} {w0 : World} {ε ε' : Env} {h h' : Tr SO} {nx nx' : Nat} {w w' : World} (p : Pre c B w0 ε h nx w) (g : Goes c ε h nx w ε' h' nx' w') (s : Sat c B ε' h' w') : Pre c B w0 ε' h' nx' w' :=
  ⟨s, g.base p.sat p.base, p.env.sub (g.sub (p.fresh.fresh _)), g.freshA p.fresh⟩
def CallQ (c : Cx) (B : Nat) (ε : Env) (h : Tr SO) (nx : Nat) (w : World) (out : Out) : Ending → World → Prop := fun e w' =>
  (∃ v h' nx' ε' y, out = .val v h' nx' ∧ e = .returned y ∧ den ε' v = some y ∧ Goes c ε h nx w ε' h' nx' w' ∧ Sat c B ε' h' w') ∨
  (∃ t f ds h' nx' ε', out = .pan t f ds h' nx' ∧ e = .panicked [{ v := .iface t (.agg #[]), recovered := false }] ∧ Goes c ε h nx w ε' h' nx' w' ∧ Sat c B ε' h' w')
def CodeQ (c : Cx) (B : Nat) (ε : Env) (h : Tr SO) (nx : Nat) (w : World) (sz : Nat) (out : Out) : Exit → Act → World → Prop := fun e a' w' =>
  ∃ f' ds' h' nx' ε', OutIs out e f' ds' h' nx' ∧ FrOk ε' f' a'.tmps ∧ sz ≤ a'.tmps.size ∧ DfOk ε' ds' a'.defers ∧ Goes c ε h nx w ε' h' nx' w' ∧ Sat c B ε' h' w'
theorem CodeQ.after {c : Cx} {B : Nat} {ε ε1 : Env} {h h1 : Tr SO} {nx n1 : Nat} {w w1 : World} {sz : Nat} {out : Out} (g : Goes c ε h nx w ε1 h1 n1 w1) {e : Exit} {a' : Act} {w' : World} (q : CodeQ c B ε1 h1 n1 w1 sz out e a' w') : CodeQ c B ε h nx w sz out e a' w' :=
  let ⟨f', ds', h', nx', ε', q1, q2, q3, q4, q5, q6⟩ := q
  ⟨f', ds', h', nx', ε', q1, q2, q3, q4, g.trans q5, q6⟩
/-- At the head of a loop's body. -/
def XWp (F : Fence) (P : Program) (x : Code) (Q : Exit → Act → World → Prop) (a : Act) (w : World) : Prop :=
  ∀ (b : Frame) (k : List Item) (cs : List Frame), b.roundOf = F.round → F.fn b.fn → F.room (cs.length + 1 + 0) →
    ∃ e a' w', Q e a' w' ∧ ArrivesIn (Machine.fenced P F) P (lone (b.atR a (.code x :: .inLoop x :: k)) cs w) b k cs e a' w'
/-- Under way in a scope. -/
def XScp (F : Fence) (P : Program) (x r : Code) (Q : Exit → Act → World → Prop) (a : Act) (w : World) : Prop :=
  ∀ (b : Frame) (k : List Item) (cs : List Frame), b.roundOf = F.round → F.fn b.fn → F.room (cs.length + 1 + 0) →
    ∃ e a' w', Q e a' w' ∧ ArrivesIn (Machine.fenced P F) P (lone (b.atR a (.code r :: .inScope x :: k)) cs w) b k cs e a' w'
def CodeWp (F : Fence) (P : Program) (code : Code) (Q : Exit → Act → World → Prop) (a : Act) (w : World) : Prop := match code with
  | .loop x => XWp F P x Q a w
  | code => code.wpIn F 0 P Q a w
def JobOk (P : Program) (c : Cx) (B : Nat) (w0 : World) (j : Job) (out : Out) : Prop := (∃ wd, out = .bad wd) ∨ match j with
  | .code ro cd f ds h nx => ∀ (sz : Nat) (code : Code) (ε : Env) (w : World) (a : Act) (F : Fence), compC c sz code = cd → RoOk ε ro F → Pre c B w0 ε h nx w → FrOk ε f a.tmps → sz ≤ a.tmps.size → DfOk ε ds a.defers →
      CodeWp F P code (CodeQ c B ε h nx w sz out) a w
  | .call k args h nx => ∀ (ε : Env) (w : World) (vs : List Value), Pre c B w0 ε h nx w → denL ε args = some vs →
      (Tr.get (pa k) c.fn = none ∧ ∃ v h' nx' ε' y w', out = .val v h' nx' ∧ den ε' v = some y ∧ (callFunc k vs.toArray).run P w = .ok (.value y) w' ∧ Goes c ε h nx w ε' h' nx' w' ∧ Sat c B ε' h' w') ∨
      ((∃ fn, Tr.get (pa k) c.fn = some fn) ∧ (callFunc k vs.toArray).run P w = .ok (.enter k vs.toArray) w ∧ CallsIn Fence.wide 0 P k vs.toArray w (CallQ c B ε h nx w out))
  | .round l args h nx => ∀ (ε : Env) (w : World) (vs : List Value) (x : Blk), Pre c B w0 ε h nx w → denL ε args = some vs → ε l = some x →
      ∃ fn tmps asg body, (Instr.yield x.b vs.toArray).run P w = .ok (.round x.b fn tmps asg body) w ∧ ∀ F, Free F → RoundIn F 0 P x.b fn tmps asg body w (CallQ c B ε h nx w out)
  | .scope ro b0 cd f ds h nx => ∀ (sz : Nat) (x r : Code) (ε : Env) (w : World) (a : Act) (F : Fence), compC c sz x = b0 → compC c sz r = cd → RoOk ε ro F → Pre c B w0 ε h nx w → FrOk ε f a.tmps → sz ≤ a.tmps.size → DfOk ε ds a.defers →
      XScp F P x r (CodeQ c B ε h nx w sz out) a w
  | .dcall k args h nx => ∀ (ε : Env) (w : World) (vs : List Value), Pre c B w0 ε h nx w → denL ε args = some vs → (callFunc k vs.toArray).run P w = .ok (.enter k vs.toArray) w ∧ CallsDIn Fence.wide 0 P k vs.toArray .returning w fun e u w' => u = .returning ∧ CallQ c B ε h nx w out e w'
def Sound (P : Program) (c : Cx) (B : Nat) (w0 : World) (rec : Job → Out) : Prop := ∀ j, JobOk P c B w0 j (rec j)

section
variable {P : Program} {c : Cx} {B : Nat} {w0 : World}
theorem compI_inv {op : Op} {x : Iop} (h : compI c op = some x) :
    (∃ k g, x = .l k g ∧ compL c op = some (k, g) ∧ ∀ cl, op ≠ .defer cl) ∨ (∃ g, x = .m g ∧ compM c op = some g ∧ ∀ cl, op ≠ .defer cl) ∨
    (∃ cl g G as, x = .c G as ∧ op = .call cl ∧ cl.callee = .value g ∧ opdT c.ng g = some G ∧ mapO (opdT c.ng) cl.args.toList = some as) ∨ (∃ cl g G as, x = .d G as ∧ op = .defer cl ∧ cl.callee = .value g ∧ opdT c.ng g = some G ∧ mapO (opdT c.ng) cl.args.toList = some as) ∨
    (∃ y X, x = .p X ∧ op = .panic y ∧ opdT c.ng y = some X) := by
  unfold compI at h
  cases hL : compL c op with
  | some q =>
    rw [hL] at h; cases h
    exact .inl ⟨q.1, q.2, rfl, rfl, fun cl e => by subst e; cases hL⟩
  | none =>
    rw [hL] at h; dsimp only at h
    cases hM : compM c op with
    | some g =>
      rw [hM] at h; cases h
      exact .inr (.inl ⟨g, rfl, rfl, fun cl e => by subst e; cases hM⟩)
    | none =>
      rw [hM] at h; dsimp only at h
      cases op with
      | call cl =>
        obtain ⟨callee, args, ats⟩ := cl
        cases callee with
        | value g =>
          obtain ⟨G, hG, h1⟩ := Option.bind_eq_some_iff.1 h
          obtain ⟨l, hl, h2⟩ := Option.bind_eq_some_iff.1 h1
          cases h2
          exact .inr (.inr (.inl ⟨_, g, G, l, rfl, rfl, rfl, hG, hl⟩))
        | _ => cases h
      | defer cl =>
        obtain ⟨callee, args, ats⟩ := cl
        cases callee with
        | value g =>
          obtain ⟨G, hG, h1⟩ := Option.bind_eq_some_iff.1 h
          obtain ⟨l, hl, h2⟩ := Option.bind_eq_some_iff.1 h1
          cases h2
          exact .inr (.inr (.inr (.inl ⟨_, g, G, l, rfl, rfl, rfl, hG, hl⟩)))
        | _ => cases h
      | panic y =>
        obtain ⟨X, hX, h1⟩ := Option.bind_eq_some_iff.1 h
        cases h1
        exact .inr (.inr (.inr (.inr ⟨y, X, rfl, rfl, hX⟩)))
      | _ => cases h
/-- What is behind an operation. -/
def Behind (c : Cx) (B : Nat) (ε : Env) (h : Tr SO) (nx : Nat) (w : World) (a : Act) (o : Oper) (v : SV) (h' : Tr SO) (nx' : Nat) (K : Act → World → Prop) : Prop :=
  ∀ ε' y w', den ε' v = some y → Goes c ε h nx w ε' h' nx' w' → Sat c B ε' h' w' → K (a.put o.dst y) w'
theorem light_ok (hP : POk P c) {ε : Env} {h : Tr SO} {nx : Nat} {w : World} {f : Tr SV} {a : Act} {o : Oper} {k : Bool} {g : LF} {F : Fence} (hF : Free F) (hL : compL c o.op = some (k, g)) (hnd : ∀ cl, o.op ≠ .defer cl) (hp : Pre c B w0 ε h nx w) (hf : FrOk ε f a.tmps) {K : Act → World → Prop} {Q : Exit → Act → World → Prop} :
    (∀ v, g h (pa nx) f = .v v → Behind c B ε h nx w a o v h nx K → o.wpIn F 0 P a w K Q) ∧
    (∀ v ob, g h (pa nx) f = .a v ob → Behind c B ε h nx w a o v (Tr.set (some ob) (pa nx) h) (nx + 1) K → o.wpIn F 0 P a w K Q) := by
  have hl := compL_ok hP hL B ε h (pa nx) f a w o rfl hp.sat hf hp.env
  constructor
  · intro v hv hK
    rw [hv] at hl
    obtain ⟨y, hy, hr⟩ := hl
    refine ⟨fun f _ => hF.fn f, ?_⟩
    rw [Oper.semAt_eq _ _ _ hnd, hr, Oper.uponIn_value]
    exact hK ε y w hy (Goes.refl _ _ _ _ _) hp.sat
  · intro v ob hv hK
    rw [hv] at hl
    have hn : ε (pa nx) = none := hp.fresh nx (Nat.le_refl _)
    obtain ⟨y, w', K', hr, hpush, hy, hob⟩ := hl hn
    refine ⟨fun f _ => hF.fn f, ?_⟩
    rw [Oper.semAt_eq _ _ _ hnd, hr, Oper.uponIn_value]
    obtain ⟨s1, s2⟩ := sat_new hp.sat hp.base.size hn hpush hob
    exact hK _ y w' hy s2 s1
theorem heavy_gen (hP : POk P c) {rec : Job → Out} (hS : Sound P c B w0 rec) {ε : Env} {h : Tr SO} {nx : Nat} {w : World} {f : Tr SV} {a : Act} {o : Oper} {x : Iop} {F : Fence} (hF : Free F) (hc : compI c o.op = some x) (hp : Pre c B w0 ε h nx w) (hf : FrOk ε f a.tmps) {out : Out} (hv : heavy rec f h nx x = out) (hb : (∃ v h' nx', out = .val v h' nx') ∨ ∃ t f' ds' h' nx', out = .pan t f' ds' h' nx') {K : Act → World → Prop} {Q : Exit → Act → World → Prop}
    (hK : ∀ v h' nx', out = .val v h' nx' → Behind c B ε h nx w a o v h' nx' K)
    (hQ : ∀ t f' ds' h' nx', out = .pan t f' ds' h' nx' → ∀ ε' w', Goes c ε h nx w ε' h' nx' w' → Sat c B ε' h' w' → Q (.panic [{ v := .iface t (.agg #[]), recovered := false }]) a w') : o.wpIn F 0 P a w K Q := by
  have hnb : ∀ wd, out ≠ .bad wd := by
    rintro wd rfl
    rcases hb with ⟨_, _, _, e⟩ | ⟨_, _, _, _, _, e⟩ <;> cases e
  rcases compI_inv hc with ⟨k, g, rfl, _, _⟩ | ⟨g, rfl, hM, hnd⟩ | ⟨cl, g, G, as, rfl, hop, hcal, hG, has⟩ | ⟨_, _, G, as, rfl, _⟩ | ⟨_, X, rfl, _⟩
  · exact absurd hv.symm (hnb _)
  · have hv' : (match g h nx f with
      | some (v, h, nx) => Out.val v h nx
      | none => .bad [1]) = out := hv
    cases hg : g h nx f with
    | none => rw [hg] at hv'; exact absurd hv'.symm (hnb _)
    | some q =>
      obtain ⟨v, h', nx'⟩ := q
      rw [hg] at hv'
      have hK := hK v h' nx' hv'.symm
      obtain ⟨ε', y, w', r, h1, h2, h3, h4, h5⟩ := compM_ok hP hM B ε h nx f a w o _ _ _ rfl hp.sat hp.base.size hf hp.env hg (hp.fresh.fresh _)
      refine ⟨fun f _ => hF.fn f, ?_⟩
      rw [Oper.semAt_eq _ _ _ hnd, h1]
      rcases h2 with rfl | ⟨rfl, rfl⟩
      · rw [Oper.uponIn_value]; exact hK ε' y w' h3 h4 h5
      · rw [Oper.uponIn_skip]; exact hK ε' _ w' h3 h4 h5
  · have hv' : (match (opv f G).bind fun v => callJ h nx f v as with
      | some j => rec j
      | none => .bad [2]) = out := hv
    cases hj : (opv f G).bind fun v => callJ h nx f v as with
    | none => rw [hj] at hv'; exact absurd hv'.symm (hnb _)
    | some j =>
      rw [hj] at hv'
      dsimp only at hv'
      obtain ⟨gv, hgv, hj⟩ := Option.bind_eq_some_iff.1 hj
      obtain ⟨y, hy, hye⟩ := opd_ok hf hp.env hG hgv
      have hSj := hS j
      rw [hv'] at hSj
      have hnd : ∀ cl, o.op ≠ .defer cl := fun cl e => by rw [hop] at e; cases e
      refine ⟨fun f _ => hF.fn f, ?_⟩
      rw [Oper.semAt_eq _ _ _ hnd]
      cases gv with
      | fn k first cap =>
        obtain ⟨args, hargs, hj2⟩ := Option.bind_eq_some_iff.1 (show (mapO (opv f) as).bind _ = some j from hj)
        cases hj2
        have hav := opds_ok hf hp.env has hargs
        unfold den at hy
        obtain ⟨p, hp1, hy1⟩ := Option.bind_eq_some_iff.1 hy
        obtain ⟨q, hq1, hy2⟩ := Option.bind_eq_some_iff.1 hy1
        cases hy2
        have hall := denL_append (denL_append hp1 hav) hq1
        have hrun : (execOp a.eval o).run P w = (callFunc k (p ++ cl.args.toList.map a.eval ++ q).toArray).run P w := by
          simp only [execOp, hop, resolve, hcal, hye, Deferred.ofValue]
          simp only [Sem.run_bind, Sem.run_pure, Result.andThen_ok, invoke]
          congr 2
          apply Array.ext'
          simp
        rcases hSj with ⟨wd, e⟩ | hSj
        · exact absurd e (hnb wd)
        rcases hSj ε w _ hp hall with ⟨_, v1, h1, n1, ε1, y1, w1, e1, e2, e3, e4, e5⟩ | ⟨_, e3, e4⟩
        · rw [hrun, e3, Oper.uponIn_value]
          exact hK _ _ _ e1 ε1 y1 w1 e2 e4 e5
        · rw [hrun, e3, Oper.uponIn_enter]
          refine ⟨hF.depth, CallsIn.mono (hF.calls e4) fun e w' q => ?_⟩
          rcases q with ⟨v1, h1, n1, ε', y1, q1, q2, q3, q4, q5⟩ | ⟨t, f1, ds1, h1, n1, ε', q1, q2, q3, q4⟩
          · subst q2
            exact hK _ _ _ q1 ε' y1 w' q3 q4 q5
          · subst q2
            exact hQ _ _ _ _ _ q1 ε' w' q3 q4
      | yld l =>
        obtain ⟨args, hargs, hj2⟩ := Option.bind_eq_some_iff.1 (show (mapO (opv f) as).bind _ = some j from hj)
        cases hj2
        have hav := opds_ok hf hp.env has hargs
        unfold den at hy
        obtain ⟨bl, hbl, hy1⟩ := Option.bind_eq_some_iff.1 hy
        cases hy1
        rcases hSj with ⟨wd, e⟩ | hSj
        · exact absurd e (hnb wd)
        obtain ⟨fn, tmps, asg, body, e1, e2⟩ := hSj ε w _ bl hp hav hbl
        have hrun : (execOp a.eval o).run P w = (Instr.yield bl.b (cl.args.toList.map a.eval).toArray).run P w := by
          simp only [execOp, hop, resolve, hcal, hye, Deferred.ofValue]
          simp only [Sem.run_bind, Sem.run_pure, Result.andThen_ok, invoke]
          congr 2
          apply Array.ext'
          simp
        rw [hrun, e1, Oper.uponIn_round]
        refine ⟨hF.depth, RoundIn.mono (e2 F hF) fun e w' q => ?_⟩
        rcases q with ⟨v1, h1, n1, ε', y1, q1, q2, q3, q4, q5⟩ | ⟨t, f1, ds1, h1, n1, ε', q1, q2, q3, q4⟩
        · subst q2
          exact hK _ _ _ q1 ε' y1 w' q3 q4 q5
        · subst q2
          exact hQ _ _ _ _ _ q1 ε' w' q3 q4
      | _ => cases hj
  · exact absurd hv.symm (hnb _)
  · exact absurd hv.symm (hnb _)
theorem heavy_ok (hP : POk P c) {rec : Job → Out} (hS : Sound P c B w0 rec) {ε : Env} {h h' : Tr SO} {nx nx' : Nat} {w : World} {f : Tr SV} {a : Act} {o : Oper} {x : Iop} {v : SV} {F : Fence} (hF : Free F) (hc : compI c o.op = some x) (hp : Pre c B w0 ε h nx w) (hf : FrOk ε f a.tmps) (hv : heavy rec f h nx x = .val v h' nx') {K : Act → World → Prop} {Q : Exit → Act → World → Prop}
    (hK : Behind c B ε h nx w a o v h' nx' K) : o.wpIn F 0 P a w K Q :=
  heavy_gen hP hS hF hc hp hf hv (.inl ⟨_, _, _, rfl⟩) (fun _ _ _ e => by cases e; exact hK) (fun _ _ _ _ _ e => by cases e)
end
end Go.Proofs.YtohikcchbjchkaaGreatDoor.Sx

/- The executor is sound: regions in order. -/
namespace Go.Proofs.YtohikcchbjchkaaGreatDoor.Sx
open Go
section
variable {P : Program} {c : Cx} {B : Nat} {w0 : World}
theorem frOk_put {ε : Env} {f : Tr SV} {a : Act} {o : Oper} {d : Option Pa} {sz : Nat} {v : SV} {y : Value} (hd : dstT sz o = some d) (hsz : sz ≤ a.tmps.size) (hf : FrOk ε f a.tmps) (hv : den ε v = some y) :
    FrOk ε (putD f d v) (a.put o.dst y).tmps ∧ (a.put o.dst y).tmps.size = a.tmps.size ∧ (a.put o.dst y).defers = a.defers := by
  unfold dstT at hd
  cases ho : o.dst with
  | none =>
    rw [ho] at hd; cases hd
    exact ⟨hf, rfl, rfl⟩
  | some t =>
    rw [ho] at hd
    obtain ⟨hlt, hd⟩ := bif_t (show (bif Nat.blt t sz then some (some (pa t)) else none) = some d from hd)
    cases hd
    have hlt2 : t < sz := Nat.blt_eq.mp hlt
    refine ⟨?_, by simp [Act.put], rfl⟩
    intro s u hs
    have hs' : Tr.get (pa s) (Tr.set (some v) (pa t) f) = some u := hs
    by_cases e : s = t
    · subst e
      rw [Tr.get_set_same] at hs'; cases hs'
      refine ⟨y, hv, ?_⟩
      simp only [Act.put]
      rw [Array.getElem?_setIfInBounds_self_of_lt (Nat.lt_of_lt_of_le hlt2 hsz)]
    · rw [Tr.get_set_ne _ _ _ _ (fun h => e (pa_inj h))] at hs'
      obtain ⟨x, hx, ha⟩ := hf s u hs'
      refine ⟨x, hx, ?_⟩
      simp only [Act.put]
      rw [Array.getElem?_setIfInBounds_ne (Ne.symm e)]; exact ha
theorem nth_get? {α : Type} {l : List α} {i : Nat} {x : α} (h : nth l i = some x) : l[i]? = some x := by
  rw [nth_get] at h; exact h
theorem passed_ok {ε : Env} {f : Tr SV} {a : Act} {o : Oper} {ops : Array Oper} {gd : Option (Pa × Bool)} (hg : gdT ops.toList o = some gd) (hf : ∀ p, gd = some p → ∀ v, Tr.get p.1 f = some v → ∀ t, p.1 = pa t → ∃ x, den ε v = some x ∧ a.tmps[t]? = some x) {b : Bool} (hb : passed f gd = some b) :
    Region.wanted o (yielded ops a.tmps) = !b := by
  unfold gdT at hg
  unfold Region.wanted
  cases ho : o.guard with
  | none =>
    rw [ho] at hg; cases hg; cases hb; rfl
  | some q =>
    obtain ⟨j, want⟩ := q
    rw [ho] at hg
    obtain ⟨og, hog, hg⟩ := Option.bind_eq_some_iff.1 (show (nth ops.toList j).bind _ = some gd from hg)
    obtain ⟨t, ht, hg⟩ := Option.bind_eq_some_iff.1 hg
    cases hg
    obtain ⟨v, hv, hb⟩ := Option.bind_eq_some_iff.1 (show (Tr.get (pa t) f).bind _ = some b from hb)
    obtain ⟨x, hx, ha⟩ := hf _ rfl v hv t rfl
    have hoj : ops[j]? = some og := by simpa using nth_get? hog
    have hy : yielded ops a.tmps j = (match x with
      | .bool b => some b
      | _ => none) := by
      unfold yielded
      rw [hoj]; simp only [Option.bind_some, ht, ha]
      cases x <;> rfl
    dsimp only
    rw [hy]
    unfold passed1 at hb
    cases v with
    | bool b' =>
      cases hx
      cases hb
      cases b' <;> cases want <;> rfl
    | tup l =>
      cases l with
      | nil => cases hx; cases hb; rfl
      | cons _ _ => cases hb
    | _ => cases hb
/-- One operation in order. -/
theorem stepX_ok (hP : POk P c) {rec : Job → Out} (hS : Sound P c B w0 rec) {ops : Array Oper} {i : Nat} {o : Oper} (hi : ops[i]? = some o) {gd : Option (Pa × Bool)} {d : Option Pa} {x : Iop} {sz : Nat} (hg : gdT ops.toList o = some gd) (hd : dstT sz o = some d) (hc : compI c o.op = some x)
    {k : Tr SV → List Df → Tr SO → Nat → Out} {f : Tr SV} {ds : List Df} {h : Tr SO} {nx : Nat} {ε : Env} {w : World} {a : Act} {F : Fence} {ro : Option Pa} (hro : RoOk ε ro F) (hdf : DfOk ε ds a.defers) (hnb : ∀ wd, stepX ro rec gd d x k f ds h nx ≠ .bad wd) (hp : Pre c B w0 ε h nx w) (hf : FrOk ε f a.tmps) (hsz : sz ≤ a.tmps.size) {K : Act → World → Prop} {Q : Exit → Act → World → Prop}
    (hK : ∀ f' ds' h' nx' ε' a' w', stepX ro rec gd d x k f ds h nx = k f' ds' h' nx' → Goes c ε h nx w ε' h' nx' w' → Sat c B ε' h' w' → FrOk ε' f' a'.tmps → a'.tmps.size = a.tmps.size → DfOk ε' ds' a'.defers → K a' w')
    (hKp : ∀ t h' nx' ε' w', stepX ro rec gd d x k f ds h nx = .pan t f ds h' nx' → Goes c ε h nx w ε' h' nx' w' → Sat c B ε' h' w' → Q (.panic [{ v := .iface t (.agg #[]), recovered := false }]) a w') :
    wpOpIn F 0 P ops Q i K a w := by
  have hF := hro.free
  unfold wpOpIn
  rw [hi]
  dsimp only
  have hs : stepX ro rec gd d x k f ds h nx = stepX ro rec gd d x k f ds h nx := rfl
  conv at hs => lhs; unfold stepX
  cases hpa : passed f gd with
  | none => rw [hpa] at hs; exact absurd hs.symm (hnb _)
  | some b =>
    rw [hpa] at hs
    have hw := passed_ok (a := a) (ε := ε) hg (fun p _ v hv t e => hf t v (by rw [← e]; exact hv)) hpa
    cases b with
    | true =>
      rw [hw]
      refine ⟨fun f _ => hF.fn f, ?_⟩
      obtain ⟨f1, f2, f3⟩ := frOk_put (y := undef) hd hsz hf (v := .tup []) (by rfl)
      exact hK _ _ _ _ ε _ w hs.symm (Goes.refl _ _ _ _ _) hp.sat f1 f2 (by rw [f3]; exact hdf)
    | false =>
      rw [hw]
      show o.wpIn F 0 P a w K Q
      have fin : ∀ {v h' nx'}, stepX ro rec gd d x k f ds h nx = k (putD f d v) ds h' nx' → Behind c B ε h nx w a o v h' nx' K := by
        intro v h' nx' e ε' y w' q1 q2 q3
        obtain ⟨f1, f2, f3⟩ := frOk_put hd hsz (hf.sub (q2.sub (hp.fresh.fresh _))) q1
        exact hK _ _ _ _ ε' _ w' e q2 q3 f1 f2 (by rw [f3]; exact hdf.sub (q2.sub (hp.fresh.fresh _)))
      have hheavy : (∀ k g, x ≠ .l k g) → (∀ g as, x ≠ .d g as) → (∀ X, x ≠ .p X) → o.wpIn F 0 P a w K Q := by
        intro h1 h2 h3
        have hs' : (match heavy rec f h nx x with
          | .val v h nx => k (putD f d v) ds h nx
          | .pan t _ _ h nx => .pan t f ds h nx
          | .bad w => .bad w
          | _ => .bad [7]) = stepX ro rec gd d x k f ds h nx := by
          rw [← hs]
          cases x with
          | l k g => exact absurd rfl (h1 k g)
          | d g as => exact absurd rfl (h2 g as)
          | p X => exact absurd rfl (h3 X)
          | _ => rfl
        cases hv : heavy rec f h nx x with
        | val v h' nx' =>
          rw [hv] at hs'
          exact heavy_ok hP hS hF hc hp hf hv (fin hs'.symm)
        | pan t f1 ds1 h' nx' =>
          rw [hv] at hs'
          exact heavy_gen hP hS hF hc hp hf hv (.inr ⟨_, _, _, _, _, rfl⟩) (fun _ _ _ e => by cases e) (fun _ _ _ _ _ e ε' w' g1 s1 => by cases e; exact hKp _ _ _ ε' w' hs'.symm g1 s1)
        | _ => rw [hv] at hs'; exact absurd hs'.symm (hnb _)
      cases x with
      | l kk g =>
        rcases compI_inv hc with ⟨k1, g1, e, hL, hnd⟩ | ⟨g, e, _⟩ | ⟨_, _, _, _, e, _⟩ | ⟨_, _, _, _, e, _⟩ | ⟨_, _, e, _⟩
        · cases e
          obtain ⟨l1, l2⟩ := light_ok (Q := Q) (K := K) hP hF hL hnd hp hf
          have hs' : (match g h (pa nx) f with
            | .v x => k (putD f d x) ds h nx
            | .a x o => k (putD f d x) ds (Tr.set (some o) (pa nx) h) (nx + 1)
            | .bad => .bad [5]) = stepX ro rec gd d (.l kk g) k f ds h nx := hs
          cases hv : g h (pa nx) f with
          | bad => rw [hv] at hs'; exact absurd hs'.symm (hnb _)
          | v x => rw [hv] at hs'; exact l1 x hv (fin hs'.symm)
          | a x ob => rw [hv] at hs'; exact l2 x ob hv (fin hs'.symm)
        · cases e
        · cases e
        · cases e
        · cases e
      | m g => exact hheavy (by simp) (by simp) (by simp)
      | c g as => exact hheavy (by simp) (by simp) (by simp)
      | p X =>
        rcases compI_inv hc with ⟨_, _, e, _⟩ | ⟨_, e, _⟩ | ⟨_, _, _, _, e, _⟩ | ⟨_, _, _, _, e, _⟩ | ⟨y, X', e, hop, hX⟩
        · cases e
        · cases e
        · cases e
        · cases e
        · cases e
          have hs' : (match opv f X with
            | some (.iface t (.agg [])) => .pan t f ds h nx
            | _ => .bad [62]) = stepX ro rec gd d (.p X) k f ds h nx := hs
          split at hs'
          · rename_i t hv
            obtain ⟨y', hy, hye⟩ := opd_ok hf hp.env hX hv
            cases hy
            refine ⟨fun f _ => hF.fn f, ?_⟩
            rw [Oper.semAt_eq _ _ _ (fun cl e => by rw [hop] at e; cases e)]
            have hrun : (execOp a.eval o).run P w = .halt (.panic (.iface t (.agg #[]))) w := by
              simp only [execOp, hop, hye]
              rfl
            rw [hrun, Oper.uponIn_panic]
            exact hKp _ _ _ ε w hs'.symm (Goes.refl _ _ _ _ _) hp.sat
          · exact absurd hs'.symm (hnb _)
      | d g as =>
        cases ro with
        | some l =>
          have hs' : Out.bad [6] = stepX (some l) rec gd d (.d g as) k f ds h nx := hs
          exact absurd hs'.symm (hnb _)
        | none =>
          cases hro
          have hs' : (match (opv f g).bind fun v => deferJ f v as with
            | some df => k (putD f d (.tup [])) (df :: ds) h nx
            | none => .bad [6]) = stepX none rec gd d (.d g as) k f ds h nx := hs
          cases hj : (opv f g).bind fun v => deferJ f v as with
          | none => rw [hj] at hs'; exact absurd hs'.symm (hnb _)
          | some df =>
            rw [hj] at hs'
            dsimp only at hs'
            rcases compI_inv hc with ⟨_, _, e, _⟩ | ⟨_, e, _⟩ | ⟨_, _, _, _, e, _⟩ | ⟨cl, g0, G, as', e, hop, hcal, hG, has⟩ | ⟨_, _, e, _⟩
            · cases e
            · cases e
            · cases e
            · cases e
              obtain ⟨gv, hgv, hj⟩ := Option.bind_eq_some_iff.1 hj
              obtain ⟨y, hy, hye⟩ := opd_ok hf hp.env hG hgv
              cases gv <;> try cases hj
              rename_i k1 first cap
              obtain ⟨args, hargs, hj2⟩ := Option.bind_eq_some_iff.1 (show (mapO (opv f) as).bind _ = some df from hj)
              cases hj2
              have hav := opds_ok hf hp.env has hargs
              unfold den at hy
              obtain ⟨p, hp1, hy1⟩ := Option.bind_eq_some_iff.1 hy
              obtain ⟨q, hq1, hy2⟩ := Option.bind_eq_some_iff.1 hy1
              cases hy2
              have hall := denL_append (denL_append hp1 hav) hq1
              have hrun : (execOp a.eval o).run P w = .ok (.defer ⟨.fn (.func k1) q.toArray, (p ++ cl.args.toList.map a.eval).toArray⟩) w := by
                simp only [execOp, hop, resolve, hcal, hye, Deferred.ofValue]
                simp only [Sem.run_bind, Sem.run_pure, Result.andThen_ok]
                congr 3
                apply Array.ext'
                simp
              refine ⟨fun _ _ => trivial, ?_⟩
              show o.uponIn Fence.wide 0 P a K Q ((execOp a.eval o).run P w)
              rw [hrun, Oper.uponIn_defer]
              obtain ⟨f1, f2, f3⟩ := frOk_put (a := { a with defers := ⟨.fn (.func k1) q.toArray, (p ++ cl.args.toList.map a.eval).toArray⟩ :: a.defers }) (y := undef) hd hsz hf (v := .tup []) (by rfl)
              exact hK _ _ _ _ ε _ w hs'.symm (Goes.refl _ _ _ _ _) hp.sat f1 f2 (by rw [f3]; exact .call hall hdf)
            · cases e
theorem seqOps_cons (ro : Option Pa) (rec : Job → Out) (gd : Option (Pa × Bool)) (d : Option Pa) (x : Iop) (rest : List Ins) (f : Tr SV) (ds : List Df) (h : Tr SO) (nx : Nat) :
    seqOps ro rec (mkIns gd d x :: rest) f ds h nx = stepX ro rec gd d x (seqOps ro rec rest) f ds h nx := by
  cases x with
  | l k g =>
    cases gd with
    | some _ => rfl
    | none =>
      cases d with
      | none => rfl
      | some d =>
        show LR.rec (motive := fun _ => Out) (.bad [5]) (fun x => seqOps ro rec rest (Tr.set (some x) d f) ds h nx) (fun x o => seqOps ro rec rest (Tr.set (some x) d f) ds (Tr.set (some o) (pa nx) h) (nx + 1)) (g h (pa nx) f) = (match g h (pa nx) f with
          | .v x => seqOps ro rec rest (putD f (some d) x) ds h nx
          | .a x o => seqOps ro rec rest (putD f (some d) x) ds (Tr.set (some o) (pa nx) h) (nx + 1)
          | .bad => .bad [5])
        cases g h (pa nx) f <;> rfl
  | m g => rfl
  | c g as => rfl
  | d g as => rfl
  | p x => rfl
theorem compO_inv {sz : Nat} {all : List Oper} {o : Oper} {s : Ins} (h : compO c sz all o = some s) : ∃ gd d x, gdT all o = some gd ∧ dstT sz o = some d ∧ compI c o.op = some x ∧ s = mkIns gd d x := by
  unfold compO at h
  obtain ⟨gd, h1, h⟩ := Option.bind_eq_some_iff.1 h
  obtain ⟨d, h2, h⟩ := Option.bind_eq_some_iff.1 h
  obtain ⟨x, h3, h⟩ := Option.bind_eq_some_iff.1 h
  cases h
  exact ⟨gd, d, x, h1, h2, h3, rfl⟩
/-- A region in order. -/
theorem seq_ok (hP : POk P c) {rec : Job → Out} (hS : Sound P c B w0 rec) {ops : Array Oper} {sz : Nat} {F : Fence} {ro : Option Pa} {Q : Exit → Act → World → Prop} :
    ∀ (l : List Oper) (i : Nat), (∀ j, l[j]? = ops[i + j]?) → ∀ (il : List Ins), mapO (compO c sz ops.toList) l = some il → ∀ (f : Tr SV) (ds : List Df) (h : Tr SO) (nx : Nat) (ε : Env) (w : World) (a : Act), RoOk ε ro F →
      (∀ wd, seqOps ro rec il f ds h nx ≠ .bad wd) → Pre c B w0 ε h nx w → FrOk ε f a.tmps → sz ≤ a.tmps.size → DfOk ε ds a.defers →
      (∀ e a' w', CodeQ c B ε h nx w sz (seqOps ro rec il f ds h nx) e a' w' → Q e a' w') → wpOpsIn F 0 P ops Q (List.range' i l.length) a w
  | [], i, _, il, hil, f, ds, h, nx, ε, w, a, _, _, hp, hf, hsz, hd, hQ => by
    cases hil
    exact hQ _ _ _ ⟨f, ds, h, nx, ε, .go, hf, hsz, hd, Goes.refl _ _ _ _ _, hp.sat⟩
  | o :: l, i, hl, il, hil, f, ds, h, nx, ε, w, a, hro, hnb, hp, hf, hsz, hd, hQ => by
    unfold mapO at hil
    obtain ⟨s, hs, hil⟩ := Option.bind_eq_some_iff.1 hil
    obtain ⟨il, hil2, hil⟩ := Option.bind_eq_some_iff.1 hil
    cases hil
    obtain ⟨gd, d, x, h1, h2, h3, rfl⟩ := compO_inv hs
    have hi : ops[i]? = some o := by
      have := hl 0
      simpa using this.symm
    rw [seqOps_cons] at hnb
    show wpOpsIn F 0 P ops Q (i :: List.range' (i + 1) l.length) a w
    rw [wpOpsIn_cons]
    refine stepX_ok hP hS hi h1 h2 h3 hro hd hnb hp hf hsz ?_ (fun t h' nx' ε' w' e q1 q2 => hQ _ _ _ (by
      rw [seqOps_cons, e]
      exact ⟨f, ds, h', nx', ε', .pan, hf.sub (q1.sub (hp.fresh.fresh _)), hsz, hd.sub (q1.sub (hp.fresh.fresh _)), q1, q2⟩))
    intro f' ds' h' nx' ε' a' w' e q1 q2 q3 q4 q5
    have hpre := hp.next q1 q2
    refine seq_ok hP hS l (i + 1) (fun j => by have := hl (j + 1); simp only [List.getElem?_cons_succ] at this; rw [this]; congr 1; omega) il hil2 f' ds' h' nx' ε' w' a' (hro.sub (q1.sub (hp.fresh.fresh _))) (by rw [← e]; exact hnb) hpre q3 (by omega) q5 ?_
    intro ex a2 w2 q
    refine hQ ex a2 w2 ?_
    rw [seqOps_cons, e]
    exact q.after q1
end
end Go.Proofs.YtohikcchbjchkaaGreatDoor.Sx

/- The executor is sound: control. -/
namespace Go.Proofs.YtohikcchbjchkaaGreatDoor.Sx
open Go
section
variable {P : Program} {c : Cx} {B : Nat} {w0 : World} {F : Fence} {Q : Exit → Act → World → Prop} {a : Act} {w : World}
theorem XWp.wpIn {x : Code} (h : XWp F P x Q a w) : (Code.loop x).wpIn F 0 P Q a w := fun b k cs hro hb hr =>
  let ⟨e, a', w', hq, harr⟩ := h b k cs hro hb hr
  ⟨e, a', w', hq, .of_steps (.one (fenced_calm hb hr rfl) stepR_loop) harr⟩
theorem CodeWp.wpIn {x : Code} (h : CodeWp F P x Q a w) : x.wpIn F 0 P Q a w := by
  cases x with
  | loop x => exact XWp.wpIn h
  | _ => exact h
theorem XWp.of {x : Code} (h : x.wpIn F 0 P (Exit.then (XWp F P x Q) Q) a w) : XWp F P x Q a w := by
  intro b k cs hro hb hr
  obtain ⟨e, a₁, w₁, hq, harr⟩ := h b (.inLoop x :: k) cs hro hb hr
  cases e with
  | normal =>
    obtain ⟨e₂, a₂, w₂, hq₂, harr₂⟩ := hq b k cs hro hb hr
    exact ⟨e₂, a₂, w₂, hq₂, .of_steps (StepsIn.trans harr (.one (fenced_calm hb hr rfl) stepR_inLoop)) harr₂⟩
  | exit id => exact ⟨_, a₁, w₁, hq, .pass (x := .inLoop x) rfl (fun _ _ => .inl (by simp)) harr⟩
  | goto l => exact ⟨_, a₁, w₁, hq, .pass (x := .inLoop x) rfl (fun _ _ => .inl (by simp)) harr⟩
  | ret => exact ⟨_, a₁, w₁, hq, .pass (x := .inLoop x) rfl (fun _ _ => .inl (by simp)) harr⟩
  | panic ch => exact ⟨_, a₁, w₁, hq, .pass (x := .inLoop x) rfl (fun _ _ => .inl (by simp)) harr⟩
  | outgrown => exact ⟨_, a₁, w₁, hq, .pass (x := .inLoop x) rfl (fun _ _ => .inl (by simp)) harr⟩
theorem stepR_scope' {b : Frame} {k : List Item} {cs : List Frame} {x : Code} : step P (lone (b.atR a (.code (.scope x) :: k)) cs w) = .next (lone (b.atR a (.code x :: .inScope x :: k)) cs w) :=
  step_lone_go (by simp [stepG, stepG.exec, Frame.atR])
theorem stepR_inScope' {b : Frame} {k : List Item} {cs : List Frame} {x : Code} : step P (lone (b.atR a (.inScope x :: k)) cs w) = .next (lone (b.atR a k) cs w) :=
  step_lone_go (by simp [stepG, stepG.exec, Frame.atR])
/-- A jump in a scope. -/
theorem XScp.of {x r : Code} (h : r.wpIn F 0 P (fun e a w => (∀ l, e = .goto l → (∀ r', findLabel x l = some r' → XScp F P x r' Q a w) ∧ (findLabel x l = none → Q e a w)) ∧ ((∀ l, e ≠ .goto l) → Q e a w)) a w) : XScp F P x r Q a w := by
  intro b k cs hro hb hr
  obtain ⟨e, a₁, w₁, ⟨hg, hq⟩, harr⟩ := h b (.inScope x :: k) cs hro hb hr
  cases e with
  | normal => exact ⟨.normal, a₁, w₁, hq (by simp), StepsIn.trans harr (.one (fenced_calm hb hr rfl) stepR_inScope')⟩
  | exit id =>
    have hx : exitTo id (.inScope x :: k) = exitTo id k := by simp [exitTo]
    exact ⟨_, a₁, w₁, hq (by simp), fun k' hk => harr.1 k' (by rw [hx]; exact hk), fun hr' hk => harr.2 hr' (by rw [hx]; exact hk)⟩
  | goto l =>
    obtain ⟨h1, h2⟩ := hg l rfl
    cases hl : findLabel x l with
    | some r' =>
      obtain ⟨e₂, a₂, w₂, hq₂, harr₂⟩ := h1 r' hl b k cs hro hb hr
      exact ⟨e₂, a₂, w₂, hq₂, .of_steps (harr.1 _ (by simp [gotoIn, hl])) harr₂⟩
    | none =>
      have hx : gotoIn l (.inScope x :: k) = gotoIn l k := by simp [gotoIn, hl]
      exact ⟨_, a₁, w₁, h2 hl, fun k' hk => harr.1 k' (by rw [hx]; exact hk), fun hr' hk => harr.2 hr' (by rw [hx]; exact hk)⟩
  | ret => exact ⟨_, a₁, w₁, hq (by simp), harr⟩
  | panic ch => exact ⟨_, a₁, w₁, hq (by simp), harr⟩
  | outgrown => exact ⟨_, a₁, w₁, hq (by simp), harr⟩
theorem XScp.wpIn {x : Code} (h : XScp F P x x Q a w) : (Code.scope x).wpIn F 0 P Q a w := fun b k cs hro hb hr =>
  let ⟨e, a', w', hq, harr⟩ := h b k cs hro hb hr
  ⟨e, a', w', hq, .of_steps (.one (fenced_calm hb hr rfl) stepR_scope') harr⟩
theorem findL_ok {sz l : Nat} : ∀ x : Code, findL (compC c sz x) l = (findLabel x l).map (compC c sz)
  | .seq a b => by
    have h1 := findL_ok (sz := sz) (l := l) a
    have h2 := findL_ok (sz := sz) (l := l) b
    show (match findL (compC c sz a) l with
      | some r => some (IC.seq r (compC c sz b))
      | none => findL (compC c sz b) l) = _
    have h3 : findLabel (.seq a b) l = match findLabel a l with
      | some rest => some (.seq rest b)
      | none => findLabel b l := by
      conv => lhs; unfold findLabel
      rfl
    rw [h1, h2, h3]
    cases findLabel a l with
    | none => rfl
    | some r => rfl
  | .label l' => by
    show (bif Nat.beq l' l then some IC.skip else none) = _
    unfold findLabel
    cases e : Nat.beq l' l with
    | true => have := Nat.eq_of_beq_eq_true e; subst this; simp; rfl
    | false =>
      have : (l' == l) = false := by
        cases hh : (l' == l) with
        | false => rfl
        | true => rw [beq_iff_eq] at hh; subst hh; rw [Nat.beq_refl] at e; cases e
      rw [this]; rfl
  | .skip => rfl
  | .region _ ops draw => by
    have h : findL (compC c sz (.region ‹_› ops draw)) l = none := by
      unfold compC
      cases draw with
      | true =>
        simp only [cond_true]
        cases masks [] ops.toList with
        | none => rfl
        | some ms =>
          dsimp only
          cases tmpOk ops.toList ms ops.toList 0 with
          | false => rfl
          | true =>
            simp only [cond_true]
            cases compD c sz ops.toList ops.toList ms <;> rfl
      | false =>
        simp only [cond_false]
        cases mapO (compO c sz ops.toList) ops.toList <;> rfl
    exact h
  | .cond k a b => by
    show findL (match opdT c.ng k with
      | some k => IC.cond k (compC c sz a) (compC c sz b)
      | none => IC.bad) l = none
    cases opdT c.ng k <;> rfl
  | .block i b => rfl
  | .loop b => rfl
  | .rangeFunc g ps a b => by
    show findL (match opdT c.ng g with
      | some g => IC.rf g sz ps.toList a b
      | none => IC.bad) l = none
    cases opdT c.ng g <;> rfl
  | .exit i => rfl
  | .scope b => rfl
  | .goto l' => rfl
  | .ret => rfl
  | .refuse _ => rfl

/-- What the parts of code are asked. -/
theorem use_code {rec : Job → Out} (hS : Sound P c B w0 rec) {ro : Option Pa} {sz : Nat} {x : Code} {f : Tr SV} {ds : List Df} {h : Tr SO} {nx : Nat} {o1 : Out} (ho : rec (.code ro (compC c sz x) f ds h nx) = o1) (hnb : ∀ wd, o1 ≠ .bad wd) {ε : Env}
    (hro : RoOk ε ro F) (hp : Pre c B w0 ε h nx w) (hf : FrOk ε f a.tmps) (hsz : sz ≤ a.tmps.size) (hd : DfOk ε ds a.defers) : CodeWp F P x (CodeQ c B ε h nx w sz o1) a w := by
  rcases hS (.code ro (compC c sz x) f ds h nx) with ⟨wd, e⟩ | hj
  · rw [ho] at e; exact absurd e (hnb wd)
  · rw [ho] at hj
    exact hj sz x ε w a F rfl hro hp hf hsz hd
/-- A scope's parts. -/
theorem use_scope {rec : Job → Out} (hS : Sound P c B w0 rec) {ro : Option Pa} {sz : Nat} {x r : Code} {f : Tr SV} {ds : List Df} {h : Tr SO} {nx : Nat} {o1 : Out} (ho : rec (.scope ro (compC c sz x) (compC c sz r) f ds h nx) = o1) (hnb : ∀ wd, o1 ≠ .bad wd) {ε : Env}
    (hro : RoOk ε ro F) (hp : Pre c B w0 ε h nx w) (hf : FrOk ε f a.tmps) (hsz : sz ≤ a.tmps.size) (hd : DfOk ε ds a.defers) : XScp F P x r (CodeQ c B ε h nx w sz o1) a w := by
  rcases hS (.scope ro (compC c sz x) (compC c sz r) f ds h nx) with ⟨wd, e⟩ | hj
  · rw [ho] at e; exact absurd e (hnb wd)
  · rw [ho] at hj
    exact hj sz x r ε w a F rfl rfl hro hp hf hsz hd
/-- A scope, in a step. -/
theorem scope_ok {rec : Job → Out} (hS : Sound P c B w0 rec) {ro : Option Pa} {sz : Nat} {x r : Code} {f : Tr SV} {ds : List Df} {h : Tr SO} {nx : Nat} {ε : Env} (hnb : ∀ wd, xScope rec ro (compC c sz x) (compC c sz r) f ds h nx ≠ .bad wd)
    (hro : RoOk ε ro F) (hp : Pre c B w0 ε h nx w) (hf : FrOk ε f a.tmps) (hsz : sz ≤ a.tmps.size) (hd : DfOk ε ds a.defers) : XScp F P x r (CodeQ c B ε h nx w sz (xScope rec ro (compC c sz x) (compC c sz r) f ds h nx)) a w := by
  unfold xScope at hnb ⊢
  refine XScp.of ?_
  cases ho : rec (.code ro (compC c sz r) f ds h nx) with
  | bad wd => rw [ho] at hnb; exact absurd rfl (hnb wd)
  | goto l f1 ds1 h1 n1 =>
    rw [ho] at hnb
    dsimp only at hnb ⊢
    refine wpIn_mono (use_code hS ho (by simp) hro hp hf hsz hd).wpIn fun ex a1 w1 q => ?_
    obtain ⟨f', ds', h', nx', ε', q1, q2, q3, q4, q5, q6⟩ := q
    cases q1
    refine ⟨fun l' e => ?_, fun hn => absurd rfl (hn l)⟩
    cases e
    have hfl := findL_ok (c := c) (sz := sz) (l := l) x
    constructor
    · intro r' hr'
      rw [hr'] at hfl
      rw [hfl] at hnb ⊢
      dsimp only [Option.map_some] at hnb ⊢
      have := use_scope hS rfl hnb (hro.sub (q5.sub (hp.fresh.fresh _))) (hp.next q5 q6) q2 q3 q4
      exact fun b k cs e1 e2 e3 => let ⟨e, a', w', q, r⟩ := this b k cs e1 e2 e3; ⟨e, a', w', q.after q5, r⟩
    · intro hr'
      rw [hr'] at hfl
      rw [hfl]
      exact ⟨f1, ds1, h1, n1, ε', .goto, q2, q3, q4, q5, q6⟩
  | _ =>
    refine wpIn_mono (use_code hS ho (by simp) hro hp hf hsz hd).wpIn fun ex a1 w1 q => ?_
    refine ⟨fun l e => ?_, fun _ => q⟩
    subst e
    obtain ⟨_, _, _, _, _, q1, _⟩ := q; cases q1
/-- On behind a part. -/
theorem go_on {rec : Job → Out} (hS : Sound P c B w0 rec) {ro : Option Pa} {sz : Nat} {x : Code} {f1 : Tr SV} {ds1 : List Df} {h h1 : Tr SO} {nx n1 : Nat} {out : Out} (hnb : ∀ wd, out ≠ .bad wd) {ε : Env}
    (hro : RoOk ε ro F) (hp : Pre c B w0 ε h nx w) {a1 : Act} {w1 : World} (hq : CodeQ c B ε h nx w sz (.go f1 ds1 h1 n1) .normal a1 w1) (ho : rec (.code ro (compC c sz x) f1 ds1 h1 n1) = out) : CodeWp F P x (CodeQ c B ε h nx w sz out) a1 w1 := by
  obtain ⟨f', ds', h', nx', ε', q1, q2, q3, q4, q5, q6⟩ := hq
  cases q1
  have := use_code hS ho hnb (hro.sub (q5.sub (hp.fresh.fresh _))) (hp.next q5 q6) q2 q3 q4
  cases x with
  | loop x => exact fun b k cs e1 e2 e3 => let ⟨e, a', w', q, r⟩ := this b k cs e1 e2 e3; ⟨e, a', w', q.after q5, r⟩
  | _ => exact wpIn_mono this fun e a' w' q => q.after q5
theorem outIs_go {out : Out} {e : Exit} {f' : Tr SV} {ds' : List Df} {h' : Tr SO} {nx' : Nat} (h : OutIs out e f' ds' h' nx') (hn : e = .normal) : out = .go f' ds' h' nx' := by
  cases h <;> first | rfl | cases hn
/-- Code, in a step. -/
theorem code_ok (hP : POk P c) {rec : Job → Out} (hS : Sound P c B w0 rec)
    (hDraw : ∀ {id : Nat} {ops : Array Oper} {sz : Nat} {l : List DIns} {ms : List Nat} {ε : Env} {f : Tr SV} {ds : List Df} {h : Tr SO} {nx : Nat} {w : World} {a : Act} {F : Fence}, masks [] ops.toList = some ms → tmpOk ops.toList ms ops.toList 0 = true → compD c sz ops.toList ops.toList ms = some l → (∀ wd, xDraw rec l f ds h nx ≠ .bad wd) →
      Free F → Pre c B w0 ε h nx w → FrOk ε f a.tmps → sz ≤ a.tmps.size → DfOk ε ds a.defers → (Code.region id ops true).wpIn F 0 P (CodeQ c B ε h nx w sz (xDraw rec l f ds h nx)) a w)
    (hRf : ∀ {g : Operand} {ps : Array Tmp} {asg body : Code} {G : Opd} {gv : SV} {sz : Nat} {ro : Option Pa} {ε : Env} {f : Tr SV} {ds : List Df} {h : Tr SO} {nx : Nat} {w : World} {a : Act} {F : Fence}, opdT c.ng g = some G → opv f G = some gv → (∀ wd, xRf c rec ro gv sz ps.toList asg body f ds h nx ≠ .bad wd) →
      RoOk ε ro F → Pre c B w0 ε h nx w → FrOk ε f a.tmps → sz ≤ a.tmps.size → DfOk ε ds a.defers → (Code.rangeFunc g ps asg body).wpIn F 0 P (CodeQ c B ε h nx w sz (xRf c rec ro gv sz ps.toList asg body f ds h nx)) a w)
    (code : Code) {sz : Nat} {ro : Option Pa} {f : Tr SV} {ds : List Df} {h : Tr SO} {nx : Nat} {ε : Env} (hnb : ∀ wd, xStep c rec (.code ro (compC c sz code) f ds h nx) ≠ .bad wd)
    (hro : RoOk ε ro F) (hp : Pre c B w0 ε h nx w) (hf : FrOk ε f a.tmps) (hsz : sz ≤ a.tmps.size) (hd : DfOk ε ds a.defers) :
    CodeWp F P code (CodeQ c B ε h nx w sz (xStep c rec (.code ro (compC c sz code) f ds h nx))) a w := by
  have at0 : ∀ {out e}, OutIs out e f ds h nx → CodeQ c B ε h nx w sz out e a w := fun ho => ⟨f, ds, h, nx, ε, ho, hf, hsz, hd, Goes.refl _ _ _ _ _, hp.sat⟩
  cases code with
  | skip => exact wpIn_skip (at0 .go)
  | label l => exact wpIn_label (at0 .go)
  | exit id => exact wpIn_exit (at0 .exit)
  | goto l => exact wpIn_goto (at0 .goto)
  | ret => exact wpIn_ret (at0 .ret)
  | refuse r => exact absurd rfl (hnb [41])
  | region id ops draw =>
    cases draw with
    | false =>
      have e : compC c sz (.region id ops false) = (match mapO (compO c sz ops.toList) ops.toList with
        | none => .bad
        | some l => .ops l) := rfl
      rw [e] at hnb ⊢
      cases hm : mapO (compO c sz ops.toList) ops.toList with
      | none => rw [hm] at hnb; exact absurd rfl (hnb [41])
      | some il =>
        rw [hm] at hnb
        show (Code.region id ops false).wpIn F 0 P (CodeQ c B ε h nx w sz (seqOps ro rec il f ds h nx)) a w
        refine wpIn_region ?_
        rw [List.range_eq_range']
        have := seq_ok (Q := CodeQ c B ε h nx w sz (seqOps ro rec il f ds h nx)) hP hS (ops := ops) (sz := sz) ops.toList 0 (fun j => by simp) il hm f ds h nx ε w a hro hnb hp hf hsz hd (fun _ _ _ q => q)
        simpa using this
    | true =>
      have e : compC c sz (.region id ops true) = (match masks [] ops.toList with
      | none => .bad
      | some ms => bif tmpOk ops.toList ms ops.toList 0 then (match compD c sz ops.toList ops.toList ms with
        | none => .bad
        | some l => .draw l) else .bad) := rfl
      rw [e] at hnb ⊢
      cases hm : masks [] ops.toList with
      | none => rw [hm] at hnb; exact absurd rfl (hnb [41])
      | some ms =>
        rw [hm] at hnb
        dsimp only at hnb ⊢
        cases ht : tmpOk ops.toList ms ops.toList 0 with
        | false => rw [ht] at hnb; exact absurd rfl (hnb [41])
        | true =>
          rw [ht] at hnb
          cases hc : compD c sz ops.toList ops.toList ms with
          | none => rw [hc] at hnb; exact absurd rfl (hnb [41])
          | some l =>
            rw [hc] at hnb
            exact hDraw hm ht hc hnb hro.free hp hf hsz hd
  | seq x y =>
    have e : xStep c rec (.code ro (compC c sz (.seq x y)) f ds h nx) = xSeq rec ro (compC c sz x) (compC c sz y) f ds h nx := rfl
    rw [e] at hnb ⊢
    unfold xSeq at hnb ⊢
    refine wpIn_seq ?_
    cases ho : rec (.code ro (compC c sz x) f ds h nx) with
    | bad wd => rw [ho] at hnb; exact absurd rfl (hnb wd)
    | go f1 ds1 h1 n1 =>
      rw [ho] at hnb
      refine wpIn_mono (use_code hS ho (by simp) hro hp hf hsz hd).wpIn fun ex a1 w1 q => ?_
      have hex : ex = .normal := by obtain ⟨_, _, _, _, _, q1, _⟩ := q; cases q1; rfl
      subst hex
      exact (go_on hS hnb hro hp q rfl).wpIn
    | _ =>
      refine wpIn_mono (use_code hS ho (by simp) hro hp hf hsz hd).wpIn fun ex a1 w1 q => ?_
      cases ex with
      | normal => obtain ⟨_, _, _, _, _, q1, _⟩ := q; cases q1
      | _ => exact q
  | cond k x y =>
    have e : compC c sz (.cond k x y) = (match opdT c.ng k with
      | some k => .cond k (compC c sz x) (compC c sz y)
      | none => .bad) := rfl
    rw [e] at hnb ⊢
    cases hk : opdT c.ng k with
    | none => rw [hk] at hnb; exact absurd rfl (hnb [41])
    | some kk =>
      rw [hk] at hnb
      have e2 : xStep c rec (.code ro (.cond kk (compC c sz x) (compC c sz y)) f ds h nx) = obd (.bad [42]) (opv f kk) fun k => xCond rec ro k (compC c sz x) (compC c sz y) f ds h nx := rfl
      dsimp only at hnb ⊢
      rw [e2] at hnb ⊢
      cases hv : opv f kk with
      | none => rw [hv] at hnb; exact absurd rfl (hnb [42])
      | some v =>
        rw [hv] at hnb
        obtain ⟨y', hy, hye⟩ := opd_ok hf hp.env hk hv
        cases v with
        | bool t =>
          cases hy
          refine wpIn_cond hye ?_
          cases t with
          | true => exact (use_code hS rfl hnb hro hp hf hsz hd).wpIn
          | false => exact (use_code hS rfl hnb hro hp hf hsz hd).wpIn
        | _ => exact absurd rfl (hnb [39])
  | block id x =>
    have e : xStep c rec (.code ro (compC c sz (.block id x)) f ds h nx) = xBlock rec ro id (compC c sz x) f ds h nx := rfl
    rw [e] at hnb ⊢
    unfold xBlock at hnb ⊢
    refine wpIn_block ?_
    cases ho : rec (.code ro (compC c sz x) f ds h nx) with
    | bad wd => rw [ho] at hnb; exact absurd rfl (hnb wd)
    | exit j f1 ds1 h1 n1 =>
      rw [ho] at hnb
      refine wpIn_mono (use_code hS ho (by simp) hro hp hf hsz hd).wpIn fun ex a1 w1 q => ?_
      obtain ⟨f', ds', h', nx', ε', q1, q2⟩ := q
      cases q1
      dsimp only at hnb ⊢
      cases hj : Nat.beq j id with
      | true =>
        cases Nat.eq_of_beq_eq_true hj
        simp only [Exit.inBlock, if_true]
        exact ⟨f1, ds1, h1, n1, ε', .go, q2⟩
      | false =>
        have : j ≠ id := fun e => by subst e; simp at hj
        simp only [Exit.inBlock, this, if_false]
        exact ⟨f1, ds1, h1, n1, ε', .exit, q2⟩
    | _ =>
      refine wpIn_mono (use_code hS ho (by simp) hro hp hf hsz hd).wpIn fun ex a1 w1 q => ?_
      cases ex with
      | exit _ => obtain ⟨_, _, _, _, _, q1, _⟩ := q; cases q1
      | _ => exact q
  | loop x =>
    have e : xStep c rec (.code ro (compC c sz (.loop x)) f ds h nx) = xLoop rec ro (compC c sz x) f ds h nx := rfl
    rw [e] at hnb ⊢
    unfold xLoop at hnb ⊢
    refine XWp.of ?_
    cases ho : rec (.code ro (compC c sz x) f ds h nx) with
    | bad wd => rw [ho] at hnb; exact absurd rfl (hnb wd)
    | go f1 ds1 h1 n1 =>
      rw [ho] at hnb
      refine wpIn_mono (use_code hS ho (by simp) hro hp hf hsz hd).wpIn fun ex a1 w1 q => ?_
      have hex : ex = .normal := by obtain ⟨_, _, _, _, _, q1, _⟩ := q; cases q1; rfl
      subst hex
      exact go_on (x := .loop x) hS hnb hro hp q rfl
    | _ =>
      refine wpIn_mono (use_code hS ho (by simp) hro hp hf hsz hd).wpIn fun ex a1 w1 q => ?_
      cases ex with
      | normal => obtain ⟨_, _, _, _, _, q1, _⟩ := q; cases q1
      | _ => exact q
  | scope x =>
    have e : xStep c rec (.code ro (compC c sz (.scope x)) f ds h nx) = rec (.scope ro (compC c sz x) (compC c sz x) f ds h nx) := rfl
    rw [e] at hnb ⊢
    exact XScp.wpIn (use_scope hS rfl hnb hro hp hf hsz hd)
  | rangeFunc g ps asg body =>
    have e : compC c sz (.rangeFunc g ps asg body) = (match opdT c.ng g with
      | some g => .rf g sz ps.toList asg body
      | none => .bad) := rfl
    rw [e] at hnb ⊢
    cases hk : opdT c.ng g with
    | none => rw [hk] at hnb; exact absurd rfl (hnb [41])
    | some G =>
      rw [hk] at hnb
      have e2 : xStep c rec (.code ro (.rf G sz ps.toList asg body) f ds h nx) = obd (.bad [43]) (opv f G) fun g => xRf c rec ro g sz ps.toList asg body f ds h nx := rfl
      dsimp only at hnb ⊢
      rw [e2] at hnb ⊢
      cases hv : opv f G with
      | none => rw [hv] at hnb; exact absurd rfl (hnb [43])
      | some gv =>
        rw [hv] at hnb
        exact hRf hk hv hnb hro hp hf hsz hd
end
end Go.Proofs.YtohikcchbjchkaaGreatDoor.Sx

/- The executor is sound: calls. -/
namespace Go.Proofs.YtohikcchbjchkaaGreatDoor.Sx
open Go
section
variable {P : Program} {c : Cx} {B : Nat} {w0 : World}
/-- An object that is not known any more, and has turned. -/
theorem sat_kill {ε : Env} {h : Tr SO} {w w' : World} (hs : Sat c B ε h w) {n : Pa} {o : SO} {x : Blk} (hn : Tr.get n h = some o) (ho : ownP c n = true) (hx : ε n = some x) (hsz : w'.heap.size = w.heap.size) (hk : ∀ b, b ≠ x.b → w'.heap[b]? = w.heap[b]?) (nx : Nat) (hio : Io w w' := by exact ⟨rfl, rfl⟩) :
    Sat c B ε (Tr.set none n h) w' ∧ Goes c ε h nx w ε (Tr.set none n h) nx w' := by
  have hd : ∀ m q, Tr.get m (Tr.set none n h) = some q → m ≠ n ∧ Tr.get m h = some q := by
    intro m q hq
    by_cases e : m = n
    · subst e; rw [Tr.get_set_same] at hq; cases hq
    · rw [Tr.get_set_ne _ _ _ _ e] at hq; exact ⟨e, hq⟩
  refine ⟨⟨?_, fun m1 m2 q1 q2 y1 y2 h1 h2 => hs.sep m1 m2 q1 q2 y1 y2 (hd _ _ h1).2 (hd _ _ h2).2⟩, ⟨Nat.le_refl _, fun _ _ => rfl, hio, by rw [hsz]; exact Nat.le_refl _, ?_, ?_⟩⟩
  · intro m q hq
    obtain ⟨e, hq⟩ := hd m q hq
    obtain ⟨y, hy, hoy, hB⟩ := hs.obj m q hq
    exact ⟨y, hy, hoy.keep (Sub.refl ε) (hk y.b fun e3 => hs.sep n m o q x y hn hq (Ne.symm e) ho hx hy e3.symm), hB⟩
  · intro b hb hno
    exact hk b fun e => hno ⟨n, o, x, hn, ho, hx, e.symm⟩
  · intro m q h1
    exact .inl ⟨q, (hd _ _ h1).2, rfl⟩
theorem run_setObj' {w : World} {r : Nat} {o o' : Obj} (h : w.heap[r]? = some o) (hc : ∀ a b c, o ≠ .cells a b c) : (setObj r o').run P w = .ok () { w with heap := w.heap.setIfInBounds r o' } := by
  unfold setObj
  simp only [Sem.run, h]
theorem heap_set {w : World} {r : Nat} {o' : Obj} (hlt : r < w.heap.size) : ({ w with heap := w.heap.setIfInBounds r o' } : World).heap[r]? = some o' ∧ ({ w with heap := w.heap.setIfInBounds r o' } : World).heap.size = w.heap.size ∧ ∀ b, b ≠ r → ({ w with heap := w.heap.setIfInBounds r o' } : World).heap[b]? = w.heap[b]? := by
  refine ⟨by simp [hlt], by simp, fun b hb => ?_⟩
  dsimp only
  rw [Array.getElem?_setIfInBounds_ne (Ne.symm hb)]
theorem take_run {w : World} {r : Nat} (h : w.heap[r]? = some (.deferred (some []))) : (Instr.takeDeferred r).run P w = .ok [] { w with heap := w.heap.setIfInBounds r (.deferred none) } := by
  unfold Instr.takeDeferred
  simp [run_getObj (P := P) h (by simp), run_setObj' (P := P) (o' := .deferred none) h (by simp)]

/-! ### Results -/
def resF (tmps : Array Value) : ResultVar → Sem Value
  | .tmp t => pure (tmps.getD t undef)
  | .cell a t => do loadVar t (← asAddr (tmps.getD a undef))
theorem resV_ok (hP : POk P c) {ε : Env} {h : Tr SO} {w : World} (hs : Sat c B ε h w) {f : Tr SV} {tmps : Array Value} (hf : FrOk ε f tmps) {r : ResultVar} {rv : RV} (hr : compRV c r = some rv) {v : SV} (hv : resV h f rv = some v) :
    ∃ y, den ε v = some y ∧ (resF tmps r).run P w = .ok y w := by
  cases r with
  | tmp t =>
    cases hr
    obtain ⟨y, hy, ha⟩ := hf t v hv
    exact ⟨y, hy, by simp [resF, Array.getD_eq_getD_getElem?, ha]⟩
  | cell a t =>
    obtain ⟨q, hq, hr⟩ := Option.bind_eq_some_iff.1 (show (aggT c.ty t).bind _ = some rv from hr)
    obtain ⟨h1, h2⟩ := run_agg hP hq w
    cases q with
    | none =>
      cases hr
      obtain ⟨u, hu, hv⟩ := Option.bind_eq_some_iff.1 (show (Tr.get (pa a) f).bind _ = some v from hv)
      obtain ⟨y, hy, ha⟩ := hf a u hu
      cases u <;> try cases hv
      rename_i n oo
      obtain ⟨⟨vs, e, s, q, z⟩, hg, hv⟩ := Option.bind_eq_some_iff.1 hv
      obtain ⟨A, y2, rfl, hy2, hr2⟩ := load1 (P := P) hs (getC_get hg) hv hy
      refine ⟨y2, hy2, ?_⟩
      have hgd : tmps.getD a undef = .pointer (some A) := by simp [Array.getD_eq_getD_getElem?, ha]
      unfold resF
      simp only [hgd]
      simp [asAddr, loadVar, h1]
      simpa using hr2
    | some s =>
      cases hr
      obtain ⟨u, hu, hv⟩ := Option.bind_eq_some_iff.1 (show (Tr.get (pa a) f).bind _ = some v from hv)
      obtain ⟨y, hy, ha⟩ := hf a u hu
      cases u <;> try cases hv
      rename_i n oo
      obtain ⟨⟨vs, e, s', q, z⟩, hg, hv⟩ := Option.bind_eq_some_iff.1 hv
      obtain ⟨l, hl, hv⟩ := Option.bind_eq_some_iff.1 hv
      cases hv
      obtain ⟨blk, hblk, rfl⟩ := den_ptr hy
      obtain ⟨ys, hys, _, hr2⟩ := loadN (P := P) hs (getC_get hg) hl hblk
      refine ⟨.agg ys.toArray, by unfold den; rw [hys]; rfl, ?_⟩
      have hgd : tmps.getD a undef = .pointer (some ⟨blk.b, blk.q + oo, none⟩) := by simp [Array.getD_eq_getD_getElem?, ha]
      unfold resF
      simp only [hgd]
      simp [asAddr, loadVar, h1, h2 s rfl, hr2]
theorem res_run (hP : POk P c) {ε : Env} {h : Tr SO} {w : World} (hs : Sat c B ε h w) {f : Tr SV} {tmps : Array Value} (hf : FrOk ε f tmps) : ∀ {rs : List ResultVar} {rvs : List RV} {vs : List SV}, mapO (compRV c) rs = some rvs → mapO (resV h f) rvs = some vs →
    ∃ ys, denL ε vs = some ys ∧ (rs.mapM (resF tmps)).run P w = .ok ys w
  | [], rvs, vs, h1, h2 => by
    cases h1; cases h2
    exact ⟨[], rfl, rfl⟩
  | r :: rs, rvs, vs, h1, h2 => by
    unfold mapO at h1
    obtain ⟨rv, hrv, h1⟩ := Option.bind_eq_some_iff.1 h1
    obtain ⟨rvs, hrvs, h1⟩ := Option.bind_eq_some_iff.1 h1
    cases h1
    unfold mapO at h2
    obtain ⟨v, hv, h2⟩ := Option.bind_eq_some_iff.1 h2
    obtain ⟨vs, hvs, h2⟩ := Option.bind_eq_some_iff.1 h2
    cases h2
    obtain ⟨y, hy, hr⟩ := resV_ok hP hs hf hrv hv
    obtain ⟨ys, hys, hrs⟩ := res_run hP hs hf hrvs hvs
    refine ⟨y :: ys, denL_mk hy hys, ?_⟩
    rw [List.mapM_cons]
    simp only [Sem.run_bind, hr, Result.andThen_ok, hrs, Sem.run_pure]
theorem results_ok (hP : POk P c) {ε : Env} {h : Tr SO} {w : World} (hs : Sat c B ε h w) {f : Tr SV} {tmps : Array Value} (hf : FrOk ε f tmps) {fn : Func} {rvs : List RV} (hr : mapO (compRV c) fn.results.toList = some rvs) {v : SV} (hv : resAll h f rvs = some v) :
    ∃ y, den ε v = some y ∧ (results fn tmps).run P w = .ok y w := by
  obtain ⟨vs, hvs, hv⟩ := Option.bind_eq_some_iff.1 (show (mapO (resV h f) rvs).bind _ = some v from hv)
  obtain ⟨ys, hys, hrun⟩ := res_run hP hs hf hr hvs
  have hlen := denL_len hys
  have hm : (results fn tmps).run P w = (do
      let vs ← fn.results.toList.mapM (resF tmps)
      pure (if h : vs.toArray.size = 1 then vs.toArray[0] else .tuple vs.toArray) : Sem Value).run P w := by
    have hfun : (fun r => (match r with
        | .tmp t => pure (tmps.getD t undef)
        | .cell a t => do loadVar t (← asAddr (tmps.getD a undef)) : Sem Value)) = resF tmps := by
      funext r; cases r <;> rfl
    unfold results
    rw [Array.mapM_eq_mapM_toList]
    simp only [bind_map_left]
    rw [← hfun]
    rfl
  rw [hm]
  simp only [Sem.run_bind, hrun, Result.andThen_ok, Sem.run_pure]
  have tup : ys.length ≠ 1 → (if h : ys.toArray.size = 1 then ys.toArray[0] else Value.tuple ys.toArray) = .tuple ys.toArray := fun h => by rw [dif_neg (by simpa using h)]
  cases vs with
  | nil =>
    cases hv; cases hys
    exact ⟨.tuple #[], rfl, rfl⟩
  | cons v1 vs =>
    cases vs with
    | nil =>
      cases hv
      obtain ⟨y, z, hy, hz, rfl⟩ := denL_cons hys
      cases hz
      exact ⟨y, hy, rfl⟩
    | cons v2 vs =>
      cases hv
      refine ⟨.tuple ys.toArray, by unfold den; rw [hys]; rfl, ?_⟩
      rw [tup (by rw [hlen]; simp)]
/-- What a call leaves alone. -/
def Left' (w w' : World) : Prop := Io w w' ∧ w.heap.size ≤ w'.heap.size ∧ ∀ b, b < w.heap.size → w'.heap[b]? = w.heap[b]?
theorem Left'.goes {w w' : World} (hl : Left' w w') {ε : Env} {h : Tr SO} (hs : Sat c B ε h w) (nx : Nat) : Goes c ε h nx w ε h nx w' ∧ Sat c B ε h w' :=
  ⟨⟨Nat.le_refl _, fun _ _ => rfl, hl.1, hl.2.1, fun b hb _ => hl.2.2 b hb, fun n o hn => .inl ⟨o, hn, rfl⟩⟩, fun n o hn => let ⟨x, hx, hob, hB⟩ := hs.obj n o hn; ⟨x, hx, hob.keep (Sub.refl ε) (hl.2.2 _ hob.lt), hB⟩, hs.sep⟩
/-- A function that is deferred, and recovers panics of type t: it is told a boolean's cell, which is false then. -/
def Rcv (P : Program) (k t : Nat) : Prop := ∀ (p : Addr) (b : Bool) (w : World), w.cell? p = some (.bool b) →
  (callFunc k #[.pointer (some p)]).run P w = .ok (.enter k #[.pointer (some p)]) w ∧
  CallsDIn Fence.wide 0 P k #[.pointer (some p)] .returning w (fun e u w' => (∃ y, e = .returned y) ∧ u = .returning ∧ Left' w w') ∧
  (w.frozen? p = false → CallsDIn Fence.wide 0 P k #[.pointer (some p)] (.panicking [{ v := .iface t (.agg #[]), recovered := false }]) w fun e u w' => (∃ y, e = .returned y) ∧ u = .panicking [{ v := .iface t (.agg #[]), recovered := true }] ∧ Left' (w.setCell p (.bool false)) w')
structure FOk (P : Program) (c : Cx) : Prop where
  fn : ∀ k fn, Tr.get (pa k) c.fn = some fn → ∃ F, P.funcs[k]? = some F ∧ (F.name == "runtime.NumGoroutine") = false ∧ compF c k F = some fn
  ext : ∀ k x, Tr.get (pa k) c.fn = none → Tr.get (pa k) c.ext = some x → ∀ B ε args vs h nx v h' nx' w, Sat c B ε h w → B ≤ w.heap.size → FreshA ε nx → denL ε args = some vs → extV x args h nx = some (v, h', nx') → ∃ ε' y w', den ε' v = some y ∧ (callFunc k vs.toArray).run P w = .ok (.value y) w' ∧ Goes c ε h nx w ε' h' nx' w' ∧ Sat c B ε' h' w'
  rcv : ∀ k t, Tr.get (pa k) c.rcv = some t → Rcv P k t
/-- On the way out. -/
theorem rcvP_inv {h : Tr SO} {args : List SV} {n : Pa} {o : Nat} (hr : rcvP h args = some (n, o)) : args = [.ptr n o] ∧ ∃ vs e s q z b, Tr.get n h = some (.cells vs e s q z) ∧ nth vs o = some (.bool b) := by
  unfold rcvP at hr
  split at hr
  · obtain ⟨⟨vs, e, s, q, z⟩, hg, h1⟩ := Option.bind_eq_some_iff.1 hr
    obtain ⟨v, hv, h2⟩ := Option.bind_eq_some_iff.1 h1
    split at h2
    · cases h2
      exact ⟨rfl, vs, e, s, q, z, _, getC_get hg, hv⟩
    · cases h2
  · cases hr
theorem rcv_cell {ε : Env} {h : Tr SO} {w : World} (hs : Sat c B ε h w) {args : List SV} {n : Pa} {o : Nat} (hr : rcvP h args = some (n, o)) {ys : List Value} (ha : denL ε args = some ys) : ∃ x b, ε n = some x ∧ ys = [.pointer (some ⟨x.b, x.q + o, none⟩)] ∧ w.cell? ⟨x.b, x.q + o, none⟩ = some (.bool b) := by
  obtain ⟨rfl, vs, e, s, q, z, b, h1, h2⟩ := rcvP_inv hr
  obtain ⟨p, r, hp, hr', rfl⟩ := denL_cons ha
  cases hr'
  obtain ⟨x, hx, rfl⟩ := den_ptr hp
  obtain ⟨x', hx', hob, _⟩ := hs.obj n _ h1
  rw [hx] at hx'; cases hx'
  obtain ⟨cs, fr, xs, k1, k2, k3, _⟩ := CellsOk.ex hob
  obtain ⟨y, hy, hi⟩ := denL_nth k2 h2
  cases hy
  refine ⟨x, b, hx, rfl, ?_⟩
  unfold World.cell?
  rw [k1]
  exact k3 o _ hi
theorem store_one {w w' : World} {p : Addr} {b : Bool} {y : Value} (hp : p.spot = none) (hy : y.oneCell' = true) (hc : w.cell? p = some (.bool b)) (h : (storeCells p [y]).run P w = .ok () w') : w.frozen? p = false ∧ w' = w.setCell p y := by
  have hadd : p.add 0 = p := by
    obtain ⟨b, o, s⟩ := p
    dsimp only at hp; subst hp
    have := add_off b 0 o 0
    simpa using this
  have hst := run_store P w p y .plain hy
  unfold storeCells at h
  simp only [Sem.run_bind, hadd] at h
  rw [hst, hc] at h
  by_cases hf : w.frozen? p = true
  · simp [hf] at h
  · simp [hf, storeCells] at h
    exact ⟨by simpa using hf, h.symm⟩
theorem leave_val {rec : Job → Out} : ∀ {ds : List Df} {h : Tr SO} {nx : Nat}, (∃ v h' nx', leave c rec ds h nx = .val v h' nx') ∨ ∃ wd, leave c rec ds h nx = .bad wd := by
  intro ds
  induction ds with
  | nil => intro h nx; exact .inl ⟨_, _, _, rfl⟩
  | cons d ds ih =>
    intro h nx
    cases d with
    | mark n =>
      show (∃ v h' nx', (match Tr.get n h with
        | some .dfr => bif ownP c n then leave c rec ds (Tr.set none n h) nx else .bad [60]
        | _ => .bad [18]) = .val v h' nx') ∨ ∃ wd, (match Tr.get n h with
        | some .dfr => bif ownP c n then leave c rec ds (Tr.set none n h) nx else .bad [60]
        | _ => .bad [18]) = .bad wd
      split
      · cases ownP c n with
        | true => exact ih
        | false => exact .inr ⟨_, rfl⟩
      · exact .inr ⟨_, rfl⟩
    | call k args =>
      show (∃ v h' nx', (match Tr.get (pa k) c.rcv with
        | some _ => (match rcvP h args with
          | some _ => leave c rec ds h nx
          | none => .bad [73])
        | none => match rec (.dcall k args h nx) with
          | .val _ h nx => leave c rec ds h nx
          | .bad w => .bad w
          | _ => .bad [19]) = .val v h' nx') ∨ ∃ wd, (match Tr.get (pa k) c.rcv with
        | some _ => (match rcvP h args with
          | some _ => leave c rec ds h nx
          | none => .bad [73])
        | none => match rec (.dcall k args h nx) with
          | .val _ h nx => leave c rec ds h nx
          | .bad w => .bad w
          | _ => .bad [19]) = .bad wd
      split
      · split
        · exact ih
        · exact .inr ⟨_, rfl⟩
      · split
        · exact ih
        · exact .inr ⟨_, rfl⟩
        · exact .inr ⟨_, rfl⟩
theorem leave_ok (hF : FOk P c) {rec : Job → Out} (hS : Sound P c B w0 rec) {fn : Func} {tmps : Array Value} {R : Ending → World → Prop} : ∀ {ds : List Df} {l : List Deferred} {ε : Env} {h : Tr SO} {nx : Nat} {w : World} {v : SV} {h' : Tr SO} {nx' : Nat}, DfOk ε ds l → leave c rec ds h nx = .val v h' nx' → Pre c B w0 ε h nx w →
    (∀ ε' w', Goes c ε h nx w ε' h' nx' w' → Sat c B ε' h' w' → ∃ v, (results fn tmps).run P w' = .ok v w' ∧ R (.returned v) w') → LeavesInM Fence.wide 0 P fn tmps R l .returning w := by
  intro ds
  induction ds with
  | nil =>
    intro l ε h nx w v h' nx' hd hl hp hR
    cases hd; cases hl
    exact hR ε w (Goes.refl _ _ _ _ _) hp.sat
  | cons d ds ih =>
    intro l ε h nx w v h' nx' hd hl hp hR
    cases hd with
    | mark hx hd =>
      rename_i n x l
      have hl' : (match Tr.get n h with
        | some .dfr => bif ownP c n then leave c rec ds (Tr.set none n h) nx else .bad [60]
        | _ => .bad [18]) = .val v h' nx' := hl
      cases hn : Tr.get n h with
      | none => rw [hn] at hl'; cases hl'
      | some o =>
        rw [hn] at hl'
        cases o with
        | dfr =>
          dsimp only at hl'
          cases ho : ownP c n with
          | false => rw [ho] at hl'; cases hl'
          | true =>
            rw [ho] at hl'
            obtain ⟨x', hx', hob, _⟩ := hp.sat.obj n _ hn
            rw [hx] at hx'; cases hx'
            have hb : w.heap[x.b]? = some (.deferred (some [])) := hob
            have hlt : x.b < w.heap.size := (Array.getElem?_eq_some_iff.1 hb).1
            obtain ⟨z1, z2, z3⟩ := heap_set (o' := .deferred none) hlt
            obtain ⟨k1, k2⟩ := sat_kill hp.sat hn ho hx z2 z3 nx
            refine ⟨by simp, .inl ⟨x.b, _, rfl, take_run hb, ?_⟩⟩
            exact ih hd hl' (hp.next k2 k1) fun ε' w' g1 g2 => hR ε' w' (k2.trans g1) g2
        | _ => cases hl'
    | call hx hd =>
      rename_i k args xs cs l
      have hl0 : (match Tr.get (pa k) c.rcv with
        | some _ => (match rcvP h args with
          | some _ => leave c rec ds h nx
          | none => .bad [73])
        | none => match rec (.dcall k args h nx) with
          | .val _ h nx => leave c rec ds h nx
          | .bad w => .bad w
          | _ => .bad [19]) = .val v h' nx' := hl
      cases hrc : Tr.get (pa k) c.rcv with
      | some t =>
        rw [hrc] at hl0
        dsimp only at hl0
        cases hrp : rcvP h args with
        | none => rw [hrp] at hl0; cases hl0
        | some no =>
          obtain ⟨n, o⟩ := no
          rw [hrp] at hl0
          obtain ⟨x, b, hx', hys, hcell⟩ := rcv_cell hp.sat hrp hx
          obtain ⟨j1, j2, _⟩ := hF.rcv k t hrc _ b w hcell
          refine ⟨by simp, .inr ⟨by simp [Fence.wide], .func k, cs.toArray, k, #[.pointer (some ⟨x.b, x.q + o, none⟩)], rfl, ?_, fun _ _ => trivial, ?_⟩⟩
          · show (callFunc k (xs.toArray ++ cs.toArray)).run P w = _
            rw [List.append_toArray, hys]; exact j1
          · refine CallsDIn.mono j2 fun e u' w' q => ?_
            obtain ⟨⟨y, rfl⟩, rfl, hleft⟩ := q
            obtain ⟨g0, s0⟩ := hleft.goes hp.sat nx
            exact ih hd hl0 (hp.next g0 s0) fun ε' w' g1 g2 => hR ε' w' (g0.trans g1) g2
      | none =>
      rw [hrc] at hl0
      have hl' : (match rec (.dcall k args h nx) with
        | .val _ h nx => leave c rec ds h nx
        | .bad w => .bad w
        | _ => .bad [19]) = .val v h' nx' := hl0
      cases ho : rec (.dcall k args h nx) with
      | val v0 h1 n1 =>
        rw [ho] at hl'
        dsimp only at hl'
        have hj := hS (.dcall k args h nx)
        rw [ho] at hj
        rcases hj with ⟨wd, e⟩ | hj
        · cases e
        obtain ⟨j1, j2⟩ := hj ε w _ hp hx
        refine ⟨by simp, .inr ⟨by simp [Fence.wide], .func k, cs.toArray, k, (xs ++ cs).toArray, rfl, ?_, fun _ _ => trivial, ?_⟩⟩
        · show (callFunc k (xs.toArray ++ cs.toArray)).run P w = _
          rw [List.append_toArray]; exact j1
        · refine CallsDIn.mono j2 fun e u' w' q => ?_
          obtain ⟨rfl, q⟩ := q
          rcases q with ⟨v1, h2, n2, ε', y, q1, rfl, q3, q4, q5⟩ | ⟨_, _, _, _, _, _, q1, _⟩
          case inr => cases q1
          cases q1
          exact ih (hd.sub (q4.sub (hp.fresh.fresh _))) hl' (hp.next q4 q5) fun ε2 w2 g1 g2 => hR ε2 w2 (q4.trans g1) g2
      | _ => rw [ho] at hl'; cases hl'

/-- On the way out, behind a panic. -/
theorem pleave_ok (hF : FOk P c) {rec : Job → Out} (hS : Sound P c B w0 rec) {fn : Func} {tmps : Array Value} {R : Ending → World → Prop} {t : Nat} : ∀ {ds : List Df} {l : List Deferred} {ε : Env} {h : Tr SO} {nx : Nat} {w : World} {out : Out}, DfOk ε ds l → pleave c rec t ds h nx = out → (∀ wd, out ≠ .bad wd) → Pre c B w0 ε h nx w →
    (∀ v h' nx', out = .val v h' nx' → ∀ ε' w', Goes c ε h nx w ε' h' nx' w' → Sat c B ε' h' w' → ∃ v, (results fn tmps).run P w' = .ok v w' ∧ R (.returned v) w') →
    (∀ f' ds' h' nx', out = .pan t f' ds' h' nx' → ∀ ε' w', Goes c ε h nx w ε' h' nx' w' → Sat c B ε' h' w' → R (.panicked [{ v := .iface t (.agg #[]), recovered := false }]) w') →
    LeavesInM Fence.wide 0 P fn tmps R l (.panicking [{ v := .iface t (.agg #[]), recovered := false }]) w := by
  intro ds
  induction ds with
  | nil =>
    intro l ε h nx w out hd hl hnb hp hV hN
    cases hd
    exact hN _ _ _ _ hl.symm ε w (Goes.refl _ _ _ _ _) hp.sat
  | cons d ds ih =>
    intro l ε h nx w out hd hl hnb hp hV hN
    cases hd with
    | mark hx hd =>
      rename_i n x l
      have hl' : (match Tr.get n h with
        | some .dfr => bif ownP c n then pleave c rec t ds (Tr.set none n h) nx else .bad [60]
        | _ => .bad [18]) = out := hl
      cases hn : Tr.get n h with
      | none => rw [hn] at hl'; exact absurd hl'.symm (hnb _)
      | some o =>
        rw [hn] at hl'
        cases o with
        | dfr =>
          dsimp only at hl'
          cases ho : ownP c n with
          | false => rw [ho] at hl'; exact absurd hl'.symm (hnb _)
          | true =>
            rw [ho] at hl'
            obtain ⟨x', hx', hob, _⟩ := hp.sat.obj n _ hn
            rw [hx] at hx'; cases hx'
            have hb : w.heap[x.b]? = some (.deferred (some [])) := hob
            have hlt : x.b < w.heap.size := (Array.getElem?_eq_some_iff.1 hb).1
            obtain ⟨z1, z2, z3⟩ := heap_set (o' := .deferred none) hlt
            obtain ⟨k1, k2⟩ := sat_kill hp.sat hn ho hx z2 z3 nx
            refine ⟨by simp, .inl ⟨x.b, _, rfl, take_run hb, ?_⟩⟩
            exact ih hd hl' hnb (hp.next k2 k1) (fun v h' nx' e ε' w' g1 g2 => hV v h' nx' e ε' w' (k2.trans g1) g2) (fun f' ds' h' nx' e ε' w' g1 g2 => hN f' ds' h' nx' e ε' w' (k2.trans g1) g2)
        | _ => exact absurd hl'.symm (hnb _)
    | call hx hd =>
      rename_i k args xs cs l
      have hl' : (match Tr.get (pa k) c.rcv with
        | none => .bad [74]
        | some t' => bif Nat.beq t t' then (match rcvP h args with
          | none => .bad [76]
          | some (n, o) => match setV c h n o [.bool false] with
            | none => .bad [75]
            | some h => leave c rec ds h nx) else .bad [77]) = out := hl
      cases hrc : Tr.get (pa k) c.rcv with
      | none => rw [hrc] at hl'; exact absurd hl'.symm (hnb _)
      | some t' =>
        rw [hrc] at hl'
        dsimp only at hl'
        cases htt : Nat.beq t t' with
        | false => rw [htt] at hl'; exact absurd hl'.symm (hnb _)
        | true =>
          have := Nat.eq_of_beq_eq_true htt
          subst this
          rw [htt] at hl'
          cases hrp : rcvP h args with
          | none => rw [hrp] at hl'; exact absurd hl'.symm (hnb _)
          | some no =>
            obtain ⟨n, o⟩ := no
            rw [hrp] at hl'
            dsimp only [cond_true] at hl'
            cases hsv : setV c h n o [.bool false] with
            | none => rw [hsv] at hl'; exact absurd hl'.symm (hnb _)
            | some h1 =>
              rw [hsv] at hl'
              dsimp only at hl'
              obtain ⟨x, b, hx', hys, hcell⟩ := rcv_cell hp.sat hrp hx
              obtain ⟨j1, _, j3⟩ := hF.rcv k t hrc _ b w hcell
              obtain ⟨w1, r1, r2, r3⟩ := setV_ok (P := P) hp.sat (ys := [.bool false]) rfl hx' hsv nx
              obtain ⟨hfz, hw1⟩ := store_one rfl rfl hcell r1
              have j3 := j3 hfz
              refine ⟨by simp, .inr ⟨by simp [Fence.wide], .func k, cs.toArray, k, #[.pointer (some ⟨x.b, x.q + o, none⟩)], rfl, ?_, fun _ _ => trivial, ?_⟩⟩
              · show (callFunc k (xs.toArray ++ cs.toArray)).run P w = _
                rw [List.append_toArray, hys]; exact j1
              · refine CallsDIn.mono j3 fun e u' w' q => ?_
                obtain ⟨⟨y, rfl⟩, rfl, hleft⟩ := q
                rw [← hw1] at hleft
                obtain ⟨g0, s0⟩ := hleft.goes r2 nx
                have r3 := r3.trans g0
                have r2 := s0
                rcases leave_val (c := c) (rec := rec) (ds := ds) (h := h1) (nx := nx) with ⟨v, h2, n2, e⟩ | ⟨wd, e⟩
                · exact leave_ok hF hS (hd.sub (Sub.refl _)) e (hp.next r3 r2) fun ε2 w2 g1 g2 => hV v h2 n2 (hl'.symm.trans e) ε2 w2 (r3.trans g1) g2
                · exact absurd (hl'.symm.trans e) (hnb wd)
/-! ### A call -/
theorem putA_get : ∀ (l : List SV) (k : Nat) (f : Tr SV) (t : Nat), Tr.get (pa t) (putA l k f) = if k ≤ t ∧ t < k + l.length then l[t - k]? else Tr.get (pa t) f
  | [], k, f, t => by rw [if_neg (by simp)]; rfl
  | v :: l, k, f, t => by
    show Tr.get (pa t) (putA l (k + 1) (Tr.set (some v) (pa k) f)) = _
    rw [putA_get l (k + 1) _ t]
    by_cases h : t = k
    · subst h
      rw [if_neg (by omega), if_pos (by simp), Tr.get_set_same]; simp
    · rw [Tr.get_set_ne _ _ _ _ (fun e => h (pa_inj e))]
      by_cases h2 : k ≤ t ∧ t < k + (v :: l).length
      · rw [if_pos h2, if_pos (by simp at h2; omega)]
        obtain ⟨d, rfl⟩ : ∃ d, t = k + 1 + d := ⟨t - (k + 1), by omega⟩
        rw [show k + 1 + d - (k + 1) = d by omega, show k + 1 + d - k = d + 1 by omega]; rfl
      · rw [if_neg h2, if_neg (by simp at h2 ⊢; omega)]
theorem denL_get {ε : Env} : ∀ {l : List SV} {x : List Value} {i : Nat} {v : SV}, denL ε l = some x → l[i]? = some v → ∃ y, den ε v = some y ∧ x[i]? = some y
  | l, x, i, v, h, h' => denL_nth h (by rw [nth_get]; exact h')
theorem frOk_args {ε : Env} {args : List SV} {vs : List Value} (h : denL ε args = some vs) (n : Nat) : FrOk ε (putA args 0 .e) (vs.toArray ++ Array.replicate n undef) := by
  intro t v hv
  rw [putA_get] at hv
  split at hv
  · obtain ⟨y, hy, hi⟩ := denL_get h (by simpa using hv)
    refine ⟨y, hy, ?_⟩
    have hlt : t < vs.length := (List.getElem?_eq_some_iff.1 hi).1
    rw [Array.getElem?_append_left (by simpa using hlt)]
    simpa using hi
  · rw [Tr.get_e] at hv; cases hv
/-- What the calls that were proved before come to. -/
def MemoOk (P : Program) (c : Cx) (B : Nat) (w0 : World) : Prop := ∀ k m, Tr.get (pa k) c.memo = some m → ∀ as v, m as = some v → ∀ ε w vs, Base B w0 w → denL ε as = some vs →
  ∃ y, (∀ ε, den ε v = some y) ∧ CallsIn Fence.wide 0 P k vs.toArray w fun e w' => e = .returned y ∧ Io w w' ∧ w.heap.size ≤ w'.heap.size ∧ ∀ b, b < w.heap.size → w'.heap[b]? = w.heap[b]?
theorem compF_inv {k : Nat} {F : Func} {fn : IFn} (h : compF c k F = some fn) : ∃ body r, F.body = some body ∧ mapO (compRV c) F.results.toList = some r ∧ fn.id = k ∧ fn.code = compC c F.ntmps body ∧ fn.res = r := by
  unfold compF at h
  obtain ⟨b, hb, h⟩ := Option.bind_eq_some_iff.1 h
  obtain ⟨r, hr, h⟩ := Option.bind_eq_some_iff.1 h
  cases h
  exact ⟨b, r, hb, hr, rfl, rfl, rfl⟩
theorem xLeave_ok (hP : POk P c) (hF : FOk P c) {rec : Job → Out} (hS : Sound P c B w0 rec) {fn : IFn} {F : Func} (hr : mapO (compRV c) F.results.toList = some fn.res) {ε ε1 : Env} {h h1 : Tr SO} {nx n1 : Nat} {w w1 : World} (hp : Pre c B w0 ε h nx w) (g1 : Goes c ε h nx w ε1 h1 n1 w1) (s1 : Sat c B ε1 h1 w1) {f : Tr SV} {ds : List Df} {a : Act} (hf : FrOk ε1 f a.tmps) (hd : DfOk ε1 ds a.defers) (hnb : ∀ wd, xLeave c rec fn f ds h1 n1 ≠ .bad wd) :
    LeavesInM Fence.wide 0 P F a.tmps (CallQ c B ε h nx w (xLeave c rec fn f ds h1 n1)) a.defers .returning w1 := by
  unfold xLeave at hnb ⊢
  cases hl : leave c rec ds h1 n1 with
  | val v0 h2 n2 =>
    rw [hl] at hnb
    dsimp only at hnb ⊢
    refine leave_ok hF hS hd hl (hp.next g1 s1) fun ε2 w2 g2 s2 => ?_
    cases hv : resAll h2 f fn.res with
    | none => rw [hv] at hnb; exact absurd rfl (hnb [23])
    | some v =>
      obtain ⟨y, hy, hrun⟩ := results_ok (P := P) hP s2 (hf.sub (g2.sub ((hp.next g1 s1).fresh.fresh _))) hr hv
      exact ⟨y, hrun, .inl ⟨v, h2, n2, ε2, y, rfl, rfl, hy, g1.trans g2, s2⟩⟩
  | bad wd => rw [hl] at hnb; exact absurd rfl (hnb wd)
  | _ => rw [hl] at hnb; exact absurd rfl (hnb [24])
theorem xBody_ok (hP : POk P c) (hF : FOk P c) {rec : Job → Out} (hS : Sound P c B w0 rec) {k : Nat} {fn : IFn} {F : Func} (hfn : P.funcs[k]? = some F) (hc : compF c k F = some fn) {args : List SV} {vs : List Value} {ε : Env} {h : Tr SO} {nx : Nat} {w : World} (hp : Pre c B w0 ε h nx w) (ha : denL ε args = some vs) (hnb : ∀ wd, xBody c rec fn args h nx ≠ .bad wd) :
    CallsIn Fence.wide 0 P k vs.toArray w (CallQ c B ε h nx w (xBody c rec fn args h nx)) := by
  obtain ⟨body, r, hb, hr, hid, hcode, hres⟩ := compF_inv hc
  refine callsIn_of_wp_marks hfn hb trivial ?_
  unfold xBody at hnb ⊢
  rw [hcode] at hnb ⊢
  have hf := frOk_args ha (F.ntmps - vs.toArray.size)
  cases ho : rec (.code none (compC c F.ntmps body) (putA args 0 .e) [] h nx) with
  | bad wd => rw [ho] at hnb; exact absurd rfl (hnb _)
  | go f ds h1 n1 =>
    rw [ho] at hnb
    refine wpIn_mono (use_code (a := { tmps := vs.toArray ++ Array.replicate (F.ntmps - vs.toArray.size) undef, defers := [] }) hS ho (by simp) rfl hp hf (by simp; omega) .nil).wpIn fun ex a1 w1 q => ?_
    obtain ⟨f', ds', h', nx', ε', q1, q2, q3, q4, q5, q6⟩ := q
    cases q1
    exact xLeave_ok hP hF hS (by rw [hres]; exact hr) hp q5 q6 q2 q4 hnb
  | ret f ds h1 n1 =>
    rw [ho] at hnb
    refine wpIn_mono (use_code (a := { tmps := vs.toArray ++ Array.replicate (F.ntmps - vs.toArray.size) undef, defers := [] }) hS ho (by simp) rfl hp hf (by simp; omega) .nil).wpIn fun ex a1 w1 q => ?_
    obtain ⟨f', ds', h', nx', ε', q1, q2, q3, q4, q5, q6⟩ := q
    cases q1
    exact xLeave_ok hP hF hS (by rw [hres]; exact hr) hp q5 q6 q2 q4 hnb
  | pan t f ds h1 n1 =>
    rw [ho] at hnb
    dsimp only at hnb ⊢
    refine wpIn_mono (use_code (a := { tmps := vs.toArray ++ Array.replicate (F.ntmps - vs.toArray.size) undef, defers := [] }) hS ho (by simp) rfl hp hf (by simp; omega) .nil).wpIn fun ex a1 w1 q => ?_
    obtain ⟨f', ds', h', nx', ε', q1, q2, q3, q4, q5, q6⟩ := q
    cases q1
    show LeavesInM Fence.wide 0 P F a1.tmps _ a1.defers (.panicking [{ v := .iface t (.agg #[]), recovered := false }]) w1
    have hp1 := hp.next q5 q6
    cases hpl : pleave c rec t ds h1 n1 with
    | bad wd => rw [hpl] at hnb; exact absurd rfl (hnb _)
    | val v0 h2 n2 =>
      rw [hpl] at hnb
      dsimp only at hnb ⊢
      refine pleave_ok hF hS q4 hpl (by simp) hp1 (fun v h' nx' e ε2 w2 g2 s2 => ?_) (fun _ _ _ _ e => by cases e)
      cases e
      cases hv : resAll h2 f fn.res with
      | none => rw [hv] at hnb; exact absurd rfl (hnb [23])
      | some v =>
        obtain ⟨y, hy, hrun⟩ := results_ok (P := P) hP s2 (q2.sub (g2.sub (hp1.fresh.fresh _))) (by rw [hres]; exact hr) hv
        exact ⟨y, hrun, .inl ⟨v, h2, n2, ε2, y, rfl, rfl, hy, q5.trans g2, s2⟩⟩
    | pan t2 f2 ds2 h2 n2 =>
      refine pleave_ok hF hS q4 hpl (by simp) hp1 (fun v h' nx' e => by cases e) (fun f' ds' h' nx' e ε2 w2 g2 s2 => ?_)
      cases e
      exact .inr ⟨t, .e, [], h2, n2, ε2, rfl, rfl, q5.trans g2, s2⟩
    | _ => rw [hpl] at hnb; exact absurd rfl (hnb [78])
  | _ => rw [ho] at hnb; exact absurd rfl (hnb [25])
theorem callFunc_enter {k : Nat} {F : Func} {body : Code} (hf : P.funcs[k]? = some F) (hn : (F.name == "runtime.NumGoroutine") = false) (hb : F.body = some body) (vs : Array Value) (w : World) : (callFunc k vs).run P w = .ok (.enter k vs) w := by
  unfold callFunc
  simp only [Sem.run_bind, run_program, Result.andThen_ok, hf, hn, hb]
  rfl
theorem call_ok (hP : POk P c) (hF : FOk P c) (hM : MemoOk P c B w0) {rec : Job → Out} (hS : Sound P c B w0 rec) {k : Nat} {args : List SV} {h : Tr SO} {nx : Nat} (hnb : ∀ wd, xCall c rec k args h nx ≠ .bad wd) {ε : Env} {w : World} {vs : List Value} (hp : Pre c B w0 ε h nx w) (ha : denL ε args = some vs) :
    (Tr.get (pa k) c.fn = none ∧ ∃ v h' nx' ε' y w', xCall c rec k args h nx = .val v h' nx' ∧ den ε' v = some y ∧ (callFunc k vs.toArray).run P w = .ok (.value y) w' ∧ Goes c ε h nx w ε' h' nx' w' ∧ Sat c B ε' h' w') ∨
      ((∃ fn, Tr.get (pa k) c.fn = some fn) ∧ (callFunc k vs.toArray).run P w = .ok (.enter k vs.toArray) w ∧ CallsIn Fence.wide 0 P k vs.toArray w (CallQ c B ε h nx w (xCall c rec k args h nx))) := by
  unfold xCall at hnb ⊢
  cases hk : Tr.get (pa k) c.fn with
  | none =>
    rw [hk] at hnb
    dsimp only at hnb ⊢
    refine .inl ⟨rfl, ?_⟩
    cases hx : Tr.get (pa k) c.ext with
    | none => rw [hx] at hnb; exact absurd rfl (hnb [26, k])
    | some x =>
      rw [hx] at hnb
      dsimp only at hnb ⊢
      cases hv : extV x args h nx with
      | none => rw [hv] at hnb; exact absurd rfl (hnb [27, k])
      | some q =>
        obtain ⟨v, h', nx'⟩ := q
        obtain ⟨ε', y, w', hy, hr, hg, hs⟩ := hF.ext k x hk hx B ε args vs h nx v h' nx' w hp.sat hp.base.size hp.fresh ha hv
        exact ⟨v, h', nx', ε', y, w', rfl, hy, hr, hg, hs⟩
  | some fn =>
    rw [hk] at hnb
    dsimp only at hnb ⊢
    obtain ⟨F, hf, hn, hc⟩ := hF.fn k fn hk
    obtain ⟨body, r, hb, hr, hid, hcode, hres⟩ := compF_inv hc
    refine .inr ⟨⟨fn, rfl⟩, callFunc_enter hf hn hb _ w, ?_⟩
    cases hm : Tr.get (pa k) c.memo with
    | none => rw [hm] at hnb; exact xBody_ok hP hF hS hf hc hp ha hnb
    | some l =>
      rw [hm] at hnb
      dsimp only at hnb ⊢
      cases hv : l args with
      | none => rw [hv] at hnb; exact xBody_ok hP hF hS hf hc hp ha hnb
      | some v =>
        obtain ⟨y, hy, hcall⟩ := hM k l hm args v hv ε w vs hp.base ha
        refine CallsIn.mono hcall fun e w' q => ?_
        obtain ⟨q1, qi, q2, q3⟩ := q
        refine .inl ⟨v, h, nx, ε, y, rfl, q1, hy ε, ⟨Nat.le_refl _, fun _ _ => rfl, qi, q2, fun b hb _ => q3 b hb, fun n o hn => .inl ⟨o, hn, rfl⟩⟩, ?_, hp.sat.sep⟩
        intro n o hn
        obtain ⟨x, hx, hob, hB⟩ := hp.sat.obj n o hn
        exact ⟨x, hx, hob.keep (Sub.refl ε) (q3 _ hob.lt), hB⟩
/-- A deferred call. -/
theorem dcall_ok (hP : POk P c) (hF : FOk P c) {rec : Job → Out} (hS : Sound P c B w0 rec) {k : Nat} {args : List SV} {h : Tr SO} {nx : Nat} (hnb : ∀ wd, xDcall c rec k args h nx ≠ .bad wd) {ε : Env} {w : World} {vs : List Value} (hp : Pre c B w0 ε h nx w) (ha : denL ε args = some vs) :
    (callFunc k vs.toArray).run P w = .ok (.enter k vs.toArray) w ∧ CallsDIn Fence.wide 0 P k vs.toArray .returning w fun e u w' => u = .returning ∧ CallQ c B ε h nx w (xDcall c rec k args h nx) e w' := by
  unfold xDcall at hnb ⊢
  cases hk : Tr.get (pa k) c.fn with
  | none => rw [hk] at hnb; exact absurd rfl (hnb [70])
  | some fn =>
    rw [hk] at hnb
    dsimp only at hnb ⊢
    obtain ⟨F, hf, hn, hc⟩ := hF.fn k fn hk
    obtain ⟨body, r, hb, hr, hid, hcode, hres⟩ := compF_inv hc
    refine ⟨callFunc_enter hf hn hb _ w, callsDIn_of_wp hf hb trivial ?_⟩
    rw [hcode] at hnb ⊢
    have hfr := frOk_args ha (F.ntmps - vs.toArray.size)
    have fin : ∀ {f1 : Tr SV} {ds1 : List Df} {h1 : Tr SO} {n1 : Nat} {ε1 : Env} {a1 : Act} {w1 : World}, FrOk ε1 f1 a1.tmps → DfOk ε1 ds1 a1.defers → Goes c ε h nx w ε1 h1 n1 w1 → Sat c B ε1 h1 w1 → (∀ wd, xDLeave fn f1 ds1 h1 n1 ≠ .bad wd) →
        a1.defers = [] ∧ ∃ v, (results F a1.tmps).run P w1 = .ok v w1 ∧ CallQ c B ε h nx w (xDLeave fn f1 ds1 h1 n1) (.returned v) w1 := by
      intro f1 ds1 h1 n1 ε1 a1 w1 q2 q4 q5 q6 hb'
      cases ds1 with
      | cons _ _ => exact absurd rfl (hb' [72])
      | nil =>
        have hd0 : a1.defers = [] := by
          cases hh : a1.defers with
          | nil => rfl
          | cons _ _ => rw [hh] at q4; cases q4
        refine ⟨hd0, ?_⟩
        unfold xDLeave at hb' ⊢
        dsimp only at hb' ⊢
        cases hv : resAll h1 f1 fn.res with
        | none => rw [hv] at hb'; exact absurd rfl (hb' [23])
        | some v =>
          obtain ⟨y, hy, hrun⟩ := results_ok (P := P) hP q6 q2 (by rw [hres]; exact hr) hv
          exact ⟨y, hrun, .inl ⟨v, h1, n1, ε1, y, rfl, rfl, hy, q5, q6⟩⟩
    cases ho : rec (.code none (compC c F.ntmps body) (putA args 0 .e) [] h nx) with
    | bad wd => rw [ho] at hnb; exact absurd rfl (hnb _)
    | go f ds h1 n1 =>
      rw [ho] at hnb
      refine wpIn_mono (use_code (a := { tmps := vs.toArray ++ Array.replicate (F.ntmps - vs.toArray.size) undef, defers := [] }) hS ho (by simp) rfl hp hfr (by simp; omega) .nil).wpIn fun ex a1 w1 q => ?_
      obtain ⟨f', ds', h', nx', ε', q1, q2, q3, q4, q5, q6⟩ := q
      cases q1
      exact fin q2 q4 q5 q6 hnb
    | ret f ds h1 n1 =>
      rw [ho] at hnb
      refine wpIn_mono (use_code (a := { tmps := vs.toArray ++ Array.replicate (F.ntmps - vs.toArray.size) undef, defers := [] }) hS ho (by simp) rfl hp hfr (by simp; omega) .nil).wpIn fun ex a1 w1 q => ?_
      obtain ⟨f', ds', h', nx', ε', q1, q2, q3, q4, q5, q6⟩ := q
      cases q1
      exact fin q2 q4 q5 q6 hnb
    | _ => rw [ho] at hnb; exact absurd rfl (hnb [71])
end
end Go.Proofs.YtohikcchbjchkaaGreatDoor.Sx

/- The executor is sound: rounds, ranges over functions. -/
namespace Go.Proofs.YtohikcchbjchkaaGreatDoor.Sx
open Go
section
variable {P : Program} {c : Cx} {B : Nat} {w0 : World}
theorem put_tmps {ε : Env} {sz : Nat} : ∀ {ps : List Nat} {args : List SV} {tm f : Tr SV} {vs : List Value} {tmps : Array Value}, putPs sz ps args tm = some f → denL ε args = some vs → FrOk ε tm tmps → sz ≤ tmps.size →
    ps.length = vs.length ∧ FrOk ε f ((ps.zip vs).foldl (fun tmps x => tmps.setIfInBounds x.1 x.2) tmps) ∧ sz ≤ ((ps.zip vs).foldl (fun tmps x => tmps.setIfInBounds x.1 x.2) tmps).size
  | [], [], tm, f, vs, tmps, h, hd, hf, hsz => by
    cases h; cases hd
    exact ⟨rfl, hf, hsz⟩
  | [], _ :: _, _, _, _, _, h, _, _, _ => by cases h
  | _ :: _, [], _, _, _, _, h, _, _, _ => by cases h
  | p :: ps, v :: args, tm, f, vs, tmps, h, hd, hf, hsz => by
    obtain ⟨y, z, hy, hz, rfl⟩ := denL_cons hd
    obtain ⟨hlt, h⟩ := bif_t (show (bif Nat.blt p sz then putPs sz ps args (Tr.set (some v) (pa p) tm) else none) = some f from h)
    have hlt2 : p < sz := Nat.blt_eq.mp hlt
    have hf2 : FrOk ε (Tr.set (some v) (pa p) tm) (tmps.setIfInBounds p y) := by
      intro t u hu
      by_cases e : t = p
      · subst e
        rw [Tr.get_set_same] at hu; cases hu
        exact ⟨y, hy, by rw [Array.getElem?_setIfInBounds_self_of_lt (Nat.lt_of_lt_of_le hlt2 hsz)]⟩
      · rw [Tr.get_set_ne _ _ _ _ (fun h => e (pa_inj h))] at hu
        obtain ⟨x, hx, ha⟩ := hf t u hu
        exact ⟨x, hx, by rw [Array.getElem?_setIfInBounds_ne (Ne.symm e)]; exact ha⟩
    obtain ⟨e1, e2, e3⟩ := put_tmps h hz hf2 (by simpa using hsz)
    exact ⟨by simp [e1], e2, e3⟩
theorem loopObj {ε : Env} {h : Tr SO} {w : World} (hs : Sat c B ε h w) {l : Pa} {st : LoopState} {p : Option Code} {tm : Tr SV} {sz : Nat} {ps : List Nat} {asg body : Code} {d : Pa} (hn : Tr.get l h = some (.loop st p tm sz ps asg body d)) {x : Blk} (hx : ε l = some x) :
    ∃ fn tmps xd, w.heap[x.b]? = some (.loop ⟨st, p, fn, tmps, ps.toArray, asg, body, xd⟩) ∧ FrOk ε tm tmps ∧ sz ≤ tmps.size ∧ ∃ y, ε d = some y ∧ y.b = xd := by
  obtain ⟨x', hx', ho, _⟩ := hs.obj l _ hn
  rw [hx] at hx'; cases hx'
  exact ho
/-- A loop's record turned. -/
theorem loop_upd {ε : Env} {h : Tr SO} {nx : Nat} {w : World} (hp : Pre c B w0 ε h nx w) {l : Pa} {st st' : LoopState} {p p' : Option Code} {tm : Tr SV} {sz : Nat} {ps : List Nat} {asg body : Code} {d : Pa} (hn : Tr.get l h = some (.loop st p tm sz ps asg body d)) (ho : ownP c l = true) {x : Blk} (hx : ε l = some x) {fn : FuncId} {tmps : Array Value} {xd : Nat}
    (hw : w.heap[x.b]? = some (.loop ⟨st, p, fn, tmps, ps.toArray, asg, body, xd⟩)) (hf : FrOk ε tm tmps) (hsz : sz ≤ tmps.size) (hd : ∃ y, ε d = some y ∧ y.b = xd) :
    Sat c B ε (Tr.set (some (.loop st' p' tm sz ps asg body d)) l h) { w with heap := w.heap.setIfInBounds x.b (.loop ⟨st', p', fn, tmps, ps.toArray, asg, body, xd⟩) } ∧
      Goes c ε h nx w ε (Tr.set (some (.loop st' p' tm sz ps asg body d)) l h) nx { w with heap := w.heap.setIfInBounds x.b (.loop ⟨st', p', fn, tmps, ps.toArray, asg, body, xd⟩) } := by
  have hlt : x.b < w.heap.size := (Array.getElem?_eq_some_iff.1 hw).1
  obtain ⟨z1, z2, z3⟩ := heap_set (o' := .loop ⟨st', p', fn, tmps, ps.toArray, asg, body, xd⟩) hlt
  exact sat_upd (o' := .loop st' p' tm sz ps asg body d) hp.sat hn ho hx z2 z3 ⟨fn, tmps, xd, z1, hf, hsz, hd⟩ nx
theorem xEnd_ok {ε : Env} {h : Tr SO} {nx : Nat} {w : World} (hp : Pre c B w0 ε h nx w) {l : Pa} (ho : ownP c l = true) {x : Blk} (hx : ε l = some x) {j : Option Code} (hnb : ∀ wd, xEnd l h nx j ≠ .bad wd) :
    ∃ v w', (Instr.endRound x.b j).run P w = .ok v w' ∧ CallQ c B ε h nx w (xEnd l h nx j) (.returned v) w' := by
  unfold xEnd at hnb ⊢
  cases hn : Tr.get l h with
  | none => rw [hn] at hnb; exact absurd rfl (hnb [31])
  | some o =>
    rw [hn] at hnb
    cases o with
    | loop st p tm sz ps asg body d =>
      obtain ⟨fn, tmps, xd, h1, h2, h3, h4⟩ := loopObj hp.sat hn hx
      obtain ⟨u1, u2⟩ := loop_upd (st' := endSt j) (p' := j) hp hn ho hx h1 h2 h3 h4
      refine ⟨.bool j.isNone, _, ?_, .inl ⟨_, _, _, ε, .bool j.isNone, rfl, rfl, ?_, u2, u1⟩⟩
      · unfold Instr.endRound Instr.getLoop
        cases j <;> simp [run_getObj (P := P) h1 (by simp), run_setObj' (P := P) h1 (by simp), endSt]
      · cases j <;> rfl
    | _ => exact absurd rfl (hnb [31])
theorem xRound2_ok (hP : POk P c) {rec : Job → Out} (hS : Sound P c B w0 rec) {l : Pa} (ho : ownP c l = true) {sz : Nat} {body : Code} {f : Tr SV} {ds : List Df} {ε0 ε : Env} {h0 h : Tr SO} {n0 nx : Nat} {w00 w : World} {a : Act} (g0 : Goes c ε0 h0 n0 w00 ε h nx w) (hp : Pre c B w0 ε h nx w) {x : Blk} (hx : ε l = some x) (hf : FrOk ε f a.tmps) (hsz : sz ≤ a.tmps.size) (hd : DfOk ε ds a.defers)
    (hnb : ∀ wd, xRound2 c rec l sz body f ds h nx ≠ .bad wd) :
    ∃ w₂, (Instr.beginRound x.b).run P w = .ok () w₂ ∧ body.wpIn (Fence.wide.inRound x.b) 0 P (roundPost P x.b (CallQ c B ε0 h0 n0 w00 (xRound2 c rec l sz body f ds h nx))) a w₂ := by
  unfold xRound2 at hnb ⊢
  cases hn : Tr.get l h with
  | none => rw [hn] at hnb; exact absurd rfl (hnb [30])
  | some o =>
    rw [hn] at hnb
    cases o with
    | loop st p tm sz' ps asg bd d =>
      cases st with
      | ready =>
        dsimp only at hnb ⊢
        obtain ⟨fn, tmps, xd, h1, h2, h3, h4⟩ := loopObj hp.sat hn hx
        obtain ⟨u1, u2⟩ := loop_upd (st' := .busy) (p' := p) hp hn ho hx h1 h2 h3 h4
        refine ⟨_, by unfold Instr.beginRound Instr.getLoop; simp [run_getObj (P := P) h1 (by simp), run_setObj' (P := P) h1 (by simp)]; rfl, ?_⟩
        have hp2 := hp.next u2 u1
        have after : ∀ {o2 : Out} {j : Option Code} {ε2 : Env} {h2 : Tr SO} {n2 : Nat} {w3 : World}, (∀ wd, xEnd l h2 n2 j ≠ .bad wd) → Goes c ε (Tr.set (some (.loop .busy p tm sz' ps asg bd d)) l h) nx { w with heap := w.heap.setIfInBounds x.b (.loop ⟨.busy, p, fn, tmps, ps.toArray, asg, bd, xd⟩) } ε2 h2 n2 w3 → Sat c B ε2 h2 w3 →
            ∃ v w', (Instr.endRound x.b j).run P w3 = .ok v w' ∧ CallQ c B ε0 h0 n0 w00 (xEnd l h2 n2 j) (.returned v) w' := by
          intro o2 j ε2 h2 n2 w3 hnb2 q5 q6
          have hx2 : ε2 l = some x := q5.sub (hp2.fresh.fresh _) _ _ hx
          obtain ⟨v, w', e1, hq⟩ := xEnd_ok (P := P) (hp2.next q5 q6) ho hx2 hnb2
          rcases hq with ⟨v', h', nx', ε', y, e2, e3, e4, e5, e6⟩ | ⟨_, _, _, _, _, _, _, e3, _⟩
          case inr => cases e3
          exact ⟨v, w', e1, .inl ⟨v', h', nx', ε', y, e2, e3, e4, g0.trans (u2.trans (q5.trans e5)), e6⟩⟩
        cases hr : rec (.code (some l) (compC c sz body) f ds (Tr.set (some (.loop .busy p tm sz' ps asg bd d)) l h) nx) with
        | bad wd => rw [hr] at hnb; exact absurd rfl (hnb wd)
        | val _ _ _ => rw [hr] at hnb; exact absurd rfl (hnb [28])
        | pan _ _ _ _ _ => rw [hr] at hnb; exact absurd rfl (hnb [28])
        | go f2 ds2 h2 n2 =>
          rw [hr] at hnb
          refine wpIn_mono (use_code hS hr (by simp) ⟨x, hx, rfl⟩ hp2 hf hsz hd).wpIn fun ex a1 w1 q => ?_
          obtain ⟨f', ds', h', nx', ε', q1, q2, q3, q4, q5, q6⟩ := q
          cases q1
          exact after (o2 := .bad []) hnb q5 q6
        | ret f2 ds2 h2 n2 =>
          rw [hr] at hnb
          refine wpIn_mono (use_code hS hr (by simp) ⟨x, hx, rfl⟩ hp2 hf hsz hd).wpIn fun ex a1 w1 q => ?_
          obtain ⟨f', ds', h', nx', ε', q1, q2, q3, q4, q5, q6⟩ := q
          cases q1
          exact after (o2 := .bad []) hnb q5 q6
        | exit i f2 ds2 h2 n2 =>
          rw [hr] at hnb
          refine wpIn_mono (use_code hS hr (by simp) ⟨x, hx, rfl⟩ hp2 hf hsz hd).wpIn fun ex a1 w1 q => ?_
          obtain ⟨f', ds', h', nx', ε', q1, q2, q3, q4, q5, q6⟩ := q
          cases q1
          exact after (o2 := .bad []) hnb q5 q6
        | goto i f2 ds2 h2 n2 =>
          rw [hr] at hnb
          refine wpIn_mono (use_code hS hr (by simp) ⟨x, hx, rfl⟩ hp2 hf hsz hd).wpIn fun ex a1 w1 q => ?_
          obtain ⟨f', ds', h', nx', ε', q1, q2, q3, q4, q5, q6⟩ := q
          cases q1
          exact after (o2 := .bad []) hnb q5 q6
      | _ => exact absurd rfl (hnb [29])
    | _ => exact absurd rfl (hnb [30])
theorem round_ok (hP : POk P c) {rec : Job → Out} (hS : Sound P c B w0 rec) {l : Pa} {args : List SV} {h : Tr SO} {nx : Nat} (hnb : ∀ wd, xRound c rec l args h nx ≠ .bad wd) {ε : Env} {w : World} {vs : List Value} {x : Blk} (hp : Pre c B w0 ε h nx w) (ha : denL ε args = some vs) (hx : ε l = some x) :
    ∃ fn tmps asg body, (Instr.yield x.b vs.toArray).run P w = .ok (.round x.b fn tmps asg body) w ∧ ∀ F, Free F → RoundIn F 0 P x.b fn tmps asg body w (CallQ c B ε h nx w (xRound c rec l args h nx)) := by
  unfold xRound at hnb ⊢
  cases hn : Tr.get l h with
  | none => rw [hn] at hnb; exact absurd rfl (hnb [34])
  | some o =>
    rw [hn] at hnb
    cases o with
    | loop st p tm sz ps asg body d =>
      dsimp only at hnb ⊢
      cases ho : ownP c l with
      | false => rw [ho] at hnb; exact absurd rfl (hnb [62])
      | true =>
        rw [ho] at hnb
        simp only [cond_true] at hnb ⊢
        cases hps : putPs sz ps args tm with
        | none => rw [hps] at hnb; exact absurd rfl (hnb [32])
        | some f =>
          rw [hps] at hnb
          dsimp only at hnb ⊢
          obtain ⟨fn, tmps, xd, h1, h2, h3, h4⟩ := loopObj hp.sat hn hx
          obtain ⟨t1, t2, t3⟩ := put_tmps hps ha h2 h3
          refine ⟨fn, (ps.zip vs).foldl (fun tmps x => tmps.setIfInBounds x.1 x.2) tmps, asg, body, ?_, fun F hF => ?_⟩
          · unfold Instr.yield Instr.getLoop
            simp [run_getObj (P := P) h1 (by simp), t1]
          · refine roundIn_of_wpIn (hF.fn _) ?_
            rw [hF.inRound]
            cases hr : rec (.code (some l) (compC c sz asg) f [] h nx) with
            | bad wd => rw [hr] at hnb; exact absurd rfl (hnb wd)
            | go f1 ds1 h1' n1 =>
              rw [hr] at hnb
              refine wpIn_mono (use_code (a := { tmps := (ps.zip vs).foldl (fun tmps x => tmps.setIfInBounds x.1 x.2) tmps, defers := [] }) hS hr (by simp) ⟨x, hx, rfl⟩ hp t2 t3 .nil).wpIn fun ex a1 w1 q => ?_
              obtain ⟨f', ds', h', nx', ε', q1, q2, q3, q4, q5, q6⟩ := q
              cases q1
              exact xRound2_ok hP hS ho q5 (hp.next q5 q6) (q5.sub (hp.fresh.fresh _) _ _ hx) q2 q3 q4 hnb
            | _ => rw [hr] at hnb; exact absurd rfl (hnb [33])
    | _ => exact absurd rfl (hnb [34])
/-- Behind the function that was ranged over. -/
theorem fin_ok {F : Fence} {ε0 ε : Env} {h0 h : Tr SO} {n0 nx : Nat} {w00 w : World} {sz : Nat} {a : Act} {f : Tr SV} {ds : List Df} {l : Pa} {x : Blk} (g0 : Goes c ε0 h0 n0 w00 ε h nx w) (hp : Pre c B w0 ε h nx w) (hx : ε l = some x) (hf : FrOk ε f a.tmps) (hsz : sz ≤ a.tmps.size) (hd : DfOk ε ds a.defers) (hnb : ∀ wd, fin c l f ds h nx ≠ .bad wd) :
    ∃ jump w₄, (Instr.endLoop x.b).run P w = .ok jump w₄ ∧
      (match jump with
       | none => CodeQ c B ε0 h0 n0 w00 sz (fin c l f ds h nx) .normal a w₄
       | some cd => cd.wpIn F 0 P (CodeQ c B ε0 h0 n0 w00 sz (fin c l f ds h nx)) a w₄) := by
  unfold fin at hnb ⊢
  cases hn : Tr.get l h with
  | none => rw [hn] at hnb; exact absurd rfl (hnb [22])
  | some o =>
    rw [hn] at hnb
    cases o with
    | loop st p tm sz' ps asg bd d =>
      dsimp only at hnb ⊢
      cases ho : ownP c l with
      | false => rw [ho] at hnb; exact absurd rfl (hnb [61])
      | true =>
        rw [ho] at hnb
        simp only [cond_true] at hnb ⊢
        obtain ⟨fn, tmps, xd, h1, h2, h3, h4⟩ := loopObj hp.sat hn hx
        have hlt : x.b < w.heap.size := (Array.getElem?_eq_some_iff.1 h1).1
        obtain ⟨z1, z2, z3⟩ := heap_set (o' := .loop ⟨.exhausted, p, fn, tmps, ps.toArray, asg, bd, xd⟩) hlt
        obtain ⟨k1, k2⟩ := sat_kill hp.sat hn ho hx z2 z3 nx
        have hrun : st ≠ .busy → (Instr.endLoop x.b).run P w = .ok p { w with heap := w.heap.setIfInBounds x.b (.loop ⟨.exhausted, p, fn, tmps, ps.toArray, asg, bd, xd⟩) } := by
          intro hst
          unfold Instr.endLoop Instr.getLoop
          simp [run_getObj (P := P) h1 (by simp), run_setObj' (P := P) h1 (by simp), hst]
        have at0 : ∀ {out e}, OutIs out e f ds (Tr.set none l h) nx → CodeQ c B ε0 h0 n0 w00 sz out e a { w with heap := w.heap.setIfInBounds x.b (.loop ⟨.exhausted, p, fn, tmps, ps.toArray, asg, bd, xd⟩) } := fun hq => ⟨f, ds, _, nx, ε, hq, hf, hsz, hd, g0.trans k2, k1⟩
        have main : (∀ wd, jmpOut p f ds (Tr.set none l h) nx ≠ .bad wd) → st ≠ .busy →
            ∃ jump w₄, (Instr.endLoop x.b).run P w = .ok jump w₄ ∧
            (match jump with
             | none => CodeQ c B ε0 h0 n0 w00 sz (jmpOut p f ds (Tr.set none l h) nx) .normal a w₄
             | some cd => cd.wpIn F 0 P (CodeQ c B ε0 h0 n0 w00 sz (jmpOut p f ds (Tr.set none l h) nx)) a w₄) := by
          intro hnb2 hst
          refine ⟨p, _, hrun hst, ?_⟩
          clear hnb hn h1 hrun k1 k2 z1 z2 z3
          cases p with
          | none => exact at0 .go
          | some cd =>
            cases cd with
            | ret => exact wpIn_ret (at0 .ret)
            | exit i => exact wpIn_exit (at0 .exit)
            | goto i => exact wpIn_goto (at0 .goto)
            | _ => exact absurd rfl (hnb2 [21])
        cases st with
        | busy => exact absurd rfl (hnb [20])
        | ready => exact main hnb (by simp)
        | done => exact main hnb (by simp)
        | exhausted => exact main hnb (by simp)
    | _ => exact absurd rfl (hnb [22])
end
end Go.Proofs.YtohikcchbjchkaaGreatDoor.Sx

/- The executor is sound: the statement that ranges over a function. -/
namespace Go.Proofs.YtohikcchbjchkaaGreatDoor.Sx
open Go
section
variable {P : Program} {c : Cx} {B : Nat} {w0 : World}
theorem den_yld {ε : Env} {l : Pa} {x : Blk} (h : ε l = some x) : den ε (.yld l) = some (.func (.yield x.b) #[] #[]) := by
  unfold den; rw [h]; rfl
/-- One object more, at the end of the heap. -/
theorem obj_new {ε : Env} {h : Tr SO} {nx : Nat} {w : World} (hp : Pre c B w0 ε h nx w) (ob : Obj) {o : SO} (hob : ObjOk (put ε (pa nx) ⟨w.heap.size, 0, 0⟩) { w with heap := w.heap.push ob } ⟨w.heap.size, 0, 0⟩ o) :
    Pre c B w0 (put ε (pa nx) ⟨w.heap.size, 0, 0⟩) (Tr.set (some o) (pa nx) h) (nx + 1) { w with heap := w.heap.push ob } ∧ Goes c ε h nx w (put ε (pa nx) ⟨w.heap.size, 0, 0⟩) (Tr.set (some o) (pa nx) h) (nx + 1) { w with heap := w.heap.push ob } := by
  obtain ⟨g1, g2⟩ := sat_new (K := 0) hp.sat hp.base.size (hp.fresh nx (Nat.le_refl _)) (Push.of (o := ob) rfl) hob
  exact ⟨hp.next g2 g1, g2⟩
theorem rf_ok (hP : POk P c) {rec : Job → Out} (hS : Sound P c B w0 rec) {g : Operand} {ps : Array Tmp} {asg body : Code} {G : Opd} {gv : SV} {sz : Nat} {ro : Option Pa} {ε : Env} {f : Tr SV} {ds : List Df} {h : Tr SO} {nx : Nat} {w : World} {a : Act} {F : Fence} (hG : opdT c.ng g = some G) (hgv : opv f G = some gv) (hnb : ∀ wd, xRf c rec ro gv sz ps.toList asg body f ds h nx ≠ .bad wd)
    (hro : RoOk ε ro F) (hp : Pre c B w0 ε h nx w) (hf : FrOk ε f a.tmps) (hsz : sz ≤ a.tmps.size) (hd : DfOk ε ds a.defers) : (Code.rangeFunc g ps asg body).wpIn F 0 P (CodeQ c B ε h nx w sz (xRf c rec ro gv sz ps.toList asg body f ds h nx)) a w := by
  obtain ⟨y, hy, hye⟩ := opd_ok hf hp.env hG hgv
  cases gv with
  | fn k first cap =>
    unfold xRf at hnb ⊢
    dsimp only at hnb ⊢
    cases hk : Tr.get (pa k) c.fn with
    | none => rw [hk] at hnb; exact absurd rfl (hnb [63])
    | some kf =>
      rw [hk] at hnb
      rw [obd_some] at hnb ⊢
      unfold den at hy
      obtain ⟨p, hp1, hy1⟩ := Option.bind_eq_some_iff.1 hy
      obtain ⟨q, hq1, hy2⟩ := Option.bind_eq_some_iff.1 hy1
      cases hy2
      -- the call, whatever the record
      have hres : ∀ (lb : Nat) (w1 : World), (resolve a.eval (rangeCall g lb) 0).run P w1 = .ok { target := .fn (.func k) q.toArray, args := p.toArray ++ #[.func (.yield lb) #[] #[]] } w1 := by
        intro lb w1
        have hec : a.eval (.const (.func (.yield lb) #[] #[])) = .func (.yield lb) #[] #[] := rfl
        simp [resolve, rangeCall, hye, Deferred.ofValue, hec]
      have hargs : ∀ (lb : Nat), (p.toArray ++ #[Value.func (.yield lb) #[] #[]]) ++ q.toArray = (p ++ [Value.func (.yield lb) #[] #[]] ++ q).toArray := by
        intro lb; simp
      have hrun : ∀ {εx : Env} {hx : Tr SO} {n1 n2 : Nat} {w1 : World} {ly : Pa} {xl : Blk} {v : SV} {h' : Tr SO} {f' : Tr SV} {ds' : List Df} {df' : List Deferred}, Goes c ε h nx w εx hx n1 w1 → Pre c B w0 εx hx n1 w1 → εx ly = some xl → rec (.call k (first ++ [.yld ly] ++ cap) hx n1) = .val v h' n2 → DfOk εx ds' df' →
          (∀ wd, fin c ly f ds' h' n2 ≠ .bad wd) →
          (invoke (.fn (.func k) q.toArray) (p.toArray ++ #[.func (.yield xl.b) #[] #[]])).run P w1 = .ok (.enter k (p ++ [Value.func (.yield xl.b) #[] #[]] ++ q).toArray) w1 ∧
          CallsIn F 0 P k (p ++ [Value.func (.yield xl.b) #[] #[]] ++ q).toArray w1 (rangePost F 0 P xl.b (CodeQ c B ε h nx w sz (fin c ly f ds' h' n2)) { a with defers := df' }) := by
        intro εx hx n1 n2 w1 ly xl v h' f' ds' df' g1 hp1' hly hr hd' hnb'
        have hsub := g1.sub (hp.fresh.fresh _)
        have hall := denL_append (denL_append (denL_sub hsub _ hp1) (denL_mk (den_yld hly) (show denL εx [] = some [] from rfl))) (denL_sub hsub _ hq1)
        have hSj := hS (.call k (first ++ [.yld ly] ++ cap) hx n1)
        rw [hr] at hSj
        rcases hSj with ⟨wd, e⟩ | hSj
        · cases e
        rcases hSj εx w1 _ hp1' hall with ⟨hn, _⟩ | ⟨_, e3, e4⟩
        · rw [hk] at hn; cases hn
        refine ⟨?_, CallsIn.mono (hro.free.calls e4) fun e w' qq => ?_⟩
        · show (callFunc k ((p.toArray ++ #[Value.func (.yield xl.b) #[] #[]]) ++ q.toArray)).run P w1 = _
          rw [hargs]; exact e3
        · rcases qq with ⟨v1, h1, m1, ε', y1, q1, q2, q3, q4, q5⟩ | ⟨_, _, _, _, _, _, q1, _⟩
          case inr => cases q1
          cases q1; subst q2
          have hs2 := q4.sub (hp1'.fresh.fresh _)
          exact fin_ok (a := { a with defers := df' }) (g1.trans q4) (hp1'.next q4 q5) (hs2 _ _ hly) ((hf.sub hsub).sub hs2) hsz (hd'.sub hs2) hnb'
      cases ro with
      | none =>
        cases hro
        dsimp only at hnb ⊢
        cases hr : rec (.call k (first ++ [.yld (pa (nx + 1))] ++ cap) (Tr.set (some (.loop .ready none f sz ps.toList asg body (pa nx))) (pa (nx + 1)) (Tr.set (some .dfr) (pa nx) h)) (nx + 2)) with
        | bad wd => rw [hr] at hnb; exact absurd rfl (hnb wd)
        | val v h' n2 =>
          rw [hr] at hnb
          dsimp only at hnb ⊢
          refine wpIn_rangeFunc fun fn _ => ?_
          obtain ⟨p1, g1⟩ := obj_new hp (.deferred (some [])) (o := .dfr) (by show ({ w with heap := w.heap.push (.deferred (some [])) } : World).heap[w.heap.size]? = _; simp)
          have hnx : put ε (pa nx) ⟨w.heap.size, 0, 0⟩ (pa nx) = some ⟨w.heap.size, 0, 0⟩ := put_same _ _ _
          have hsub1 := g1.sub (hp.fresh.fresh _)
          have hfr1 : put ε (pa nx) ⟨w.heap.size, 0, 0⟩ (pa (nx + 1)) = none := p1.fresh _ (Nat.le_refl _)
          obtain ⟨p2, g2⟩ := obj_new p1 (.loop ⟨.ready, none, fn, a.tmps, ps, asg, body, w.heap.size⟩) (o := .loop .ready none f sz ps.toList asg body (pa nx)) (by
            refine ⟨fn, a.tmps, w.heap.size, by rw [Array.toArray_toList]; exact Array.getElem?_push_size, (hf.sub hsub1).sub (put_sub _ hfr1), hsz, ⟨w.heap.size, 0, 0⟩, ?_, rfl⟩
            rw [put_ne _ _ (fun e => by have := pa_inj e; omega)]; exact hnx)
          have hl2 := put_same (put ε (pa nx) ⟨w.heap.size, 0, 0⟩) (pa (nx + 1)) ⟨({ w with heap := w.heap.push (.deferred (some [])) } : World).heap.size, 0, 0⟩
          obtain ⟨r1, r2⟩ := hrun (f' := f) (g1.trans g2) p2 hl2 hr (ds' := .mark (pa nx) :: ds) (df' := [⟨.collected w.heap.size, #[]⟩] ++ a.defers) (.mark (x := ⟨w.heap.size, 0, 0⟩) (by rw [put_ne _ _ (fun e => by have := pa_inj e; omega)]; exact hnx) (hd.sub ((g1.trans g2).sub (hp.fresh.fresh _)))) hnb
          refine ⟨_, [⟨.collected w.heap.size, #[]⟩], _, _, _, k, _, _, ?_, hres _ _, fun _ _ => trivial, r1, by simp [Fence.wide], r2⟩
          simp [Instr.enterLoop, Fence.wide]
          rfl
        | _ => rw [hr] at hnb; exact absurd rfl (hnb [35])
      | some l =>
        obtain ⟨x, hx, rfl⟩ := hro
        dsimp only at hnb ⊢
        cases hn : Tr.get l h with
        | none => rw [hn] at hnb; exact absurd rfl (hnb [37])
        | some o =>
          rw [hn] at hnb
          cases o with
          | loop st pj tm sz' ps' asg' bd' d =>
            dsimp only at hnb ⊢
            cases hr : rec (.call k (first ++ [.yld (pa nx)] ++ cap) (Tr.set (some (.loop .ready none f sz ps.toList asg body d)) (pa nx) h) (nx + 1)) with
            | bad wd => rw [hr] at hnb; exact absurd rfl (hnb wd)
            | val v h' n2 =>
              rw [hr] at hnb
              dsimp only at hnb ⊢
              refine wpIn_rangeFunc fun fn _ => ?_
              obtain ⟨fn0, tmps0, xd, h1, h2, h3, yd, h4, h5⟩ := loopObj hp.sat hn hx
              have hnone : ε (pa nx) = none := hp.fresh _ (Nat.le_refl _)
              obtain ⟨p2, g2⟩ := obj_new hp (.loop ⟨.ready, none, fn, a.tmps, ps, asg, body, xd⟩) (o := .loop .ready none f sz ps.toList asg body d) (by
                refine ⟨fn, a.tmps, xd, by simp, hf.sub (put_sub _ hnone), hsz, yd, put_sub _ hnone _ _ h4, h5⟩)
              have hl2 := put_same ε (pa nx) ⟨w.heap.size, 0, 0⟩
              obtain ⟨r1, r2⟩ := hrun (f' := f) g2 p2 hl2 hr (ds' := ds) (df' := [] ++ a.defers) (hd.sub (put_sub _ hnone)) hnb
              refine ⟨_, [], _, _, _, k, _, _, ?_, hres _ _, fun _ _ => trivial, r1, by simp [Fence.wide], r2⟩
              simp [Instr.enterLoop, Instr.getLoop, run_getObj (P := P) h1 (by simp)]
            | _ => rw [hr] at hnb; exact absurd rfl (hnb [36])
          | _ => exact absurd rfl (hnb [37])
  | _ => exact absurd rfl (hnb [38])
end
end Go.Proofs.YtohikcchbjchkaaGreatDoor.Sx

