/- entry.Decode's second function; what the reading of the rows does; the stores. -/
import Derived.Test.YtdlpdpelhkgnlaaGreatDoorEdk
namespace Go.Proofs.YtdlpdpelhkgnlaaGreatDoor
open Go Go.RowKit Go.Shelf Go.Sort
attribute [local go_sem] bneI

theorem enterDec2 : ∀ args w, (callFunc 67 args).run Tryz.prog w = .ok (.enter 67 args) w := enters_of Tryz.func67 (by kernel_rfl) rfl
/-- Decode's first function as a value. -/
def fnRf (eb pb : Nat) : Value := .func (.func 65) #[] #[.pointer (some ⟨eb, 0, none⟩), .pointer (some ⟨pb, 0, none⟩)]
set_option maxRecDepth 100000 in
set_option maxHeartbeats 4000000 in
theorem dec2_any (w0 : World) (eb pb b fb : Nat) (x : EntP) (r : Rd) (sv fv jv : Value) (w : World) (h : DecAt (some (fb, fnRf eb pb)) w0 eb pb b x r sv fv jv w) (hE : Env8 w0) (hs : r.s.length ≤ 1000000000) (hj1 : x.mail.rcpts.length ≤ 1000) (hj2 : x.fates.length ≤ 1000) :
    Calls Tryz.prog 67 #[.pointer (some ⟨fb, 0, none⟩), .pointer (some ⟨pb, 0, none⟩)] w fun e w' => e = .returned (.tuple #[]) ∧ ∃ sv' fv', DecAt (some (fb, fnRf eb pb)) w0 eb pb b (addRf x (rdRf r).1) (rdRf r).2 sv' fv' jv w' := by
  have hf := h.fix fb _ rfl
  unfold fnRf at hf
  have hc1 := h.p
  have hc2 : w.cell? ⟨fb, 0, none⟩ = some (.func (.func 65) #[] #[.pointer (some ⟨eb, 0, none⟩), .pointer (some ⟨pb, 0, none⟩)]) := by simp [World.cell?, hf]
  have hD := dec1_any _ w0 eb pb b x r sv fv jv w h hE hs hj1 hj2
  have hrun : Sem.run Tryz.prog (callFunc 65 #[.func (.func 63) #[.pointer (some ⟨b, 0, none⟩)] #[], .func (.func 64) #[.pointer (some ⟨b, 0, none⟩)] #[], .pointer (some ⟨eb, 0, none⟩), .pointer (some ⟨pb, 0, none⟩)]) w = .ok (.enter 65 #[.func (.func 63) #[.pointer (some ⟨b, 0, none⟩)] #[], .func (.func 64) #[.pointer (some ⟨b, 0, none⟩)] #[], .pointer (some ⟨eb, 0, none⟩), .pointer (some ⟨pb, 0, none⟩)]) w := enterDec1 _ _
  generalize (rdRf r).1 = q at hD ⊢
  generalize (rdRf r).2 = r' at hD ⊢
  clear hf h hE hs
  go_enter Tryz.func67, Tryz.ntmps67
  go_wp2_with fail
  refine hD.mono ?_
  rintro e w2 ⟨rfl, sv', fv', hZ⟩
  have HZ := Lib.hid hZ
  clear hZ hD hrun
  go_wp2
  go_end0
  exact ⟨rfl, _, _, HZ.out⟩
/-! ### Many of them -/
theorem rdMany_snoc {α : Type} (one : Rd → α × Rd) (k : Nat) (r : Rd) : (rdMany one (k + 1) r).1 = (rdMany one k r).1 ++ [(one (rdMany one k r).2).1] ∧ (rdMany one (k + 1) r).2 = (one (rdMany one k r).2).2 := by
  induction k generalizing r with
  | zero => exact ⟨rfl, rfl⟩
  | succ k ih =>
    have h := ih (one r).2
    constructor
    · show (one r).1 :: (rdMany one (k + 1) (one r).2).1 = (one r).1 :: (rdMany one k (one r).2).1 ++ [(one (rdMany one k (one r).2).2).1]
      rw [h.1]
      rfl
    · show (rdMany one (k + 1) (one r).2).2 = (one (rdMany one k (one r).2).2).2
      exact h.2
theorem rdMany_less {α : Type} (one : Rd → α × Rd) (h : ∀ r, (one r).2.s.length ≤ r.s.length) (k : Nat) (r : Rd) : (rdMany one k r).2.s.length ≤ r.s.length := by
  induction k generalizing r with
  | zero => exact Nat.le_refl _
  | succ k ih => exact Nat.le_trans (ih _) (h r)
theorem rdMany_cnt {α : Type} (one : Rd → α × Rd) (k : Nat) (r : Rd) : (rdMany one k r).1.length = k := by
  induction k generalizing r with
  | zero => rfl
  | succ k ih => show (_ :: _).length = _; rw [List.length_cons, ih]
theorem rdYes_len (r : Rd) : (rdYes r).2.s.length ≤ r.s.length := rdNum_len 1 r
theorem rdRf_len (r : Rd) : (rdRf r).2.s.length ≤ r.s.length :=
  Nat.le_trans (rdText_len _) (Nat.le_trans (rdNum_len 2 _) (Nat.le_trans (rdYes_len _) (rdText_len r)))
theorem rdJob_len (r : Rd) : (rdJob r).2.s.length ≤ r.s.length :=
  Nat.le_trans (rdNum_len 1099511627776 _) (Nat.le_trans (rdNum_len 99 _) (rdText_len r))
def addRfs (x : EntP) (l : List (RcP × FaP)) : EntP := { x with mail := { x.mail with rcpts := x.mail.rcpts ++ l.map (·.1) }, fates := x.fates ++ l.map (·.2) }
def addJos (x : EntP) (l : List JoP) : EntP := { x with jobs := x.jobs ++ l }
theorem addRfs_snoc (x : EntP) (l : List (RcP × FaP)) (q : RcP × FaP) : addRf (addRfs x l) q = addRfs x (l ++ [q]) := by simp [addRf, addRfs]
theorem addJos_snoc (x : EntP) (l : List JoP) (q : JoP) : { addJos x l with jobs := (addJos x l).jobs ++ [q] } = addJos x (l ++ [q]) := by simp [addJos]
theorem addRfs_nil (x : EntP) : addRfs x [] = x := by simp [addRfs]
theorem addJos_nil (x : EntP) : addJos x [] = x := by simp [addJos]
section
variable {fx : Option (Nat × Value)} {w0 W W' : World} {eb pb b : Nat} {x x' : EntP} {r : Rd} {sv fv jv : Value}
/-- A store into the entry's box, where no row is. -/
theorem DecAt.store (h : DecAt fx w0 eb pb b x r sv fv jv W) (k : Nat) (v : Value) (he : (entC x sv fv jv).set k v = entC x' sv fv jv) (h1 : x'.mail.rcpts = x.mail.rcpts) (h2 : x'.fates = x.fates) (h3 : x'.jobs = x.jobs) :
    DecAt fx w0 eb pb b x' r sv fv jv (W.setCell ⟨eb, k, none⟩ v) := by
  have e1 := h.ent
  have e2 := h.ptr
  have e3 := h.rd
  have d2 := block_ne e2 e1 (by decide)
  have d3 := block_ne e3 e1 (by decide)
  refine ⟨h.below.setCell (p := ⟨eb, k, none⟩) h.geE _, h.geE, h.geP, h.geB, ?_, (Below.heap_setCell _ _ _ _ d2).trans e2, (Below.heap_setCell _ _ _ _ d3).trans e3, fun k v e => (Below.heap_setCell _ _ _ _ (block_ne (h.fix k v e) e1 (by decide))).trans (h.fix k v e),
    ⟨?_, ?_, ?_⟩⟩
  · rw [← he]
    exact set_entC e1
  · rw [h1]
    exact own_set1 h.own.rc e1 (by decide)
  · rw [h2]
    exact own_set1 h.own.fa e1 (by decide)
  · rw [h3]
    exact own_set1 h.own.jo e1 (by decide)
theorem DecAt.fixed (h : DecAt fx w0 eb pb b x r sv fv jv W) (hb : Below W.heap.size W W') {k : Nat} {v : Value} (hk : W'.heap[k]? = some (.cells #[v] 105 (0, 0))) : DecAt (some (k, v)) w0 eb pb b x r sv fv jv W' := by
  have h' := h.keep hb
  refine ⟨h'.below, h'.geE, h'.geP, h'.geB, h'.ent, h'.ptr, h'.rd, ?_, h'.own⟩
  intro k2 v2 e
  injection e with e
  injection e with e1 e2
  subst e1
  subst e2
  exact hk
theorem DecAt.c0 (h : DecAt fx w0 eb pb b x r sv fv jv W) (k : Nat) {v : Value} (hv : (entC x sv fv jv)[k]? = some v) : W.cell? ⟨eb, k, none⟩ = some v := by
  simp [World.cell?, h.ent, hv]
theorem DecAt.fz (h : DecAt fx w0 eb pb b x r sv fv jv W) (k : Nat) : W.frozen? ⟨eb, k, none⟩ = false := efroz h.ent k
end
set_option maxRecDepth 100000 in
set_option maxHeartbeats 4000000 in
/-- The addressees and fates read. -/
theorem rfs_any (w0 : World) (eb pb b fb : Nat) (x : EntP) (r : Rd) (sv fv jv : Value) (w : World) (h : DecAt (some (fb, fnRf eb pb)) w0 eb pb b x r sv fv jv w) (hE : Env8 w0) (hs : r.s.length ≤ 1000000000) (hj1 : x.mail.rcpts = []) (hj2 : x.fates = []) :
    Calls Tryz.prog 66 #[.pointer (some ⟨b, 0, none⟩), .int .i64 4, .func (.func 67) #[] #[.pointer (some ⟨fb, 0, none⟩), .pointer (some ⟨pb, 0, none⟩)]] w fun e w' => e = .returned (.tuple #[]) ∧ ∃ sv' fv', DecAt (some (fb, fnRf eb pb)) w0 eb pb b (addRfs x (rdEach rdRf 4 r).1) (rdEach rdRf 4 r).2 sv' fv' jv w' := by
  have hm : (rdNum 4 r).1 ≤ 4 := num_le 4 r
  refine reach_any 67 enterDec2 _ w0 b r 4 w h.rdAt hE hs (by decide) (fun k W => ∃ sv' fv', DecAt (some (fb, fnRf eb pb)) w0 eb pb b (addRfs x (rdMany rdRf k (rdNum 4 r).2).1) (rdMany rdRf k (rdNum 4 r).2).2 sv' fv' jv W) ?_ ?_
  · intro W hR hg
    refine ⟨sv, fv, ?_⟩
    have h2 := h.reads hg hR
    show DecAt _ w0 eb pb b (addRfs x []) (rdNum 4 r).2 sv fv jv W
    rw [addRfs_nil]
    exact h2
  · rintro k W hk ⟨sv', fv', hD⟩
    obtain ⟨e1, e2⟩ := rdMany_snoc rdRf k (rdNum 4 r).2
    have hl := Nat.le_trans (rdMany_less rdRf rdRf_len k (rdNum 4 r).2) (rdNum_len 4 r)
    have hc := rdMany_cnt rdRf k (rdNum 4 r).2
    rw [e1, e2, ← addRfs_snoc]
    exact dec2_any w0 eb pb b fb _ _ sv' fv' jv W hD hE (by omega) (by simp [addRfs, hj1, hc]; omega) (by simp [addRfs, hj2, hc]; omega)
set_option maxRecDepth 100000 in
set_option maxHeartbeats 4000000 in
/-- The jobs read. -/
theorem jos_any (fx : Option (Nat × Value)) (w0 : World) (eb pb b : Nat) (x : EntP) (r : Rd) (sv fv jv : Value) (w : World) (h : DecAt fx w0 eb pb b x r sv fv jv w) (hE : Env8 w0) (hs : r.s.length ≤ 1000000000) (hj1 : x.jobs = []) :
    Calls Tryz.prog 66 #[.pointer (some ⟨b, 0, none⟩), .int .i64 4, .func (.func 68) #[] #[.pointer (some ⟨eb, 0, none⟩), .pointer (some ⟨pb, 0, none⟩)]] w fun e w' => e = .returned (.tuple #[]) ∧ ∃ jv', DecAt fx w0 eb pb b (addJos x (rdEach rdJob 4 r).1) (rdEach rdJob 4 r).2 sv fv jv' w' := by
  have hm : (rdNum 4 r).1 ≤ 4 := num_le 4 r
  refine reach_any 68 enterDec3 _ w0 b r 4 w h.rdAt hE hs (by decide) (fun k W => ∃ jv', DecAt fx w0 eb pb b (addJos x (rdMany rdJob k (rdNum 4 r).2).1) (rdMany rdJob k (rdNum 4 r).2).2 sv fv jv' W) ?_ ?_
  · intro W hR hg
    refine ⟨jv, ?_⟩
    have h2 := h.reads hg hR
    show DecAt _ w0 eb pb b (addJos x []) (rdNum 4 r).2 sv fv jv W
    rw [addJos_nil]
    exact h2
  · rintro k W hk ⟨jv', hD⟩
    obtain ⟨e1, e2⟩ := rdMany_snoc rdJob k (rdNum 4 r).2
    have hl := Nat.le_trans (rdMany_less rdJob rdJob_len k (rdNum 4 r).2) (rdNum_len 4 r)
    have hc := rdMany_cnt rdJob k (rdNum 4 r).2
    rw [e1, e2, ← addJos_snoc]
    exact dec3_any fx w0 eb pb b _ _ sv fv jv' W hD hE (by omega) (by simp [addJos, hj1, hc]; omega)
end Go.Proofs.YtdlpdpelhkgnlaaGreatDoor
