/- The greatest entry of a mail, under way: the pieces of entry.Most and of EntryMost. -/
import Derived.Test.YtlpngibdplnieaaGreatDoorEend
namespace Go.Proofs.YtlpngibdplnieaaGreatDoor
open Go Go.RowKit Go.Shelf Go.Sort

/-- The first fates are full. -/
def fatF (t : Bytes) (n i : Nat) : List FaP := List.replicate i (2, t) ++ List.replicate (n - i) (0, [])
/-- The first jobs are tried out. -/
def jobF (ds : List Bytes) (a : Int) (i : Nat) : List JoP := (ds.take i).map (fun d => (⟨d, 99, a⟩ : JoP)) ++ (ds.drop i).map (fun d => (⟨d, 0, a⟩ : JoP))
theorem fatF_len (t : Bytes) {n i : Nat} (h : i ≤ n) : (fatF t n i).length = n := by
  simp [fatF]; omega
theorem fatF_set (t : Bytes) {n i : Nat} (h : i < n) : (fatF t n i).set i (2, t) = fatF t n (i + 1) := by
  unfold fatF
  rw [List.set_append_right _ _ (by simp), show n - i = (n - (i + 1)) + 1 by omega, List.replicate_succ (n := n - (i + 1)), List.length_replicate, Nat.sub_self, List.set_cons_zero, List.replicate_succ' (n := i), List.append_assoc]
  rfl
theorem fatF_zero (t : Bytes) (n : Nat) : fatF t n 0 = List.replicate n (0, []) := by simp [fatF]
theorem fatF_all (t : Bytes) (n : Nat) : fatF t n n = List.replicate n (2, t) := by simp [fatF]
theorem jobF_len (ds : List Bytes) (a : Int) (i : Nat) : (jobF ds a i).length = ds.length := by
  simp [jobF]; omega
theorem jobF_at (ds : List Bytes) (a : Int) (i : Nat) (h : i < ds.length) : (jobF ds a i)[i]? = some ⟨ds[i], 0, a⟩ := by
  unfold jobF
  rw [List.getElem?_append_right (by simp; omega)]
  simp [List.getElem?_map, List.getElem?_drop, List.length_take, Nat.min_eq_left (Nat.le_of_lt h)]
theorem modify_append_right {α : Type} (f : α → α) : ∀ (l m : List α) (k : Nat), (l ++ m).modify (l.length + k) f = l ++ m.modify k f
  | [], m, k => by simp
  | a :: l, m, k => by
    rw [List.cons_append, List.length_cons, show l.length + 1 + k = (l.length + k) + 1 by omega, List.modify_succ_cons, modify_append_right f l m k, List.cons_append]
theorem jobF_set (ds : List Bytes) (a : Int) (i : Nat) (h : i < ds.length) : (jobF ds a i).modify i (fun j => ⟨j.dom, 99, j.due⟩) = jobF ds a (i + 1) := by
  unfold jobF
  have h1 : ((ds.take i).map (fun d => (⟨d, 99, a⟩ : JoP))).length = i := by simp; omega
  have h2 := modify_append_right (fun j : JoP => (⟨j.dom, 99, j.due⟩ : JoP)) ((ds.take i).map (fun d => (⟨d, 99, a⟩ : JoP))) ((ds.drop i).map (fun d => (⟨d, 0, a⟩ : JoP))) 0
  rw [h1, Nat.add_zero] at h2
  rw [h2, List.take_succ_eq_append_getElem h, List.map_append, List.append_assoc, List.drop_eq_getElem_cons h]
  rfl
theorem jobF_zero (ds : List Bytes) (a : Int) : jobF ds a 0 = ds.map fun d => (⟨d, 0, a⟩ : JoP) := by simp [jobF]
theorem jobF_all (ds : List Bytes) (a : Int) : jobF ds a ds.length = ds.map fun d => (⟨d, 99, a⟩ : JoP) := by simp [jobF]
theorem flat_try : ∀ (js : List JoP) (k : Nat), k < js.length → (js.flatMap joE).set (k * 3 + 1) (.int .i64 99) = (js.modify k fun j => (⟨j.dom, 99, j.due⟩ : JoP)).flatMap joE
  | [], k, h => by simp at h
  | y :: ys, 0, _ => by simp [joE]
  | y :: ys, k + 1, h => by
    rw [show (k + 1) * 3 = k * 3 + 1 + 1 + 1 by omega]
    simp only [List.flatMap_cons, joE, List.cons_append, List.nil_append, List.set_cons_succ, List.modify_succ_cons]
    rw [← flat_try ys k (by simpa using h)]
/-- The entry under way, in the box b. -/
structure FuL (w : World) (x : EntP) (b B : Nat) (sv fv jv : Value) (wr : World) : Prop where
  below : Below w.heap.size w wr
  box : wr.heap[b]? = some (.cells (entC x sv fv jv).toArray 28 (0, 0))
  own : OwnE wr B x sv fv jv
  ge : w.heap.size ≤ B
theorem FuL.keep {w wr w3 : World} {x : EntP} {b B : Nat} {sv fv jv : Value} (h : FuL w x b B sv fv jv wr) (hb : Below wr.heap.size wr w3) : FuL w x b B sv fv jv w3 := by
  have hg := grownBy_of_below hb none
  exact ⟨h.below.trans (hb.mono h.below.size), (hb.block _ (lt_of_cells h.box)).trans h.box, ⟨h.own.rc.kept hg (Classical.em _), h.own.fa.kept hg (Classical.em _), h.own.jo.kept hg (Classical.em _)⟩, h.ge⟩
theorem ful_ne {g : Nat} {S : TypeId} (hS : S ≠ 28) (W : World) (cur : Array Value) (a : Nat) (u : Value) (b : Nat) (cs : Array Value) (hc : W.heap[g]? = some (Obj.cells cur S (0, 0))) (hb : W.heap[b]? = some (Obj.cells cs 28 (0, 0))) : (W.setCell ⟨g, a, none⟩ u).heap[b]? = some (Obj.cells cs 28 (0, 0)) := by
  rw [Below.heap_setCell _ _ _ b (fun e => ?_)]
  · exact hb
  · have e2 : b = g := e
    subst e2
    rw [hc] at hb
    injection hb with hb
    injection hb with _ hb _
    exact absurd hb hS
theorem FuL.step {w wr : World} {x : EntP} {b B g k cap : Nat} {sv jv : Value} (h : FuL w x b B sv (.slice (some ⟨g, 0, none⟩) x.fates.length cap) jv wr) (f : FaP) :
    FuL w { x with fates := x.fates.set k f } b B sv (.slice (some ⟨g, 0, none⟩) x.fates.length cap) jv ((wr.setCell ⟨g, k * 2, none⟩ (.int .u8 (f.1 : Int))).setCell ⟨g, k * 2 + 1, none⟩ (.string ⟨f.2.toArray⟩)) := by
  have hf := own_seta h.own.fa (a := k * 2) (.int .u8 (f.1 : Int))
  have hf2 := own_seta hf (a := k * 2 + 1) (.string ⟨f.2.toArray⟩)
  obtain ⟨hg, -, cur, hc, -, -⟩ := own_block h.own.fa
  obtain ⟨-, -, cur2, hc2, -, -⟩ := own_block hf
  rw [flat_set2 faE_two (x := f) rfl] at hf2
  have hrc := own_set1 (u := .int .u8 (f.1 : Int)) (o := k * 2) h.own.rc hc (by decide)
  have hjo := own_set1 (u := .int .u8 (f.1 : Int)) (o := k * 2) h.own.jo hc (by decide)
  have hge : w.heap.size ≤ g := by have := h.ge; omega
  refine ⟨(h.below.setCell (p := ⟨g, _, none⟩) hge _).setCell (p := ⟨g, _, none⟩) hge _, ful_ne (by decide) _ _ _ _ _ _ hc2 (ful_ne (by decide) _ _ _ _ _ _ hc h.box), ⟨own_set1 hrc hc2 (by decide), ?_, own_set1 hjo hc2 (by decide)⟩, h.ge⟩
  show World.ownsRow _ _ _ _ _ (x.fates.set k f).length _
  rw [List.length_set]
  exact hf2
theorem FuL.tried {w wr : World} {x : EntP} {b B g k cap : Nat} {sv fv : Value} (h : FuL w x b B sv fv (.slice (some ⟨g, 0, none⟩) x.jobs.length cap) wr) (hk : k < x.jobs.length) :
    FuL w { x with jobs := x.jobs.modify k fun j => ⟨j.dom, 99, j.due⟩ } b B sv fv (.slice (some ⟨g, 0, none⟩) x.jobs.length cap) (wr.setCell ⟨g, k * 3 + 1, none⟩ (.int .i64 99)) := by
  have hf := own_seta h.own.jo (a := k * 3 + 1) (.int .i64 99)
  obtain ⟨hg, -, cur, hc, -, -⟩ := own_block h.own.jo
  rw [flat_try x.jobs k hk] at hf
  have hge : w.heap.size ≤ g := by have := h.ge; omega
  refine ⟨h.below.setCell (p := ⟨g, _, none⟩) hge _, ful_ne (by decide) _ _ _ _ _ _ hc h.box, ⟨own_set1 h.own.rc hc (by decide), own_set1 h.own.fa hc (by decide), ?_⟩, h.ge⟩
  show World.ownsRow _ _ _ _ _ (x.jobs.modify k fun j => (⟨j.dom, 99, j.due⟩ : JoP)).length _
  rw [List.length_modify]
  exact hf
theorem FuL.c8 {w wr : World} {x : EntP} {b B : Nat} {sv fv jv : Value} (h : FuL w x b B sv fv jv wr) : wr.cell? ⟨b, 8, none⟩ = some fv := by
  have hb := h.box
  unfold entC at hb
  obtain ⟨-, -, -, -, -, -, -, -, x8, -⟩ := eboxAll hb
  exact x8
theorem FuL.c9 {w wr : World} {x : EntP} {b B : Nat} {sv fv jv : Value} (h : FuL w x b B sv fv jv wr) : wr.cell? ⟨b, 9, none⟩ = some jv := by
  have hb := h.box
  unfold entC at hb
  obtain ⟨-, -, -, -, -, -, -, -, -, x9⟩ := eboxAll hb
  exact x9
/-- What is wanted to store a fate. -/
theorem FuL.put {w wr : World} {x : EntP} {b B k n c : Nat} {p : Option Addr} {sv jv : Value} (h : FuL w x b B sv (.slice p n c) jv wr) (hn : x.fates.length = n) (hk : k < n) :
    ∃ g, p = some ⟨g, 0, none⟩ ∧ (∃ u0 u1, wr.cell? ⟨g, k * 2, none⟩ = some u0 ∧ wr.cell? ⟨g, k * 2 + 1, none⟩ = some u1) ∧ (∀ o, wr.frozen? ⟨g, o, none⟩ = false) ∧
      ∀ f : FaP, FuL w { x with fates := x.fates.set k f } b B sv (.slice p n c) jv ((wr.setCell ⟨g, k * 2, none⟩ (.int .u8 (f.1 : Int))).setCell ⟨g, k * 2 + 1, none⟩ (.string ⟨f.2.toArray⟩)) := by
  subst hn
  obtain ⟨g, cap, e⟩ := own_pos h.own.fa (by omega)
  injection e with e1 _ e2
  subst e1 e2
  obtain ⟨u0, u1, v0, v1⟩ := fa_cell h.own.fa hk
  obtain ⟨-, -, cur, hcur, -, -⟩ := own_block h.own.fa
  exact ⟨g, rfl, ⟨u0, u1, v0, v1⟩, fun o => efroz hcur o, fun f => h.step f⟩
/-- What is wanted to store a job's tries. -/
theorem FuL.try {w wr : World} {x : EntP} {b B k n c : Nat} {p : Option Addr} {sv fv : Value} (h : FuL w x b B sv fv (.slice p n c) wr) (hn : x.jobs.length = n) (hk : k < n) :
    ∃ g, p = some ⟨g, 0, none⟩ ∧ (∃ u, wr.cell? ⟨g, k * 3 + 1, none⟩ = some u) ∧ (∀ o, wr.frozen? ⟨g, o, none⟩ = false) ∧
      FuL w { x with jobs := x.jobs.modify k fun j => ⟨j.dom, 99, j.due⟩ } b B sv fv (.slice p n c) (wr.setCell ⟨g, k * 3 + 1, none⟩ (.int .i64 99)) := by
  subst hn
  obtain ⟨g, cap, e⟩ := own_pos h.own.jo (by omega)
  injection e with e1 _ e2
  subst e1 e2
  obtain ⟨z1, -⟩ := jo_cell h.own.jo (List.getElem?_eq_getElem hk)
  obtain ⟨-, -, cur, hcur, -, -⟩ := own_block h.own.jo
  exact ⟨g, rfl, ⟨_, z1⟩, fun o => efroz hcur o, h.tried hk⟩
/-- What Most and EntryMost make of a mail, on the way. -/
def wayN (t : Bytes) (m : MailP) (i k : Nat) : EntP := { makeN 1099511627776 1099511627776 m with fates := fatF t m.rcpts.length i, jobs := jobF (domsM m.rcpts) 1099511627776 k }
theorem wayN_zero (t : Bytes) (m : MailP) : wayN t m 0 0 = makeN 1099511627776 1099511627776 m := by
  unfold wayN makeN
  rw [fatF_zero, jobF_zero]
theorem wayN_all (c : UInt8) (m : MailP) : wayN (List.replicate 128 c) m m.rcpts.length (domsM m.rcpts).length = fullN c m := by
  unfold wayN fullN makeN
  rw [fatF_all, jobF_all]
theorem wayN_fates (t : Bytes) (m : MailP) {i k : Nat} (h : i ≤ m.rcpts.length) : (wayN t m i k).fates.length = m.rcpts.length := fatF_len t h
theorem wayN_jobs (t : Bytes) (m : MailP) (i k : Nat) : (wayN t m i k).jobs.length = (domsM m.rcpts).length := jobF_len _ _ _
theorem wayN_set (t : Bytes) (m : MailP) {i k : Nat} (h : i < m.rcpts.length) : { wayN t m i k with fates := (wayN t m i k).fates.set i (2, t) } = wayN t m (i + 1) k := by
  unfold wayN
  dsimp only
  rw [fatF_set t h]
theorem wayN_try (t : Bytes) (m : MailP) {i k : Nat} (h : k < (domsM m.rcpts).length) : { wayN t m i k with jobs := (wayN t m i k).jobs.modify k fun j => ⟨j.dom, 99, j.due⟩ } = wayN t m i (k + 1) := by
  unfold wayN
  dsimp only
  rw [jobF_set _ _ _ h]
end Go.Proofs.YtlpngibdplnieaaGreatDoor
