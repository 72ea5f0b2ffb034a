/- The cache in memory: its entries, its map, its texts. -/
import Derived.Test.YtojhledbfaninaaCpl
import Derived.Shelf.SlSortCmp.InsertionK
import Derived.Test.YtojhledbfaninaaMap
namespace Go.Proofs.Ytojhledbfaninaa
open Go Go.RowKit Go.Shelf Go.Sort

/-! ### Text keys -/
theorem str_inj {a b : Bytes} (h : str a = str b) : a = b := by
  unfold str at h
  injection h with h
  injection h with h
  simpa using congrArg Array.toList h
theorem same_strs (a b : Bytes) : Instr.sameNow .string (str a) (str b) = some (decide (b = a)) := by
  unfold str
  simp only [Instr.sameNow]
  congr 1
  rw [Bool.eq_iff_iff, MapKept.bytes_beq, decide_eq_true_eq]
  constructor
  · intro h; injection h with h; exact (by simpa using congrArg Array.toList h : a = b).symm
  · rintro rfl; rfl
theorem now_strs (k : Bytes) : ∀ (es : List MapEntry) (l : List Bytes) (n : Nat), es.map (·.key) = l.map str → Instr.findNow .string (str k) es n = some ((l.findIdx? fun x => decide (x = k)).bind fun i => (es[i]?).map fun e => (n + i, e.val))
  | [], [], n, _ => by simp [Instr.findNow]
  | [], _ :: _, _, h => by simp at h
  | _ :: _, [], _, h => by simp at h
  | e :: es, x :: l, n, h => by
    simp at h
    have ih := now_strs k es l (n + 1) h.2
    unfold Instr.findNow
    rw [h.1, same_strs]
    by_cases hx : x = k
    · simp [hx, List.findIdx?_cons]
    · simp only [hx, decide_false, ih, List.findIdx?_cons, Bool.false_eq_true, if_false]
      congr 1
      cases (l.findIdx? fun x => decide (x = k)) with
      | none => rfl
      | some i => simp [Nat.add_comm, Nat.add_left_comm]
theorem strLaw : KLaw Try.prog 9 str where
  chk e k w := by
    exact MapKept.run_checkKey Try.underlying9 (by simp [MapKept.IsKey, str]) e 9999
  find k es l w h := by
    have := now_strs k es l 0 h
    exact (MapKept.run_findKey Try.underlying9 this).trans (by simp)
  same k := by simp [str, Instr.sameBits, beq_toListBytes]

/-! ### Entries -/
abbrev SH := Option Addr × Nat × Nat
abbrev EM := PE × SH
instance : Inhabited EM := ⟨(default, (none, 0, 0))⟩
def shV (h : SH) : Value := .slice h.1 h.2.1 h.2.2
def ecells (p : EM) : List Value := [str p.1.dom, str p.1.id, .int .u8 (p.1.mode : Int), shV p.2, .int .i64 p.1.age, .int .i64 p.1.unt]
def evp (p : EM) : Value := .agg (ecells p).toArray
def pcl (mode : Nat) (h : SH) (age : Int) : Value := .agg #[.int .u8 (mode : Int), shV h, .int .i64 age]
theorem ecells_len (p : EM) : (ecells p).length = 6 := rfl
theorem ecells_one (p : EM) : ∀ v ∈ ecells p, v.oneCell' = true := by
  intro v hv
  simp [ecells, str, shV] at hv
  rcases hv with rfl | rfl | rfl | rfl | rfl | rfl <;> rfl
/-- The cells of entries, one behind the other. -/
def ec (ps : List EM) : List Value := ps.flatMap ecells
theorem ec_snoc (ps : List EM) (p : EM) : ec (ps ++ [p]) = ec ps ++ ecells p := by simp [ec]
/-- A slice of texts: what its cells hold, in blocks of B. -/
def MxAt (W : World) (B : Nat → Prop) (h : SH) (mx : List Bytes) : Prop :=
  h.2.1 = mx.length ∧ (h.1 = none → h = (none, 0, 0)) ∧ ∀ a, h.1 = some a → (mx ≠ [] → B a.block) ∧ ∀ j u, mx[j]? = some u → W.cell? (a.add j) = some (str u)
theorem add_block (a : Addr) (j : Nat) : (a.add j).block = a.block := by unfold Addr.add; split <;> rfl
theorem MxAt.keep {W W' : World} {B : Nat → Prop} {h : SH} {mx : List Bytes} (hm : MxAt W B h mx) (hk : ∀ a v, W.cell? a = some v → B a.block → W'.cell? a = some v) : MxAt W' B h mx :=
  ⟨hm.1, hm.2.1, fun a ha => ⟨(hm.2.2 a ha).1, fun j u hj => hk _ _ ((hm.2.2 a ha).2 j u hj) (by rw [add_block]; exact (hm.2.2 a ha).1 (fun e => by rw [e] at hj; cases hj))⟩⟩
theorem MxAt.mono {W : World} {B B' : Nat → Prop} {h : SH} {mx : List Bytes} (hm : MxAt W B h mx) (hb : ∀ k, B k → B' k) : MxAt W B' h mx :=
  ⟨hm.1, hm.2.1, fun a ha => ⟨fun hn => hb _ ((hm.2.2 a ha).1 hn), (hm.2.2 a ha).2⟩⟩
theorem MxAt.lts {W : World} {B : Nat → Prop} {h : SH} {mx : List Bytes} (hm : MxAt W B h mx) : MxAt W (fun k => B k ∧ k < W.heap.size) h mx :=
  ⟨hm.1, hm.2.1, fun a ha => ⟨fun hn => ⟨(hm.2.2 a ha).1 hn, by
    cases mx with
    | nil => exact absurd rfl hn
    | cons u l =>
      have := cell_lt ((hm.2.2 a ha).2 0 u rfl)
      rwa [add_block] at this⟩, (hm.2.2 a ha).2⟩⟩
theorem MxAt.below {W W' : World} {B : Nat → Prop} {h : SH} {mx : List Bytes} (hm : MxAt W B h mx) (hb : Below W.heap.size W W') : MxAt W' B h mx :=
  hm.keep fun a v hv _ => (hb.cell (p := a) (cell_lt hv)).trans hv
theorem cell_grown {W W' : World} {row : Option Nat} {a : Addr} {v : Value} (hg : W.grownBy W' row) (hv : W.cell? a = some v) (hn : row ≠ some a.block) : W'.cell? a = some v :=
  (World.cell?_of_block (hg.block a.block (cell_lt hv) (fun e => hn (by rw [e])))).trans hv
theorem map_ne {W : World} {bm : Nat} {a : Addr} {v : Value} {o : Obj} (hb : W.heap[bm]? = some o) (ho : o.isCells = false) (hv : W.cell? a = some v) : bm ≠ a.block := by
  rintro rfl
  obtain ⟨o', ho', hc⟩ := cells_of_cell hv
  rw [hb] at ho'; cases ho'
  rw [ho] at hc; cases hc
theorem MxAt.grown {W W' : World} {B : Nat → Prop} {h : SH} {mx : List Bytes} {row : Option Nat} (hm : MxAt W B h mx) (hg : W.grownBy W' row) (hr : ∀ k, row = some k → ∃ o, W.heap[k]? = some o ∧ o.isCells = false) : MxAt W' B h mx :=
  hm.keep fun a v hv _ => cell_grown hg hv (fun e => by
    obtain ⟨o, ho, hc⟩ := hr _ e
    exact map_ne ho hc hv rfl)

/-! ### Rows of entries -/
theorem ec_get : ∀ (ps : List EM) (t : Nat), t < ps.length * 6 → (ec ps)[t]? = some ((ecells (ps[t / 6]!))[t % 6]!)
  | [], t, h => by simp at h
  | p :: ps, t, h => by
    have e : ec (p :: ps) = ecells p ++ ec ps := by simp [ec]
    rw [e]
    by_cases h6 : t < 6
    · rw [List.getElem?_append_left (by rw [ecells_len]; exact h6), show t / 6 = 0 by omega, show t % 6 = t by omega]
      rw [List.getElem?_eq_getElem (by rw [ecells_len]; exact h6)]
      simp only [List.getElem!_cons_zero]
      rw [getElem!_pos _ t (by rw [ecells_len]; exact h6)]
    · obtain ⟨u, rfl⟩ : ∃ u, t = u + 6 := ⟨t - 6, by omega⟩
      rw [List.getElem?_append_right (by rw [ecells_len]; omega), ecells_len, Nat.add_sub_cancel, ec_get ps u (by simp at h; omega), show (u + 6) / 6 = u / 6 + 1 by omega, show (u + 6) % 6 = u % 6 by omega]
      simp
theorem ec_length (ps : List EM) : (ec ps).length = ps.length * 6 := by
  induction ps with
  | nil => rfl
  | cons p ps ih =>
    have e : ec (p :: ps) = ecells p ++ ec ps := by simp [ec]
    rw [e, List.length_append, ih, ecells_len]; simp; omega
theorem flatK_ec (ps : List EM) : flatK ecells 6 ps.toArray = (ec ps).toArray := by
  apply Array.ext'
  apply List.ext_getElem?
  intro t
  by_cases h : t < ps.length * 6
  · rw [List.toList_toArray, ec_get ps t h]
    have := get_flatK ecells 6 ps.toArray t (by simpa using h)
    rw [getElem!_pos _ t (by simpa using h)] at this
    rw [Array.getElem?_toList, Array.getElem?_eq_getElem (by simpa using h), this]
    simp [getElem!_pos, show t / 6 < ps.length by omega]
  · rw [List.getElem?_eq_none (by simp; omega), List.getElem?_eq_none (by simp [ec_length]; omega)]
/-- Block g holds entries, from its first cell on. -/
def ERow (W : World) (g : Nat) (ps : List EM) : Prop := HoldsK ecells 6 W g 0 ps.toArray
theorem erow_own {w : World} {g : Nat} {cur : Array Value} {e : TypeId} {ps : List EM} (hb : w.heap[g]? = some (.cells cur e (0, 0))) (ht : cur.toList.take (ps.length * 6) = ec ps) : ERow w g ps := by
  unfold ERow HoldsK
  rw [flatK_ec]
  intro j hj
  have hj' : j < ps.length * 6 := by simpa [ec_length] using hj
  refine ⟨?_, by simp [World.frozen?, hb]⟩
  have h1 : (cur.toList.take (ps.length * 6))[j]? = (ec ps)[j]? := by rw [ht]
  rw [List.getElem?_take_of_lt hj'] at h1
  simp only [World.cell?, hb, Nat.zero_add]
  simp only [Option.isSome_none, Bool.false_eq_true, if_false]
  rw [← Array.getElem?_toList, h1]
  simp [ec_length, hj']
theorem ERow.cell {w : World} {g : Nat} {ps : List EM} (h : ERow w g ps) {i k : Nat} {v : Value} (hi : i < ps.length) (hv : (ecells ps[i])[k]? = some v) : w.cell? ⟨g, i * 6 + k, none⟩ = some v ∧ w.frozen? ⟨g, i * 6 + k, none⟩ = false := by
  have hk : k < 6 := by
    have := (List.getElem?_eq_some_iff.1 hv).1
    simpa [ecells_len] using this
  have := HoldsK.cell h (i := i) (c := k) (by simpa using hi) hk
  simp only [Nat.zero_add] at this
  rw [this.1, this.2]
  refine ⟨?_, rfl⟩
  have e1 : ps.toArray[i]! = ps[i] := by simp [getElem!_pos, hi]
  rw [e1, getElem!_pos _ k (by rw [ecells_len]; exact hk)]
  rw [List.getElem?_eq_getElem (by rw [ecells_len]; exact hk)] at hv
  exact hv
theorem ERow.keep {w w' : World} {g : Nat} {ps : List EM} (h : ERow w g ps) (hb : w'.heap[g]? = w.heap[g]?) : ERow w' g ps := fun j hj =>
  ⟨(World.cell?_of_block hb).trans (h j hj).1, by have := (h j hj).2; simpa [World.frozen?, hb] using this⟩
theorem setMany_set (ps : List EM) (i : Nat) (x : EM) (hi : i < ps.length) : setMany (flatK ecells 6 ps.toArray) (i * 6) (ecells x) = flatK ecells 6 (ps.set i x).toArray := by
  refine ext_get! (by simp) fun t ht => ?_
  have ht' : t < ps.length * 6 := by simpa using ht
  rw [get_setMany _ _ _ t (by simpa using ht'), get_flatK _ _ _ t (by simpa using ht'), get_flatK _ _ _ t (by simpa using ht'), ecells_len]
  have hq : t / 6 < ps.length := by omega
  have e1 : ∀ (qs : List EM) (j : Nat) (hj : j < qs.length), qs.toArray[j]! = qs[j] := fun qs j hj => by simp [getElem!_pos, hj]
  rw [e1 ps _ hq, e1 (ps.set i x) _ (by simpa using hq)]
  by_cases a : t / 6 = i
  · subst a
    rw [if_pos (by omega), List.getElem_set_self, show t - t / 6 * 6 = t % 6 by omega]
  · rw [if_neg (by omega), List.getElem_set_ne (fun e => a e.symm)]
theorem ERow.store {w : World} {g : Nat} {ps : List EM} (h : ERow w g ps) {i : Nat} (hi : i < ps.length) (x : EM) :
    (∀ P : Program, Sem.run P (storeCells ⟨g, i * 6, none⟩ (ecells x) 0) w = .ok () (w.setCells g (i * 6) (ecells x))) ∧ ERow (w.setCells g (i * 6) (ecells x)) g (ps.set i x) := by
  have hb : i * 6 + (ecells x).length ≤ (flatK ecells 6 ps.toArray).size := by rw [ecells_len, size_flatK]; simp; omega
  constructor
  · intro P
    have := stores_of_holds P (show Holds id w g 0 _ from h) (i * 6) (ecells x) hb (ecells_one x)
    simpa using this
  · have := holds_setCells_c (show Holds id w g 0 _ from h) (i * 6) (ecells x) hb
    rw [setMany_set ps i x hi] at this
    simpa [ERow, HoldsK] using this
theorem setCells_block (g : Nat) : ∀ (vs : List Value) (w : World) (s k : Nat), k ≠ g → (w.setCells g s vs).heap[k]? = w.heap[k]?
  | [], _, _, _, _ => rfl
  | v :: vs, w, s, k, h => by
    rw [World.setCells, setCells_block g vs _ _ k h]
    exact Below.heap_setCell w ⟨g, s, none⟩ v k h
theorem grownBy_setCells (w : World) (g s : Nat) (vs : List Value) : w.grownBy (w.setCells g s vs) (some g) := by
  have hz : ∀ (vs : List Value) (w : World) (s : Nat), (w.setCells g s vs).os = w.os ∧ (w.setCells g s vs).tape = w.tape ∧ (w.setCells g s vs).output = w.output ∧ (w.setCells g s vs).heap.size = w.heap.size := by
    intro vs
    induction vs with
    | nil => intro w s; exact ⟨rfl, rfl, rfl, rfl⟩
    | cons v vs ih =>
      intro w s
      rw [World.setCells]
      obtain ⟨h1, h2, h3, h4⟩ := ih (w.setCell ⟨g, s, none⟩ v) (s + 1)
      exact ⟨h1, h2, h3, by rw [h4]; simp [World.setCell]⟩
  obtain ⟨h1, h2, h3, h4⟩ := hz vs w s
  exact ⟨h1, h2, h3, by rw [h4]; exact Nat.le_refl _, fun k hk hne => setCells_block g vs w s k (fun e => hne (by rw [e]))⟩

/-! ### The cache -/
abbrev CM := List (Bytes × EM)
/-- The cache behind a pointer to block b, its map in block bm; its texts in blocks of B. -/
structure CacheAt (W : World) (B : Nat → Prop) (b bm : Nat) (most : Int) (l : CM) : Prop where
  obj : W.heap[b]? = some (.cells #[.int .i64 most, .map (some bm)] 67 (0, 0))
  map : MapAt W bm str evp l
  key : ∀ q ∈ l, q.2.1.dom = q.1
  mxs : ∀ q ∈ l, MxAt W B q.2.2 q.2.1.mx
theorem CacheAt.cells {W : World} {B : Nat → Prop} {b bm : Nat} {most : Int} {l : CM} (h : CacheAt W B b bm most l) : W.cell? ⟨b, 0, none⟩ = some (.int .i64 most) ∧ W.cell? ⟨b, 1, none⟩ = some (.map (some bm)) := by
  constructor <;> simp [World.cell?, h.obj]
theorem CacheAt.lt {W : World} {B : Nat → Prop} {b bm : Nat} {most : Int} {l : CM} (h : CacheAt W B b bm most l) : b < W.heap.size := (Array.getElem?_eq_some_iff.1 h.obj).1
theorem CacheAt.below {W W' : World} {B : Nat → Prop} {b bm : Nat} {most : Int} {l : CM} (h : CacheAt W B b bm most l) (hb : Below W.heap.size W W') : CacheAt W' B b bm most l :=
  ⟨(hb.block b h.lt).trans h.obj, h.map.below hb h.map.lt, h.key, fun q hq => (h.mxs q hq).below hb⟩
/-- Another map's block turns. -/
theorem CacheAt.grown {W W' : World} {B : Nat → Prop} {b bm : Nat} {most : Int} {l : CM} (h : CacheAt W B b bm most l) {row : Option Nat} (hg : W.grownBy W' row) (hr : ∀ k, row = some k → k ≠ bm ∧ ∃ o, W.heap[k]? = some o ∧ o.isCells = false) : CacheAt W' B b bm most l :=
  ⟨(hg.block b h.lt (fun e => by
      obtain ⟨_, o, ho, hc⟩ := hr b e.symm
      rw [h.obj] at ho; cases ho; cases hc)).trans h.obj,
   h.map.of_block (hg.block bm h.map.lt (fun e => (hr bm e.symm).1 rfl)), h.key, fun q hq => (h.mxs q hq).grown hg (fun k e => (hr k e).2)⟩
theorem CacheAt.isMap {W : World} {B : Nat → Prop} {b bm : Nat} {most : Int} {l : CM} (h : CacheAt W B b bm most l) : ∃ o, W.heap[bm]? = some o ∧ o.isCells = false := by
  obtain ⟨es, c, hb, _⟩ := h.map
  exact ⟨_, hb, rfl⟩
/-- The entries, ascending. -/
structure Ents (l : CM) (L : List PE) : Prop where
  asc : AscE L
  mem : ∀ p, p ∈ L ↔ p ∈ l.map (·.2.1)
def CacheIs (W : World) (B : Nat → Prop) (b bm : Nat) (most : Int) (L : List PE) : Prop := ∃ l, CacheAt W B b bm most l ∧ Ents l L
theorem infoE : (Try.prog.info? 27).map (fun i => (i.zero, i.size, i.bytes)) = some (some (.agg #[.string ⟨#[]⟩, .string ⟨#[]⟩, .int .u8 0, .slice none 0 0, .int .i64 0, .int .i64 0]), 6, 80) := by kernel_rfl
end Go.Proofs.Ytojhledbfaninaa
