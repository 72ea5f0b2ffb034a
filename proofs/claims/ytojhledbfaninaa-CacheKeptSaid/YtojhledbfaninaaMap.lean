/- Maps by their entries: a look-up, a store, a delete, clear, len, a copy and a range, each told over the list of the map's entries. -/
import Derived.Laws.StructEq
import Derived.WideKeyRuns
import Derived.MapKept
import Derived.RangeFuncNested
import Derived.Laws.IdiomRangeMap
import Derived.Maps.RangeRun
import Derived.Deep.Draws
import Derived.WalkKit
namespace Go.Proofs.Ytojhledbfaninaa
open Go Go.RowKit
theorem nodup_inj {α : Type} : ∀ {l : List α}, l.Nodup → ∀ {i j : Nat} (hi : i < l.length) (hj : j < l.length), l[i] = l[j] → i = j
  | [], _, _, _, hi, _, _ => by simp at hi
  | a :: l, hn, i, j, hi, hj, e => by
    rw [List.nodup_cons] at hn
    match i, j with
    | 0, 0 => rfl
    | 0, j + 1 => simp at e hj; exact absurd (e ▸ List.getElem_mem hj) hn.1
    | i + 1, 0 => simp at e hi; exact absurd (e ▸ List.getElem_mem hi) hn.1
    | i + 1, j + 1 => simp at e hi hj; have := nodup_inj hn.2 hi hj e; omega
theorem perm_of_sub {α : Type} [DecidableEq α] : ∀ {l m : List α}, l.Nodup → (∀ x ∈ l, x ∈ m) → m.length ≤ l.length → l.Perm m
  | [], m, _, _, h => by simp at h; subst h; exact .refl _
  | a :: l, m, hn, hs, h => by
    rw [List.nodup_cons] at hn
    have ha := hs a (by simp)
    have h1 := List.perm_cons_erase ha
    refine List.Perm.trans (.cons a (perm_of_sub (m := m.erase a) hn.2 (fun x hx => ?_) ?_)) h1.symm
    · exact (List.mem_erase_of_ne (fun e => hn.1 (by rw [← e]; exact hx))).2 (hs x (by simp [hx]))
    · rw [List.length_erase_of_mem ha]; simp at h; omega
theorem sub_len {α : Type} [DecidableEq α] : ∀ {l m : List α}, l.Nodup → (∀ x ∈ l, x ∈ m) → l.length ≤ m.length
  | [], _, _, _ => by simp
  | a :: l, m, hn, hs => by
    rw [List.nodup_cons] at hn
    have ha := hs a (by simp)
    have := sub_len (m := m.erase a) hn.2 (fun x hx => (List.mem_erase_of_ne (fun e => hn.1 (by rw [← e]; exact hx))).2 (hs x (by simp [hx])))
    rw [List.length_erase_of_mem ha] at this
    have := List.length_pos_of_mem ha
    simp; omega
theorem map_eraseIdx' {α β : Type} (f : α → β) (l : List α) (i : Nat) : (l.eraseIdx i).map f = (l.map f).eraseIdx i := by
  simp [List.eraseIdx_eq_take_drop_succ, List.map_take, List.map_drop]
section plain
variable {K V : Type} [DecidableEq K]
def look (l : List (K × V)) (k : K) : Option V := (l.find? fun p => decide (p.1 = k)).map (·.2)
def has (l : List (K × V)) (k : K) : Bool := l.any fun p => decide (p.1 = k)
def put (l : List (K × V)) (k : K) (v : V) : List (K × V) := if has l k then l.map (fun p => if p.1 = k then (k, v) else p) else l ++ [(k, v)]
def drop (l : List (K × V)) (k : K) : List (K × V) := l.filter fun p => decide (p.1 ≠ k)
theorem look_none {l : List (K × V)} {k : K} : look l k = none ↔ has l k = false := by
  simp [look, has]
theorem has_mem {l : List (K × V)} {k : K} : has l k = true ↔ k ∈ l.map (·.1) := by
  simp [has]
theorem look_mem {l : List (K × V)} {k : K} {v : V} (h : look l k = some v) : (k, v) ∈ l := by
  unfold look at h
  cases hf : l.find? (fun p => decide (p.1 = k)) with
  | none => rw [hf] at h; cases h
  | some p =>
    rw [hf] at h
    have h1 := List.find?_some hf
    have h2 := List.mem_of_find?_eq_some hf
    simp at h1 h
    obtain ⟨a, b⟩ := p
    simp at h1 h; subst h1; subst h; exact h2
theorem look_of_mem {l : List (K × V)} (hn : (l.map (·.1)).Nodup) {k : K} {v : V} (h : (k, v) ∈ l) : look l k = some v := by
  induction l with
  | nil => cases h
  | cons p l ih =>
    simp only [List.map_cons, List.nodup_cons] at hn
    rcases List.mem_cons.1 h with rfl | h
    · simp [look]
    · have : ¬ p.1 = k := fun e => hn.1 (by rw [e]; exact List.mem_map.2 ⟨(k, v), h, rfl⟩)
      have := ih hn.2 h
      unfold look at this ⊢
      rw [List.find?_cons_of_neg (by simpa using ‹¬ p.1 = k›)]
      exact this
theorem keys_put (l : List (K × V)) (k : K) (v : V) : (put l k v).map (·.1) = if has l k then l.map (·.1) else l.map (·.1) ++ [k] := by
  unfold put
  split
  · rw [List.map_map]
    apply List.map_congr_left
    intro p _
    simp only [Function.comp]
    split <;> simp_all
  · simp
theorem nodup_put {l : List (K × V)} (hn : (l.map (·.1)).Nodup) (k : K) (v : V) : ((put l k v).map (·.1)).Nodup := by
  rw [keys_put]
  split
  · exact hn
  · rename_i h
    rw [List.nodup_append]
    refine ⟨hn, by simp, ?_⟩
    intro a ha b hb
    simp at hb; subst hb
    intro e; subst e
    exact h (has_mem.2 ha)
theorem nodup_drop {l : List (K × V)} (hn : (l.map (·.1)).Nodup) (k : K) : ((drop l k).map (·.1)).Nodup :=
  hn.sublist ((List.filter_sublist (l := l)).map _)
end plain

section
variable {K V : Type} {P : Program} {kt : TypeId}
structure EsR (ek : K → Value) (ev : V → Value) (es : Array MapEntry) (clock : Nat) (l : List (K × V)) : Prop where
  keys : es.toList.map (·.key) = l.map fun p => ek p.1
  vals : es.toList.map (·.val) = l.map fun p => ev p.2
  born : (es.toList.map (·.born)).Nodup
  lt : ∀ e ∈ es.toList, e.born < clock
  nodup : (l.map (·.1)).Nodup
def MapAt (w : World) (b : Nat) (ek : K → Value) (ev : V → Value) (l : List (K × V)) : Prop :=
  ∃ es clock, w.heap[b]? = some (.map es clock) ∧ EsR ek ev es clock l

variable {w w' : World} {b : Nat} {ek : K → Value} {ev : V → Value} {l : List (K × V)} {es : Array MapEntry} {clock : Nat}
theorem EsR.len (h : EsR ek ev es clock l) : es.size = l.length := by
  have := congrArg List.length h.keys; simpa using this
theorem MapAt.lt (h : MapAt w b ek ev l) : b < w.heap.size := by
  obtain ⟨es, c, hb, _⟩ := h; exact (Array.getElem?_eq_some_iff.1 hb).1
theorem MapAt.of_block (h : MapAt w b ek ev l) (e : w'.heap[b]? = w.heap[b]?) : MapAt w' b ek ev l := by
  obtain ⟨es, c, hb, hr⟩ := h; exact ⟨es, c, e.trans hb, hr⟩
theorem MapAt.below {n₀ : Nat} (h : MapAt w b ek ev l) (hb : Below n₀ w w') (hlt : b < n₀) : MapAt w' b ek ev l := h.of_block (hb.block b hlt)
theorem MapAt.nodup (h : MapAt w b ek ev l) : (l.map (·.1)).Nodup := by obtain ⟨_, _, _, hr⟩ := h; exact hr.nodup
theorem EsR.nil : EsR ek ev #[] clock ([] : List (K × V)) := ⟨rfl, rfl, by simp, by simp, by simp⟩
theorem EsR.get (h : EsR ek ev es clock l) {i : Nat} (hi : i < l.length) : ∃ e, es[i]? = some e ∧ e.key = ek l[i].1 ∧ e.val = ev l[i].2 := by
  have hl := h.len
  refine ⟨es[i]'(by omega), Array.getElem?_eq_getElem (by omega), ?_, ?_⟩
  · have := congrArg (·[i]?) h.keys
    simpa [List.getElem?_eq_getElem, hi, hl] using this
  · have := congrArg (·[i]?) h.vals
    simpa [List.getElem?_eq_getElem, hi, hl] using this

theorem run_clear_at {t et ty : TypeId} (ht : P.underlying t = some (.map kt et)) (h : MapAt w b ek ev l) (ats : Array TypeId) (ha : ats[0]? = some t) :
    ∃ o : Obj, (Builtin.clear_ ats ty #[.map (some b)]).run P w = .ok (.tuple #[]) (w.putObj b o) ∧ MapAt (w.putObj b o) b ek ev ([] : List (K × V)) := by
  have hlt := h.lt
  obtain ⟨es, c, hb, hr⟩ := h
  refine ⟨.map #[] c, ?_, ⟨_, _, World.putObj_heap_same hlt, EsR.nil⟩⟩
  simp [Builtin.clear_, ha, run_underlying ht, MapKept.run_getObj_map hb, MapKept.run_setObj_map _ hb, World.putObj]
theorem run_len_at {t et ty : TypeId} (ht : P.underlying t = some (.map kt et)) (h : MapAt w b ek ev l) (ats : Array TypeId) (ha : ats[0]? = some t) :
    (Builtin.len_ ats ty #[.map (some b)]).run P w = .ok (.int .i64 (l.length : Int)) w := by
  obtain ⟨es, c, hb, hr⟩ := h
  simp [Builtin.len_, ha, run_underlying ht, MapKept.run_getObj_map hb, goInt, hr.len]
theorem run_clone_at (h : MapAt w b ek ev l) (t : TypeId) :
    ∃ o : Obj, (Extern.MapsClone.clone #[.iface t (.map (some b))]).run P w = .ok (.iface t (.map (some w.heap.size))) (w.alloc o) ∧ MapAt (w.alloc o) w.heap.size ek ev l := by
  obtain ⟨es, c, hb, hr⟩ := h
  refine ⟨.map es c, ?_, ⟨_, _, World.alloc_heap_new w _, hr⟩⟩
  show Sem.run P (bind (getObj b) _) w = _
  rw [Sem.run_bind, MapKept.run_getObj_map hb]
  rfl

/-- A range over the map under way: block r is its iterator; the entries at the places idx have come, in that order. -/
def ItAt (w : World) (r b : Nat) (ek : K → Value) (ev : V → Value) (l : List (K × V)) (idx : List Nat) : Prop :=
  ∃ es clock seen, w.heap[b]? = some (.map es clock) ∧ EsR ek ev es clock l ∧ w.heap[r]? = some (.mapIter (some b) clock seen clock) ∧
    idx.Nodup ∧ (∀ i ∈ idx, i < l.length) ∧ seen.toList = idx.map fun i => ((es[i]?).map (·.born)).getD 0
theorem run_range_at {t et : TypeId} (ht : P.underlying t = some (.map kt et)) (h : MapAt w b ek ev l) :
    ∃ o : Obj, (Instr.range t (.map (some b))).run P w = .ok (.pointer (some ⟨w.heap.size, 0, none⟩)) (w.alloc o) ∧ o.isWalk = true ∧ ItAt (w.alloc o) w.heap.size b ek ev l [] := by
  have hlt := h.lt
  obtain ⟨es, c, hb, hr⟩ := h
  refine ⟨_, run_range_map w t kt et b es c ht hb, rfl, es, c, #[], ?_, hr, World.alloc_heap_new w _, by simp, by simp, rfl⟩
  exact (Below.heap_alloc w _ b hlt).trans hb
theorem ItAt.of_blocks {r : Nat} {idx : List Nat} (h : ItAt w r b ek ev l idx) (e1 : w'.heap[b]? = w.heap[b]?) (e2 : w'.heap[r]? = w.heap[r]?) : ItAt w' r b ek ev l idx := by
  obtain ⟨es, c, seen, hb, hr, hi, h1, h2, h3⟩ := h
  exact ⟨es, c, seen, e1.trans hb, hr, e2.trans hi, h1, h2, h3⟩
theorem born_inj (h : EsR ek ev es clock l) {i j : Nat} (hi : i < l.length) (hj : j < l.length) (e : ((es[i]?).map (·.born)).getD 0 = ((es[j]?).map (·.born)).getD 0) : i = j := by
  have hl := h.len
  have h1 : (es.toList.map (·.born))[i]'(by simp; omega) = (es.toList.map (·.born))[j]'(by simp; omega) := by
    simpa [Array.getElem?_eq_getElem, hl, hi, hj] using e
  exact nodup_inj h.born _ _ h1
theorem run_entry_it {r : Nat} {idx : List Nat} {i : Nat} (hi : i < l.length) (h : ItAt w r b ek ev l (idx ++ [i])) :
    (Instr.entry (.pointer (some ⟨r, 0, none⟩))).run P w = .ok (.tuple #[ek l[i].1, ev l[i].2]) w := by
  obtain ⟨es, c, seen, hb, hr, hit, hnd, hlt, hseen⟩ := h
  have hl := hr.len
  have hi' : i < es.size := by omega
  obtain ⟨e, he, hek, hev⟩ := hr.get hi
  have he' : es[i] = e := by rw [Array.getElem?_eq_getElem hi'] at he; exact Option.some.inj he
  have hs : seen = (seen.pop).push es[i].born := by
    have h1 : seen.toList = (idx.map fun i => ((es[i]?).map (·.born)).getD 0) ++ [es[i].born] := by rw [hseen]; simp [hi']
    apply Array.toList_inj.1
    rw [Array.toList_push, Array.toList_pop, h1]; simp
  rw [hs] at hit
  have hm : es[i] ∈ es.toList := by simp
  rw [run_entry_at (P := P) w r b c seen.pop es c es[i] hit hb hm hr.born, he', hek, hev]
/-- How many entries the iterator has handed out. -/
def itSeen (w : World) (r : Nat) : Nat := match w.heap[r]? with | some (.mapIter _ _ seen _) => seen.size | _ => 0
theorem itSeen_eq {r : Nat} {idx : List Nat} (h : ItAt w r b ek ev l idx) : itSeen w r = idx.length := by
  obtain ⟨es, c, seen, hb, hr, hit, hnd, hlt, hseen⟩ := h
  have := congrArg List.length hseen
  unfold itSeen; rw [hit]; simpa using this
theorem it_len {r : Nat} {idx : List Nat} (h : ItAt w r b ek ev l idx) : idx.length ≤ l.length := by
  obtain ⟨es, c, seen, hb, hr, hit, hnd, hlt, hseen⟩ := h
  have := sub_len hnd (m := List.range l.length) (fun i hi => by simpa using hlt i hi)
  simpa using this
theorem it_perm {r : Nat} {idx : List Nat} (h : ItAt w r b ek ev l idx) (e : idx.length = l.length) : idx.Perm (List.range l.length) := by
  obtain ⟨es, c, seen, hb, hr, hit, hnd, hlt, hseen⟩ := h
  exact perm_of_sub hnd (fun i hi => by simpa using hlt i hi) (by simp [e])
theorem run_next_step {r : Nat} {idx : List Nat} (h : ItAt w r b ek ev l idx) (hne : r ≠ b) (ty : TypeId) :
    (idx.length = l.length ∧ (Instr.next (.pointer (some ⟨r, 0, none⟩)) false ty).run P w = .ok (.tuple #[.bool false]) w) ∨
    ∃ (i : Nat) (hi : i < l.length) (q : Nat) (o : Obj), i ∉ idx ∧ (Instr.next (.pointer (some ⟨r, 0, none⟩)) false ty).run P w = .ok (.tuple #[.bool true, ek l[i].1, ev l[i].2]) ((w.drewN q).putObj r o) ∧
      ItAt ((w.drewN q).putObj r o) r b ek ev l (idx ++ [i]) := by
  obtain ⟨es, c, seen, hb, hr, hit, hnd, hlt, hseen⟩ := h
  have hl := hr.len
  have hrl : r < w.heap.size := (Array.getElem?_eq_some_iff.1 hit).1
  rcases run_next_at (P := P) w ty r b c c seen es c hit hb hr.lt (Nat.le_refl _) with ⟨h0, hrun⟩ | ⟨e, he, w1, hw1, hrun⟩
  · left
    refine ⟨?_, hrun⟩
    -- every place has been seen
    have hall : ∀ i, i < l.length → i ∈ idx := fun i hi => by
      have hi' : i < es.size := by omega
      have : es[i] ∉ (leftOf es seen).toList := by
        have : leftOf es seen = #[] := Array.eq_empty_of_size_eq_zero h0
        rw [this]; simp
      unfold leftOf at this
      simp only [Array.toList_filter, List.mem_filter, Array.getElem_mem_toList, true_and] at this
      have hs : es[i].born ∈ seen.toList := by simpa using this
      rw [hseen] at hs
      obtain ⟨j, hj, hej⟩ := List.mem_map.1 hs
      have := born_inj hr (hlt j hj) hi (by rw [hej]; simp [hi'])
      rwa [← this]
    have h1 : (List.range l.length) ⊆ idx := fun i hi => hall i (by simpa using hi)
    have h2 : idx ⊆ List.range l.length := fun i hi => by simpa using hlt i hi
    have h3 := sub_len hnd h2
    have h4 := sub_len List.nodup_range h1
    simp at h3 h4; omega
  · right
    have hem : e ∈ es.toList ∧ e.born ∉ seen.toList := by
      unfold leftOf at he
      simpa [List.mem_filter] using he
    obtain ⟨i, hi, hei⟩ := List.getElem_of_mem hem.1
    simp at hi hei
    have hil : i < l.length := by omega
    obtain ⟨e', he', hek, hev⟩ := hr.get hil
    have : e' = e := by
      rw [Array.getElem?_eq_getElem hi, hei] at he'
      exact (Option.some.inj he').symm
    subst this
    have hq : ∃ q, w1 = w.drewN q := by
      rcases hw1 with rfl | rfl
      · exact ⟨0, rfl⟩
      · exact ⟨1, rfl⟩
    obtain ⟨q, rfl⟩ := hq
    refine ⟨i, hil, q, .mapIter (some b) c (seen.push e'.born) c, ?_, ?_, ?_⟩
    · intro hin
      apply hem.2
      rw [hseen]
      exact List.mem_map.2 ⟨i, hin, by rw [Array.getElem?_eq_getElem hi, hei]; rfl⟩
    · rw [hrun, hek, hev]; rfl
    · refine ⟨es, c, seen.push e'.born, ?_, hr, World.putObj_heap_same hrl, ?_, ?_, ?_⟩
      · exact (World.putObj_heap_other (fun e => hne e.symm)).trans hb
      · rw [List.nodup_append]
        refine ⟨hnd, by simp, ?_⟩
        intro a ha x hx
        simp at hx; subst hx
        intro e; subst e
        apply hem.2
        rw [hseen]
        exact List.mem_map.2 ⟨a, ha, by rw [Array.getElem?_eq_getElem hi, hei]; rfl⟩
      · intro j hj
        simp at hj
        rcases hj with hj | rfl
        · exact hlt j hj
        · exact hil
      · simp [hseen, Array.getElem?_eq_getElem hi, hei]
end

section
variable {K V : Type} [DecidableEq K] {P : Program}
/-- What the model does with a key of this type. -/
structure KLaw (P : Program) (kt : TypeId) (enc : K → Value) : Prop where
  chk : ∀ e k w, (Instr.checkKey e 10000 kt (enc k)).run P w = .ok () w
  find : ∀ (k : K) (es : List MapEntry) (l : List K) w, es.map (·.key) = l.map enc → (Instr.findKey kt (enc k) es).run P w = .ok ((l.findIdx? fun x => decide (x = k)).bind fun i => (es[i]?).map fun e => (i, e.val)) w
  same : ∀ k, Instr.sameBits 10000 (enc k) (enc k) = true

variable {w w' : World} {b : Nat} {ek : K → Value} {ev : V → Value} {l : List (K × V)} {es : Array MapEntry} {clock : Nat} {kt : TypeId}
theorem findIdx_look (l : List (K × V)) (k : K) : ((l.map (·.1)).findIdx? fun x => decide (x = k)) = l.findIdx? fun p => decide (p.1 = k) := by
  rw [List.findIdx?_map]; rfl
theorem find_of (law : KLaw P kt ek) (h : EsR ek ev es clock l) (k : K) (w : World) :
    (has l k = false ∧ (Instr.findKey kt (ek k) es.toList).run P w = .ok none w) ∨
    (∃ i v, ∃ hi : i < l.length, l[i].1 = k ∧ look l k = some v ∧ l[i].2 = v ∧ (Instr.findKey kt (ek k) es.toList).run P w = .ok (some (i, ev v)) w) := by
  have hf := law.find k es.toList (l.map (·.1)) w (by rw [h.keys, List.map_map]; rfl)
  rw [findIdx_look] at hf
  cases hx : l.findIdx? (fun p => decide (p.1 = k)) with
  | none =>
    left
    rw [hx] at hf
    refine ⟨?_, hf⟩
    rw [List.findIdx?_eq_none_iff] at hx
    simp only [has, List.any_eq_false]
    intro p hp; simpa using hx p hp
  | some i =>
    right
    rw [hx] at hf
    obtain ⟨hi, hp, hlt⟩ := List.findIdx?_eq_some_iff_getElem.1 hx
    obtain ⟨e, he, hek, hev⟩ := h.get hi
    refine ⟨i, l[i].2, hi, by simpa using hp, ?_, rfl, ?_⟩
    · have hk : l[i].1 = k := by simpa using hp
      exact look_of_mem h.nodup (by rw [← hk]; exact List.getElem_mem hi)
    · rw [hf]; simp only [Option.bind_some, Array.getElem?_toList, he, Option.map_some, hev]

theorem run_lookup_at {t et : TypeId} {z : Value} (law : KLaw P kt ek) (ht : P.underlying t = some (.map kt et)) (hz : ∀ w, (zeroValue et).run P w = .ok z w) (h : MapAt w b ek ev l) (k : K) :
    (Instr.lookup t (.map (some b)) (ek k) false).run P w = .ok (((look l k).map ev).getD z) w ∧
    (Instr.lookup t (.map (some b)) (ek k) true).run P w = .ok (.tuple #[((look l k).map ev).getD z, .bool (has l k)]) w := by
  obtain ⟨es, c, hb, hr⟩ := h
  rcases find_of law hr k w with ⟨hn, hf⟩ | ⟨i, v, hi, _, hv, _, hf⟩
  · have hn' := look_none.2 hn
    constructor <;> simp [Instr.lookup, run_underlying ht, MapKept.run_getObj_map hb, law.chk, hf, hz w, hn, hn']
  · have hh : has l k = true := by
      cases e : has l k
      · rw [look_none.2 e] at hv; cases hv
      · rfl
    constructor <;> simp [Instr.lookup, run_underlying ht, MapKept.run_getObj_map hb, law.chk, hf, hv, hh]

theorem EsR.push (h : EsR ek ev es clock l) {k : K} {v : V} (hn : has l k = false) : EsR ek ev (es.push { key := ek k, val := ev v, born := clock }) (clock + 1) (put l k v) := by
  have hp : put l k v = l ++ [(k, v)] := by simp [put, hn]
  rw [hp]
  refine ⟨by simp [h.keys], by simp [h.vals], ?_, ?_, by have := nodup_put h.nodup k v; rwa [hp] at this⟩
  · simp only [Array.toList_push, List.map_append, List.map_cons, List.map_nil]
    rw [List.nodup_append]
    refine ⟨h.born, by simp, ?_⟩
    intro a ha b hb
    simp at hb; subst hb
    obtain ⟨e, he, rfl⟩ := List.mem_map.1 ha
    have := h.lt e he
    omega
  · intro e he
    simp only [Array.toList_push, List.mem_append, List.mem_singleton] at he
    rcases he with he | rfl
    · have := h.lt e he; omega
    · simp
theorem EsR.modify (h : EsR ek ev es clock l) {k : K} {v : V} {i : Nat} (hi : i < l.length) (hk : l[i].1 = k) :
    EsR ek ev (es.modify i fun e => { e with key := ek k, val := ev v }) clock (put l k v) := by
  have hl := h.len
  have hh : has l k = true := has_mem.2 (by rw [← hk]; exact List.mem_map.2 ⟨_, List.getElem_mem hi, rfl⟩)
  have hp : put l k v = l.map (fun p => if p.1 = k then (k, v) else p) := by simp [put, hh]
  have huniq : ∀ j (hj : j < l.length), l[j].1 = k → j = i := fun j hj e => by
    exact nodup_inj h.nodup (by simpa using hj) (by simpa using hi) (by simp [e, hk])
  have hm : ∀ (f : MapEntry → Value) (g : K × V → Value), es.toList.map f = l.map g → (∀ e : MapEntry, f { e with key := ek k, val := ev v } = g (k, v)) →
      (es.modify i fun e => { e with key := ek k, val := ev v }).toList.map f = (put l k v).map g := fun f g hfg hg => by
    apply List.ext_getElem
    · simp [hp, hl]
    · intro j h1 h2
      simp at h1 h2
      have h3 : (put l k v).map g = (l.map (fun p => if p.1 = k then (k, v) else p)).map g := by rw [hp]
      simp only [h3, List.getElem_map, Array.getElem_toList, Array.getElem_modify]
      have hjl : j < l.length := by omega
      by_cases hji : i = j
      · subst hji
        simp [hk, hg]
      · have hne : ¬ l[j].1 = k := fun e => hji (huniq j hjl e).symm
        have := congrArg (·[j]?) hfg
        simp [hjl, h1] at this
        simp [hji, hne, this]
  have hb : (es.modify i fun e => { e with key := ek k, val := ev v }).toList.map (·.born) = es.toList.map (·.born) := by
    apply List.ext_getElem
    · simp
    · intro j h1 h2
      simp only [List.getElem_map, Array.getElem_toList, Array.getElem_modify]
      split <;> rfl
  refine ⟨hm _ _ h.keys (fun _ => rfl), hm _ _ h.vals (fun _ => rfl), by rw [hb]; exact h.born, ?_, nodup_put h.nodup k v⟩
  intro e he
  have : e.born ∈ (es.modify i fun e => { e with key := ek k, val := ev v }).toList.map (·.born) := List.mem_map.2 ⟨e, he, rfl⟩
  rw [hb] at this
  obtain ⟨e', he', hbe⟩ := List.mem_map.1 this
  rw [← hbe]; exact h.lt e' he'
theorem EsR.erase (h : EsR ek ev es clock l) {k : K} {i : Nat} (hi : i < l.length) (hk : l[i].1 = k) : EsR ek ev (es.eraseIdxIfInBounds i) clock (drop l k) := by
  have hl := h.len
  have he : es.eraseIdxIfInBounds i = es.eraseIdx i (by omega) := by unfold Array.eraseIdxIfInBounds; rw [dif_pos]
  have hd : drop l k = l.eraseIdx i := by
    have huniq : ∀ j (hj : j < l.length), l[j].1 = k → j = i := fun j hj e => by
      exact nodup_inj h.nodup (by simpa using hj) (by simpa using hi) (by simp [e, hk])
    have h0 : ∀ p ∈ l.take i, p.1 ≠ k := fun p hp e => by
      obtain ⟨j, hj, hpj⟩ := List.getElem_of_mem hp
      simp at hj hpj
      have := huniq j (by omega) (by rw [hpj]; exact e)
      omega
    have h1 : ∀ p ∈ l.drop (i + 1), p.1 ≠ k := fun p hp e => by
      obtain ⟨j, hj, hpj⟩ := List.getElem_of_mem hp
      simp at hj hpj
      have := huniq (i + 1 + j) (by omega) (by rw [hpj]; exact e)
      omega
    rw [List.eraseIdx_eq_take_drop_succ]
    conv => lhs; rw [← List.take_append_drop i l, List.drop_eq_getElem_cons hi]
    unfold drop
    rw [List.filter_append, List.filter_cons_of_neg (by simp [hk]), List.filter_eq_self.2 (fun p hp => by simpa using h0 p hp), List.filter_eq_self.2 (fun p hp => by simpa using h1 p hp)]
  rw [he, hd]
  refine ⟨?_, ?_, ?_, ?_, ?_⟩
  · rw [Array.toList_eraseIdx, map_eraseIdx', map_eraseIdx', h.keys]
  · rw [Array.toList_eraseIdx, map_eraseIdx', map_eraseIdx', h.vals]
  · rw [Array.toList_eraseIdx]; exact h.born.sublist ((List.eraseIdx_sublist _ _).map _)
  · intro e hm; rw [Array.toList_eraseIdx] at hm; exact h.lt e ((List.eraseIdx_sublist _ _).subset hm)
  · exact h.nodup.sublist ((List.eraseIdx_sublist _ _).map _)

/-- What a store, a delete, clear leaves: the map's block alone has turned. -/
theorem run_update_at {t et : TypeId} (law : KLaw P kt ek) (ht : P.underlying t = some (.map kt et)) (h : MapAt w b ek ev l) (k : K) (v : V) :
    ∃ o : Obj, (Instr.mapUpdate t (.map (some b)) (ek k) (ev v)).run P w = .ok () (w.putObj b o) ∧ MapAt (w.putObj b o) b ek ev (put l k v) := by
  have hlt := h.lt
  obtain ⟨es, c, hb, hr⟩ := h
  rcases find_of law hr k w with ⟨hn, hf⟩ | ⟨i, v0, hi, hk, _, _, hf⟩
  · refine ⟨.map (es.push { key := ek k, val := ev v, born := c }) (c + 1), ?_, ?_⟩
    · simp [Instr.mapUpdate, run_underlying ht, MapKept.run_getObj_map hb, law.chk, hf, MapKept.run_setObj_map _ hb, World.putObj]
    · exact ⟨_, _, World.putObj_heap_same hlt, hr.push hn⟩
  · refine ⟨.map (es.modify i fun e => { e with key := ek k, val := ev v }) c, ?_, ?_⟩
    · obtain ⟨e, he, hek, _⟩ := hr.get hi
      rw [hk] at hek
      have hst : (Instr.keyThatStays (ek k) (ek k)).run P w = .ok (ek k) w := by simp [Instr.keyThatStays, law.same]
      simp [Instr.mapUpdate, run_underlying ht, MapKept.run_getObj_map hb, law.chk, hf, MapKept.run_setObj_map _ hb, World.putObj, he, hek, hst]
    · exact ⟨_, _, World.putObj_heap_same hlt, hr.modify hi hk⟩
theorem run_delete_at {t et ty : TypeId} (law : KLaw P kt ek) (ht : P.underlying t = some (.map kt et)) (h : MapAt w b ek ev l) (k : K) (ats : Array TypeId) (ha : ats[0]? = some t) :
    ∃ o : Obj, (Builtin.delete_ ats ty #[.map (some b), ek k]).run P w = .ok (.tuple #[]) (w.putObj b o) ∧ MapAt (w.putObj b o) b ek ev (drop l k) := by
  have hlt := h.lt
  obtain ⟨es, c, hb, hr⟩ := h
  rcases find_of law hr k w with ⟨hn, hf⟩ | ⟨i, v0, hi, hk, _, _, hf⟩
  · refine ⟨.map es c, ?_, ?_⟩
    · simp [Builtin.delete_, ha, run_underlying ht, MapKept.run_getObj_map hb, law.chk, hf, MapKept.run_setObj_map _ hb, World.putObj]
    · have : drop l k = l := by
        unfold drop; rw [List.filter_eq_self]
        intro p hp
        simp only [has, List.any_eq_false] at hn
        simpa using hn p hp
      rw [this]
      exact ⟨_, _, World.putObj_heap_same hlt, hr⟩
  · refine ⟨.map (es.eraseIdxIfInBounds i) c, ?_, ?_⟩
    · simp [Builtin.delete_, ha, run_underlying ht, MapKept.run_getObj_map hb, law.chk, hf, MapKept.run_setObj_map _ hb, World.putObj]
    · exact ⟨_, _, World.putObj_heap_same hlt, hr.erase hi hk⟩

end
/-- A halt for the walk: it does not look inside. -/
structure Bx (p : Prop) : Prop where
  h : p
/-! The laws of the walk: an operation whose run is known. -/
section
variable {P : Program} {ops : Array Oper} {Q : Exit → Act → World → Prop} {a : Act} {w w' : World} {rest : List Oper} {dst : Option Tmp} {ty : TypeId} {pos : String} {after : Array Edge} {v : Value}
theorem wpL_value {o : Oper} (hg : o.guard = none) (hrun : (execOp a.eval o).run P w = .ok (.value v) w') (hk : wpList P ops Q rest (a.put o.dst v) w') : wpList P ops Q (o :: rest) a w := by
  unfold wpList
  have hw : Region.wanted o (yielded ops a.tmps) = true := by simp [Region.wanted, hg]
  rw [if_pos hw]
  refine .inl ?_
  show o.upon P a _ Q _
  rw [hrun]; exact hk
theorem wpL_skip {o : Oper} (hg : o.guard = none) (hrun : (execOp a.eval o).run P w = .ok .skip w') (hk : wpList P ops Q rest (a.put o.dst undef) w') : wpList P ops Q (o :: rest) a w := by
  unfold wpList
  have hw : Region.wanted o (yielded ops a.tmps) = true := by simp [Region.wanted, hg]
  rw [if_pos hw]
  refine .inl ?_
  show o.upon P a _ Q _
  rw [hrun]; exact hk
theorem wpL_lookup {t : TypeId} {x ix : Operand} {ok : Bool} {xv iv : Value} (hx : a.eval x = xv) (hi : a.eval ix = iv) (hrun : (Instr.lookup t xv iv ok).run P w = .ok v w')
    (hk : wpList P ops Q rest (a.put dst v) w') : wpList P ops Q (⟨dst, .lookup t x ix ok, ty, pos, after, none⟩ :: rest) a w :=
  wpL_value rfl (by simp [execOp, hx, hi, hrun]) hk
theorem wpL_mapUpdate {t : TypeId} {m k x : Operand} {mv kv xv : Value} (hm : a.eval m = mv) (hk' : a.eval k = kv) (hx : a.eval x = xv) (hrun : (Instr.mapUpdate t mv kv xv).run P w = .ok () w')
    (hk : wpList P ops Q rest (a.put dst undef) w') : wpList P ops Q (⟨dst, .mapUpdate t m k x, ty, pos, after, none⟩ :: rest) a w :=
  wpL_skip rfl (by simp [execOp, hm, hk', hx, hrun]) hk
theorem wpL_range {t : TypeId} {x : Operand} {xv : Value} (hx : a.eval x = xv) (hrun : (Instr.range t xv).run P w = .ok v w')
    (hk : wpList P ops Q rest (a.put dst v) w') : wpList P ops Q (⟨dst, .range t x, ty, pos, after, none⟩ :: rest) a w :=
  wpL_value rfl (by simp [execOp, hx, hrun]) hk
theorem wpL_next {x : Operand} {xv : Value} {s : Bool} (hx : a.eval x = xv) (hrun : (Instr.next xv s ty).run P w = .ok v w')
    (hk : wpList P ops Q rest (a.put dst v) w') : wpList P ops Q (⟨dst, .next x s, ty, pos, after, none⟩ :: rest) a w :=
  wpL_value rfl (by simp [execOp, hx, hrun]) hk
end
end Go.Proofs.Ytojhledbfaninaa
