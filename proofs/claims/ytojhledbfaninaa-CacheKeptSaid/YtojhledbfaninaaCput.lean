/- What a store, a delete in the map is to the entries. -/
import Derived.Test.YtojhledbfaninaaCmin
namespace Go.Proofs.Ytojhledbfaninaa
open Go Go.RowKit Go.Shelf Go.Sort

theorem mem_put {l : CM} {k : Bytes} {v : EM} {q : Bytes × EM} : q ∈ put l k v ↔ q = (k, v) ∨ (q ∈ l ∧ q.1 ≠ k) := by
  unfold put
  by_cases h : has l k = true
  · rw [if_pos h]
    obtain ⟨p, hp, hk⟩ : ∃ p ∈ l, p.1 = k := by simpa [has] using h
    rw [List.mem_map]
    constructor
    · rintro ⟨p, hp, rfl⟩
      by_cases e : p.1 = k
      · rw [if_pos e]; exact .inl rfl
      · rw [if_neg e]; exact .inr ⟨hp, e⟩
    · rintro (rfl | ⟨hq, hn⟩)
      · exact ⟨p, hp, by rw [if_pos hk]⟩
      · exact ⟨q, hq, by rw [if_neg hn]⟩
  · rw [if_neg h]
    have hn : ∀ p ∈ l, p.1 ≠ k := fun p hp e => h (by simp only [has, List.any_eq_true]; exact ⟨p, hp, by simpa using e⟩)
    rw [List.mem_append, List.mem_singleton]
    constructor
    · rintro (hq | hq)
      · exact .inr ⟨hq, hn q hq⟩
      · exact .inl hq
    · rintro (hq | ⟨hq, _⟩)
      · exact .inr hq
      · exact .inl hq
theorem mem_drop {l : CM} {k : Bytes} {q : Bytes × EM} : q ∈ drop l k ↔ q ∈ l ∧ q.1 ≠ k := by
  unfold drop
  rw [List.mem_filter, decide_eq_true_eq]
theorem Ents.put {l : CM} {L : List PE} (h : Ents l L) (hk : ∀ q ∈ l, q.2.1.dom = q.1) (y : PE) (s : SH) : Ents (put l y.dom (y, s)) (insE y L) := by
  refine ⟨asc_insE h.asc, fun p => ?_⟩
  rw [mem_insE, h.mem, List.mem_map, List.mem_map]
  constructor
  · rintro (rfl | ⟨⟨q, hq, rfl⟩, hn⟩)
    · exact ⟨_, mem_put.2 (.inl rfl), rfl⟩
    · exact ⟨q, mem_put.2 (.inr ⟨hq, by rw [← hk q hq]; exact hn⟩), rfl⟩
  · rintro ⟨q, hq, rfl⟩
    rcases mem_put.1 hq with rfl | ⟨hq, hn⟩
    · exact .inl rfl
    · exact .inr ⟨⟨q, hq, rfl⟩, by rw [hk q hq]; exact hn⟩
theorem Ents.drop {l : CM} {L : List PE} (h : Ents l L) (hk : ∀ q ∈ l, q.2.1.dom = q.1) (d : Bytes) : Ents (drop l d) (dropE d L) := by
  refine ⟨h.asc.filter _, fun p => ?_⟩
  unfold dropE
  rw [List.mem_filter, h.mem, List.mem_map, List.mem_map, decide_eq_true_eq]
  constructor
  · rintro ⟨⟨q, hq, rfl⟩, hn⟩
    exact ⟨q, mem_drop.2 ⟨hq, by rw [← hk q hq]; exact hn⟩, rfl⟩
  · rintro ⟨q, hq, rfl⟩
    obtain ⟨hq, hn⟩ := mem_drop.1 hq
    exact ⟨⟨q, hq, rfl⟩, by rw [hk q hq]; exact hn⟩
theorem Ents.has {l : CM} {L : List PE} (h : Ents l L) (hk : ∀ q ∈ l, q.2.1.dom = q.1) (d : Bytes) : has l d = hasE d L := by
  rw [Bool.eq_iff_iff, hasE_mem]
  simp only [Ytojhledbfaninaa.has, List.any_eq_true, decide_eq_true_eq]
  constructor
  · rintro ⟨q, hq, rfl⟩
    exact ⟨q.2.1, (h.mem _).2 (List.mem_map.2 ⟨q, hq, rfl⟩), hk q hq⟩
  · rintro ⟨p, hp, rfl⟩
    obtain ⟨q, hq, rfl⟩ := List.mem_map.1 ((h.mem p).1 hp)
    exact ⟨q, hq, (hk q hq).symm⟩
theorem plain_nodup {l : CM} (hn : (l.map (·.1)).Nodup) (hk : ∀ q ∈ l, q.2.1.dom = q.1) : (l.map (·.2.1)).Nodup := by
  have h2 : (l.map (·.2.1)).map (·.dom) = l.map (·.1) := by
    rw [List.map_map]
    exact List.map_congr_left hk
  exact List.Pairwise.of_map (S := fun a b => a ≠ b) (fun p : PE => p.dom) (fun a b h e => h (by rw [e])) (by rw [h2]; exact hn)
theorem Ents.len {l : CM} {L : List PE} (h : Ents l L) (hn : (l.map (·.1)).Nodup) (hk : ∀ q ∈ l, q.2.1.dom = q.1) : l.length = L.length := by
  have h1 := sub_len (plain_nodup hn hk) (m := L) (fun p hp => (h.mem p).2 hp)
  have h2 := sub_len h.asc.nodup (m := l.map (·.2.1)) (fun p hp => (h.mem p).1 hp)
  simp at h1 h2; omega
theorem ents_look {l : CM} {L : List PE} (h : Ents l L) (hn : (l.map (·.1)).Nodup) (hk : ∀ q ∈ l, q.2.1.dom = q.1) (d : Bytes) : (look l d).map (·.1) = lookE d L := by
  unfold lookE
  cases hl : look l d with
  | none =>
    have h0 := look_none.1 hl
    rw [h.has hk] at h0
    symm
    simp only [Option.map_none, List.find?_eq_none]
    intro p hp e
    have : hasE d L = true := hasE_mem.2 ⟨p, hp, by simpa using e⟩
    rw [this] at h0; cases h0
  | some x =>
    have hm := look_mem hl
    have hx : x.1 ∈ L := (h.mem _).2 (List.mem_map.2 ⟨_, hm, rfl⟩)
    have hd : x.1.dom = d := hk _ hm
    cases hf : L.find? (fun p => decide (p.dom = d)) with
    | none =>
      rw [List.find?_eq_none] at hf
      exact absurd (by simpa using hd) (hf _ hx)
    | some p =>
      have h1 := List.find?_some hf
      have h2 := List.mem_of_find?_eq_some hf
      simp only [Option.map_some, Option.some.injEq]
      exact h.asc.inj hx h2 (by rw [hd]; simpa using (of_decide_eq_true h1).symm)
theorem CacheAt.mono {W : World} {B B' : Nat → Prop} {b bm : Nat} {most : Int} {l : CM} (h : CacheAt W B b bm most l) (hB : ∀ k, B k → B' k) : CacheAt W B' b bm most l :=
  ⟨h.obj, h.map, h.key, fun q hq => (h.mxs q hq).mono hB⟩
theorem CacheIs.mono {W : World} {B B' : Nat → Prop} {b bm : Nat} {most : Int} {L : List PE} (h : CacheIs W B b bm most L) (hB : ∀ k, B k → B' k) : CacheIs W B' b bm most L := by
  obtain ⟨l, hc, hE⟩ := h
  exact ⟨l, hc.mono hB, hE⟩
theorem CacheIs.below {W W' : World} {B : Nat → Prop} {b bm : Nat} {most : Int} {L : List PE} (h : CacheIs W B b bm most L) (hb : Below W.heap.size W W') : CacheIs W' B b bm most L := by
  obtain ⟨l, hc, hE⟩ := h
  exact ⟨l, hc.below hb, hE⟩
theorem grownBy_of_below {w w' : World} (h : Below w.heap.size w w') (row : Option Nat) : w.grownBy w' row := ⟨h.os, h.tape, h.output, h.size, fun k hk _ => h.block k hk⟩
/-- A store under the domain: the map's block alone turns. -/
theorem CacheAt.store {W : World} {B : Nat → Prop} {b bm : Nat} {most : Int} {l : CM} (h : CacheAt W B b bm most l) (y : PE) (s : SH) (hm : MxAt W B s y.mx) :
    ∃ o : Obj, (Instr.mapUpdate 65 (.map (some bm)) (str y.dom) (evp (y, s))).run Try.prog W = .ok () (W.putObj bm o) ∧ CacheAt (W.putObj bm o) B b bm most (put l y.dom (y, s)) := by
  obtain ⟨o, hr, hM⟩ := run_update_at (P := Try.prog) (t := 65) strLaw Try.underlying65 h.map y.dom (y, s)
  obtain ⟨ob, hob, hoc⟩ := h.isMap
  have hg : W.grownBy (W.putObj bm o) (some bm) := grownBy_putObj' W bm o
  refine ⟨o, hr, ⟨?_, hM, fun q hq => ?_, fun q hq => ?_⟩⟩
  · exact (hg.block b h.lt (fun e => by cases e; rw [h.obj] at hob; cases hob; cases hoc)).trans h.obj
  · rcases mem_put.1 hq with rfl | ⟨hq, _⟩
    · rfl
    · exact h.key q hq
  · rcases mem_put.1 hq with rfl | ⟨hq, _⟩
    · exact hm.grown hg (fun k e => by cases e; exact ⟨ob, hob, hoc⟩)
    · exact (h.mxs q hq).grown hg (fun k e => by cases e; exact ⟨ob, hob, hoc⟩)
theorem CacheAt.delete {W : World} {B : Nat → Prop} {b bm : Nat} {most : Int} {l : CM} (h : CacheAt W B b bm most l) (d : Bytes) (ty : TypeId) :
    ∃ o : Obj, (Builtin.delete_ #[65, 9] ty #[.map (some bm), str d]).run Try.prog W = .ok (.tuple #[]) (W.putObj bm o) ∧ CacheAt (W.putObj bm o) B b bm most (drop l d) := by
  obtain ⟨o, hr, hM⟩ := run_delete_at (P := Try.prog) (t := 65) (ty := ty) strLaw Try.underlying65 h.map d #[65, 9] rfl
  obtain ⟨ob, hob, hoc⟩ := h.isMap
  have hg : W.grownBy (W.putObj bm o) (some bm) := grownBy_putObj' W bm o
  refine ⟨o, hr, ⟨?_, hM, fun q hq => h.key q (mem_drop.1 hq).1, fun q hq => (h.mxs q (mem_drop.1 hq).1).grown hg (fun k e => by cases e; exact ⟨ob, hob, hoc⟩)⟩⟩
  exact (hg.block b h.lt (fun e => by cases e; rw [h.obj] at hob; cases hob; cases hoc)).trans h.obj
theorem zeroE (w : World) : (zeroValue 27).run Try.prog w = .ok (evp zeroM) w := Try.zeroValue27 w
theorem CacheAt.lookup {W : World} {B : Nat → Prop} {b bm : Nat} {most : Int} {l : CM} (h : CacheAt W B b bm most l) (d : Bytes) :
    (Instr.lookup 65 (.map (some bm)) (str d) true).run Try.prog W = .ok (.tuple #[((look l d).map evp).getD (evp zeroM), .bool (has l d)]) W :=
  (run_lookup_at (P := Try.prog) strLaw Try.underlying65 zeroE h.map d).2
theorem CacheAt.length {W : World} {B : Nat → Prop} {b bm : Nat} {most : Int} {l : CM} (h : CacheAt W B b bm most l) (ty : TypeId) :
    (Builtin.len_ #[65] ty #[.map (some bm)]).run Try.prog W = .ok (.int .i64 (l.length : Int)) W :=
  run_len_at (P := Try.prog) Try.underlying65 h.map _ rfl
end Go.Proofs.Ytojhledbfaninaa
