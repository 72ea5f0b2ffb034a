/- The plain law of the tally: what it holds behind any results. -/
import Derived.Test.YthhcigmdocldnaaDoorTallyE
import Derived.Test.YthhcigmdocldnaaDoorTallyJ
import Derived.Test.YthhcigmdocldnaaDoorLawA
namespace Go.Proofs.YthhcigmdocldnaaDoor
open Go Go.RowKit Go.Shelf Go.Sort

abbrev Res := (Bytes × Nat) × Nat

section plain
variable {K V : Type} [DecidableEq K]
theorem look_map_put {l : List (K × V)} {k p : K} {v : V} : ((l.map (fun q => if q.1 = k then (k, v) else q)).find? fun q => decide (q.1 = p)).map (·.2) = if p = k then (if has l k then some v else none) else look l p := by
  induction l with
  | nil => simp [look, has]
  | cons q l ih =>
    simp only [List.map_cons]
    by_cases h1 : q.1 = k
    · by_cases h2 : p = k
      · subst h2
        simp [h1, has]
      · have h3 : ¬ k = p := fun e => h2 e.symm
        have h4 : ¬ q.1 = p := fun e => h2 (e.symm.trans h1)
        simp only [h1, if_true, List.find?_cons, h3, decide_false]
        rw [ih]
        simp [h2, look, h4]
    · simp only [h1, if_false]
      by_cases h2 : p = k
      · subst h2
        have h4 : ¬ q.1 = p := h1
        simp only [List.find?_cons, h4, decide_false]
        rw [ih]
        have e : has (q :: l) p = has l p := by
          unfold has
          rw [List.any_cons, decide_eq_false h1, Bool.false_or]
        rw [if_pos rfl, if_pos trivial, e]
      · by_cases h4 : q.1 = p
        · simp [h4, look, h2]
        · simp only [List.find?_cons, h4, decide_false]
          rw [ih]
          simp [h2, look, h4]
theorem look_put (l : List (K × V)) (k p : K) (v : V) : look (put l k v) p = if p = k then some v else look l p := by
  unfold put
  by_cases h : has l k = true
  · rw [if_pos h]
    have := look_map_put (l := l) (k := k) (p := p) (v := v)
    rw [if_pos h] at this
    exact this
  · rw [if_neg h]
    have h' : has l k = false := by simpa using h
    unfold look
    rw [List.find?_append]
    by_cases hp : p = k
    · subst hp
      have : l.find? (fun q => decide (q.1 = p)) = none := by
        rw [List.find?_eq_none]
        intro x hx hd
        have : has l p = true := by
          unfold has
          rw [List.any_eq_true]
          exact ⟨x, hx, hd⟩
        rw [h'] at this
        cases this
      simp [this]
    · have hk : ¬ k = p := fun e => hp e.symm
      simp [hp, hk]
end plain

/-- May a result be counted at all? -/
def okR (r : Res) : Bool := kindB (r.1.2 : Int) (r.2 : Int) && mayB r.1.1
/-- A tally's entries, once results were counted. -/
structure Inv (names : Int) (l : Ent) (acc : List Res) : Prop where
  nodup : (l.map (·.1)).Nodup
  keys : ∀ p, p ∈ l.map (·.1) ↔ ∃ k, (p, k) ∈ acc
  cnts : ∀ p, cnt l p = (List.range 11).map fun k => (manyR acc (p, k) : Int)
  ok : ∀ r ∈ acc, okR r = true
  room : ((domsL l).length : Int) ≤ names

theorem Inv.nil {names : Int} (h : 0 ≤ names) : Inv names [] [] where
  nodup := by simp
  keys := by simp
  cnts := by
    intro p
    show (look ([] : Ent) p).getD _ = _
    simp [look, manyR]
    decide
  ok := by simp
  room := by simpa [domsL] using h

theorem okR_lt {r : Res} (h : okR r = true) : r.2 < 11 := by
  unfold okR at h
  rw [Bool.and_eq_true] at h
  have := kindB_lt h.1
  omega

theorem bump_map {f : Nat → Int} {i : Nat} (hi : i < 11) : bump ((List.range 11).map f) i = (List.range 11).map fun k => f k + if k = i then 1 else 0 := by
  unfold bump
  apply List.ext_getElem
  · simp
  · intro n h1 h2
    rw [List.getElem_set]
    by_cases hn : i = n
    · subst hn
      simp [hi]
    · have hn' : ¬ n = i := fun e => hn e.symm
      simp [hn, hn']

theorem manyR_snoc (acc : List Res) (r s : Res) : manyR (acc ++ [r]) s = manyR acc s + if r = s then 1 else 0 := by
  unfold manyR
  rw [List.countP_append]
  by_cases e : r = s <;> simp [e]

theorem Inv.add {names : Int} {l : Ent} {acc : List Res} (h : Inv names l acc) {d : Bytes} {t what : Nat} (ha : addB names l d t what = 0) : Inv names (addS names l d t what) (acc ++ [((d, t), what)]) := by
  have hs : addS names l d t what = addL l d t what := by unfold addS; rw [if_pos ha]
  have hk : (kindB t what && mayB d) = true := by
    unfold addB at ha
    by_cases hc : (kindB t what && mayB d) = false
    · rw [if_pos hc] at ha; cases ha
    · simpa using hc
  have hr : roomB names l d = true := by
    unfold addB at ha
    rw [if_neg (by rw [hk]; simp)] at ha
    by_cases hc : roomB names l d = false
    · rw [if_pos hc] at ha; cases ha
    · simpa using hc
  have hw : what < 11 := okR_lt (r := ((d, t), what)) hk
  rw [hs]
  have hkeys : ∀ p, p ∈ (addL l d t what).map (·.1) ↔ p ∈ l.map (·.1) ∨ p = (d, t) := by
    intro p
    show p ∈ (put l (d, t) _).map (·.1) ↔ _
    rw [keys_put]
    by_cases hh : has l (d, t) = true
    · rw [if_pos hh]
      constructor
      · exact Or.inl
      · rintro (h | rfl)
        · exact h
        · exact has_mem.1 hh
    · rw [if_neg hh]
      simp
  refine ⟨nodup_put h.nodup _ _, ?_, ?_, ?_, ?_⟩
  · intro p
    rw [hkeys, h.keys]
    constructor
    · rintro (⟨k, hk⟩ | rfl)
      · exact ⟨k, by simp [hk]⟩
      · exact ⟨what, by simp⟩
    · rintro ⟨k, hk⟩
      simp only [List.mem_append, List.mem_singleton, Prod.mk.injEq] at hk
      rcases hk with hk | ⟨e, _⟩
      · exact .inl ⟨k, hk⟩
      · exact .inr e
  · intro p
    show (look (put l (d, t) _) p).getD _ = _
    rw [look_put]
    by_cases hp : p = (d, t)
    · subst hp
      rw [if_pos rfl]
      show bump (cnt l (d, t)) what = _
      rw [h.cnts, bump_map hw]
      apply List.map_congr_left
      intro k _
      rw [manyR_snoc]
      by_cases e : k = what
      · subst e; simp
      · have e' : ¬ what = k := fun x => e x.symm
        simp [e, e']
    · rw [if_neg hp]
      show cnt l p = _
      rw [h.cnts]
      apply List.map_congr_left
      intro k _
      rw [manyR_snoc]
      have : ¬ (((d, t), what) : Res) = (p, k) := by
        intro e
        injection e with e1 _
        exact hp e1.symm
      simp [this]
  · intro r hr'
    simp only [List.mem_append, List.mem_singleton] at hr'
    rcases hr' with hr' | rfl
    · exact h.ok r hr'
    · exact hk
  · have hmem : ∀ x, x ∈ domsL (addL l d t what) ↔ x ∈ domsL l ∨ x = d := by
      intro x
      rw [mem_domsL, mem_domsL]
      constructor
      · intro hx
        obtain ⟨y, hy, rfl⟩ := List.mem_map.1 hx
        have hy1 : y.1 ∈ (addL l d t what).map (·.1) := List.mem_map.2 ⟨y, hy, rfl⟩
        rcases (hkeys _).1 hy1 with h1 | h1
        · obtain ⟨z, hz, e⟩ := List.mem_map.1 h1
          exact .inl (List.mem_map.2 ⟨z, hz, by rw [e]⟩)
        · exact .inr (by rw [h1])
      · rintro (hx | rfl)
        · obtain ⟨y, hy, rfl⟩ := List.mem_map.1 hx
          have : y.1 ∈ (addL l d t what).map (·.1) := (hkeys _).2 (.inl (List.mem_map.2 ⟨y, hy, rfl⟩))
          obtain ⟨z, hz, e⟩ := List.mem_map.1 this
          exact List.mem_map.2 ⟨z, hz, by rw [e]⟩
        · have : (x, t) ∈ (addL l x t what).map (·.1) := (hkeys _).2 (.inr rfl)
          obtain ⟨z, hz, e⟩ := List.mem_map.1 this
          exact List.mem_map.2 ⟨z, hz, by rw [e]⟩
    have hnd : (domsL (addL l d t what)).Nodup := (asc_domsL _).nodup ordB
    by_cases hd : d ∈ domsL l
    · have := sub_len (m := domsL l) hnd (fun x hx => by
        rcases (hmem x).1 hx with h1 | rfl
        · exact h1
        · exact hd)
      have := h.room
      omega
    · have hlt : ((domsL l).length : Int) < names := by
        unfold roomB at hr
        rw [Bool.or_eq_true] at hr
        rcases hr with hr | hr
        · exact of_decide_eq_true hr
        · exact absurd (of_decide_eq_true hr) hd
      have := sub_len (m := d :: domsL l) hnd (fun x hx => by
        rcases (hmem x).1 hx with h1 | rfl
        · exact List.mem_cons_of_mem _ h1
        · exact List.mem_cons_self)
      simp only [List.length_cons] at this
      omega

theorem Inv.good {names : Int} {l : Ent} {acc : List Res} (h : Inv names l acc) (hl : acc.length ≤ 1000000) : Good l := by
  intro p hp
  have e : p.2 = cnt l p.1 := by
    show _ = (look l p.1).getD _
    rw [look_of_mem h.nodup (v := p.2) hp]
    rfl
  rw [e, h.cnts]
  refine ⟨by simp, ?_⟩
  intro x hx
  obtain ⟨k, _, rfl⟩ := List.mem_map.1 hx
  have := manyR_le acc (p.1, k)
  omega
theorem Inv.len {names : Int} {l : Ent} {acc : List Res} (h : Inv names l acc) : l.length ≤ acc.length := by
  have := sub_len (m := acc.map (·.1)) h.nodup (fun x hx => by
    obtain ⟨k, hk⟩ := (h.keys x).1 hx
    exact List.mem_map.2 ⟨(x, k), hk, rfl⟩)
  simpa using this
theorem manyR_perm {acc acc' : List Res} (h : acc.Perm acc') (r : Res) : manyR acc r = manyR acc' r := h.countP_eq _

/-- Whatever the order: the rows are the same. -/
theorem Inv.rows {names names' : Int} {l l' : Ent} {acc acc' : List Res} (h : Inv names l acc) (h' : Inv names' l' acc') (hp : acc.Perm acc') {ps ps' : List (Bytes × Nat)} (hl : Places l ps) (hl' : Places l' ps') : rowsOf l ps = rowsOf l' ps' := by
  have e : ps = ps' := Asc.uniq ordP hl.asc hl'.asc (fun x => by
    rw [hl.perm.mem_iff, hl'.perm.mem_iff, h.keys, h'.keys]
    constructor
    · rintro ⟨k, hk⟩; exact ⟨k, hp.mem_iff.1 hk⟩
    · rintro ⟨k, hk⟩; exact ⟨k, hp.mem_iff.2 hk⟩)
  subst e
  unfold rowsOf
  apply List.map_congr_left
  intro p _
  rw [h.cnts, h'.cnts]
  congr 1
  apply List.map_congr_left
  intro k _
  rw [manyR_perm hp]

theorem sum_zero : ∀ {ks : List Res}, (ks.map fun k => (manyR [] k : Int)).sum = 0
  | [] => rfl
  | k :: ks => by
    rw [List.map_cons, List.sum_cons, sum_zero]
    simp [manyR]
theorem sum_one {r : Res} : ∀ {ks : List Res}, ks.Nodup → r ∈ ks → (ks.map fun k => if r = k then (1 : Int) else 0).sum = 1
  | k :: ks, hn, hm => by
    rw [List.map_cons, List.sum_cons]
    rw [List.nodup_cons] at hn
    rcases List.mem_cons.1 hm with rfl | hm'
    · have : (ks.map fun k => if r = k then (1 : Int) else 0).sum = 0 := by
        have h0 : ∀ {ks : List Res}, r ∉ ks → (ks.map fun k => if r = k then (1 : Int) else 0).sum = 0 := by
          intro ks
          induction ks with
          | nil => intro _; rfl
          | cons a bs ih =>
            intro h
            rw [List.map_cons, List.sum_cons, ih (fun x => h (List.mem_cons_of_mem _ x)), if_neg (fun e => h (by rw [e]; exact List.mem_cons_self))]
            rfl
        exact h0 hn.1
      rw [this, if_pos rfl]; rfl
    · rw [if_neg (fun e => hn.1 (by rw [← e]; exact hm')), sum_one hn.2 hm']; rfl
theorem sum_add (f g : Res → Int) : ∀ ks : List Res, (ks.map fun k => f k + g k).sum = (ks.map f).sum + (ks.map g).sum
  | [] => rfl
  | k :: ks => by
    simp only [List.map_cons, List.sum_cons]
    rw [sum_add f g ks]
    omega
theorem sum_many {ks : List Res} (hn : ks.Nodup) : ∀ {acc : List Res}, (∀ r ∈ acc, r ∈ ks) → (ks.map fun k => (manyR acc k : Int)).sum = acc.length
  | [], _ => sum_zero
  | r :: acc, h => by
    have e : ∀ k, (manyR (r :: acc) k : Int) = manyR acc k + if r = k then (1 : Int) else 0 := by
      intro k
      unfold manyR
      rw [List.countP_cons]
      by_cases e : r = k <;> simp [e]
    have e2 : (ks.map fun k => (manyR (r :: acc) k : Int)) = ks.map fun k => (manyR acc k : Int) + if r = k then (1 : Int) else 0 := List.map_congr_left fun k _ => e k
    rw [e2, sum_add (fun k => (manyR acc k : Int)) (fun k => if r = k then (1 : Int) else 0), sum_many hn (fun x hx => h x (List.mem_cons_of_mem _ hx)), sum_one hn (h r List.mem_cons_self)]
    simp

theorem tot_flat (f : (Bytes × Nat) → Nat → Int) : ∀ ps : List (Bytes × Nat), (ps.map fun p => ((List.range 11).map (f p)).sum).sum = ((ps.flatMap fun p => (List.range 11).map fun k => (p, k)).map fun r : Res => f r.1 r.2).sum
  | [] => rfl
  | p :: ps => by
    rw [List.map_cons, List.sum_cons, List.flatMap_cons, List.map_append, List.sum_append, tot_flat f ps, List.map_map]
    rfl
theorem nodup_flat : ∀ {ps : List (Bytes × Nat)}, ps.Nodup → (ps.flatMap fun p => (List.range 11).map fun k => ((p, k) : Res)).Nodup
  | [], _ => by simp
  | p :: ps, h => by
    rw [List.nodup_cons] at h
    rw [List.flatMap_cons, List.nodup_append]
    refine ⟨?_, nodup_flat h.2, ?_⟩
    · refine List.Pairwise.map _ ?_ (List.nodup_range (n := 11))
      intro a b hab e
      injection e with _ e
      exact hab e
    · intro a ha b hb e
      subst e
      obtain ⟨k, _, rfl⟩ := List.mem_map.1 ha
      obtain ⟨q, hq, hq2⟩ := List.mem_flatMap.1 hb
      obtain ⟨k2, _, e2⟩ := List.mem_map.1 hq2
      injection e2 with e2 _
      exact h.1 (by rw [← e2]; exact hq)

theorem Inv.total {names : Int} {l : Ent} {acc : List Res} (h : Inv names l acc) {ps : List (Bytes × Nat)} (hl : Places l ps) : tot (rowsOf l ps) = acc.length := by
  have e : tot (rowsOf l ps) = (ps.map fun p => ((List.range 11).map fun k => (manyR acc (p, k) : Int)).sum).sum := by
    unfold tot rowsOf
    rw [List.map_map]
    congr 1
    apply List.map_congr_left
    intro p _
    show (cnt l p).sum = _
    rw [h.cnts]
  rw [e, tot_flat fun p k => (manyR acc (p, k) : Int)]
  refine sum_many (nodup_flat (hl.asc.nodup ordP)) ?_
  intro r hr
  refine List.mem_flatMap.2 ⟨r.1, ?_, List.mem_map.2 ⟨r.2, ?_, rfl⟩⟩
  · rw [hl.perm.mem_iff, h.keys]
    exact ⟨r.2, hr⟩
  · rw [List.mem_range]
    exact okR_lt (h.ok r hr)
end Go.Proofs.YthhcigmdocldnaaDoor
