/- Plain data of the cache: entries, what may be, what is learned, what goes. No program in sight. -/
import Derived.Test.YtojhledbfaninaaCid
import Derived.Test.YtojhledbfaninaaMap
namespace Go.Proofs.Ytojhledbfaninaa
open Go Go.RowKit Go.Shelf Go.Sort

/-- An entry. -/
structure PE where
  dom : Bytes
  id : Bytes
  mode : Nat
  mx : List Bytes
  age : Int
  unt : Int
theorem PE.eq {a b : PE} (h1 : a.dom = b.dom) (h2 : a.id = b.id) (h3 : a.mode = b.mode) (h4 : a.mx = b.mx) (h5 : a.age = b.age) (h6 : a.unt = b.unt) : a = b := by
  cases a; cases b; simp_all
def PE.tup (a : PE) : Bytes × Bytes × Nat × List Bytes × Int × Int := (a.dom, a.id, a.mode, a.mx, a.age, a.unt)
theorem PE.tup_inj {a b : PE} (h : a.tup = b.tup) : a = b := by
  simp [PE.tup] at h
  exact PE.eq h.1 h.2.1 h.2.2.1 h.2.2.2.1 h.2.2.2.2.1 h.2.2.2.2.2
instance : DecidableEq PE := fun a b => decidable_of_iff (a.tup = b.tup) ⟨PE.tup_inj, fun h => by rw [h]⟩
instance : Inhabited PE := ⟨⟨[], [], 0, [], 0, 0⟩⟩

/-- A pattern: a name, "*." ahead of it or not. -/
def bareB (l : Bytes) : Bytes := if [42, 46].isPrefixOf l then l.drop 2 else l
def patB (l : Bytes) : Bool := mayB (bareB l)
def polB (mode : Nat) (mx : List Bytes) (age : Int) : Bool :=
  decide (1 ≤ mode) && decide (mode ≤ 3) && decide (0 ≤ age) && decide (age ≤ 31557600) && decide (mx.length ≤ 8) && (decide (mode = 1) || !mx.isEmpty) && mx.all patB
def mayE (p : PE) : Bool := mayB p.dom && idB p.id && polB p.mode p.mx p.age && decide (0 ≤ p.unt) && decide (p.unt ≤ 1099543185376)
/-- Ascending by their domains. -/
def AscE (l : List PE) : Prop := l.Pairwise fun x y => cmpB x.dom y.dom < 0
theorem AscE.uniq : ∀ {l m : List PE}, AscE l → AscE m → (∀ x, x ∈ l ↔ x ∈ m) → l = m
  | [], [], _, _, _ => rfl
  | [], y :: m, _, _, hm => by have := (hm y).2 (by simp); cases this
  | x :: l, [], _, _, hm => by have := (hm x).1 (by simp); cases this
  | x :: l, y :: m, hl, hm, hs => by
    unfold AscE at hl hm
    rw [List.pairwise_cons] at hl hm
    have e : x = y := by
      rcases List.mem_cons.1 ((hs x).1 (by simp)) with e | hx
      · exact e
      · rcases List.mem_cons.1 ((hs y).2 (by simp)) with e | hy
        · exact e.symm
        · have := hl.1 y hy
          have := hm.1 x hx
          have := cmpB_swap x.dom y.dom
          omega
    subst e
    have : l = m := AscE.uniq hl.2 hm.2 fun z => by
      constructor
      · intro hz
        rcases List.mem_cons.1 ((hs z).1 (by simp [hz])) with e | hz'
        · subst e; have := hl.1 z hz; rw [cmpB_self] at this; omega
        · exact hz'
      · intro hz
        rcases List.mem_cons.1 ((hs z).2 (by simp [hz])) with e | hz'
        · subst e; have := hm.1 z hz; rw [cmpB_self] at this; omega
        · exact hz'
    rw [this]
theorem AscE.doms {l : List PE} (h : AscE l) : (l.map (·.dom)).Nodup := by
  unfold AscE at h
  rw [List.Nodup, List.pairwise_map]
  exact h.imp fun {a b} hab e => by rw [e, cmpB_self] at hab; omega
theorem AscE.nodup {l : List PE} (h : AscE l) : l.Nodup :=
  List.Pairwise.imp (fun {a b} hab e => by subst e; rw [cmpB_self] at hab; omega) h
theorem AscE.filter {l : List PE} (f : PE → Bool) (h : AscE l) : AscE (l.filter f) := List.Pairwise.filter f h
theorem AscE.inj {l : List PE} (h : AscE l) {x y : PE} (hx : x ∈ l) (hy : y ∈ l) (e : x.dom = y.dom) : x = y := by
  obtain ⟨i, hi, rfl⟩ := List.getElem_of_mem hx
  obtain ⟨j, hj, rfl⟩ := List.getElem_of_mem hy
  have := nodup_inj h.doms (i := i) (j := j) (by simpa using hi) (by simpa using hj) (by simpa using e)
  subst this; rfl

/-- The entries with another domain than that one. -/
def dropE (d : Bytes) (l : List PE) : List PE := l.filter fun p => decide (p.dom ≠ d)
/-- An entry in its place; it takes the place of one of its domain. -/
def insE (x : PE) (l : List PE) : List PE := l.filter (fun p => decide (cmpB p.dom x.dom < 0)) ++ x :: l.filter (fun p => decide (cmpB x.dom p.dom < 0))
theorem mem_insE {x p : PE} {l : List PE} : p ∈ insE x l ↔ p = x ∨ (p ∈ l ∧ p.dom ≠ x.dom) := by
  unfold insE
  simp only [List.mem_append, List.mem_cons, List.mem_filter, decide_eq_true_eq]
  constructor
  · rintro (⟨h, hc⟩ | h | ⟨h, hc⟩)
    · exact .inr ⟨h, fun e => by rw [e, cmpB_self] at hc; omega⟩
    · exact .inl h
    · exact .inr ⟨h, fun e => by rw [e, cmpB_self] at hc; omega⟩
  · rintro (h | ⟨h, hn⟩)
    · exact .inr (.inl h)
    · have hs := cmpB_swap p.dom x.dom
      have h0 : cmpB p.dom x.dom ≠ 0 := fun e => hn (cmpB_eq e)
      by_cases hc : cmpB p.dom x.dom < 0
      · exact .inl ⟨h, hc⟩
      · exact .inr (.inr ⟨h, by omega⟩)
theorem asc_insE {x : PE} {l : List PE} (h : AscE l) : AscE (insE x l) := by
  unfold insE AscE
  rw [List.pairwise_append, List.pairwise_cons]
  refine ⟨h.filter _, ⟨fun y hy => by simpa using (List.mem_filter.1 hy).2, h.filter _⟩, ?_⟩
  intro a ha b hb
  have ha' : cmpB a.dom x.dom < 0 := by simpa using (List.mem_filter.1 ha).2
  rcases List.mem_cons.1 hb with rfl | hb
  · exact ha'
  · have hb' : cmpB x.dom b.dom < 0 := by simpa using (List.mem_filter.1 hb).2
    exact cmpB_trans ha' hb'
theorem length_insE {x : PE} {l : List PE} (h : AscE l) : (insE x l).length = (dropE x.dom l).length + 1 := by
  have h1 : (insE x l).Nodup := (asc_insE h).nodup
  have h2 : (x :: dropE x.dom l).Nodup := by
    rw [List.nodup_cons]
    exact ⟨fun hm => by simpa using (List.mem_filter.1 hm).2, h.nodup.filter _⟩
  have h3 : ∀ p, p ∈ insE x l ↔ p ∈ x :: dropE x.dom l := fun p => by
    rw [mem_insE]; simp [dropE]
  have e1 := sub_len h1 (m := x :: dropE x.dom l) fun p hp => (h3 p).1 hp
  have e2 := sub_len h2 (m := insE x l) fun p hp => (h3 p).2 hp
  simp at e1 e2; omega

/-- Of entries the first least one: by their ends, then by their domains. -/
def cmpI (x y : Int) : Int := Lib.compareInt x y
def orI (x y : Int) : Int := if x = 0 then y else x
def cmpE (a b : PE) : Int := orI (cmpI a.unt b.unt) (cmpB a.dom b.dom)
def stepE (m x : PE) : PE := if cmpE x m < 0 then x else m
def minE : List PE → Option PE
  | [] => none
  | p :: l => some (l.foldl stepE p)
def goesE (now : Int) (l : List PE) : Option PE := match minE (l.filter fun p => decide (p.unt ≤ now)) with
  | some p => some p
  | none => minE (l.filter fun p => decide (p.mode ≠ 3))
def hasE (d : Bytes) (l : List PE) : Bool := l.any fun p => decide (p.dom = d)
def lookE (d : Bytes) (l : List PE) : Option PE := l.find? fun p => decide (p.dom = d)
/-- What Learn answers. -/
def learnB (most : Int) (l : List PE) (x : PE) : Nat :=
  if x.unt < 0 ∨ 1099511627776 < x.unt then 1 else if mayE x = false then 4 else if hasE x.dom l = true ∨ (l.length : Int) < most then 0 else if (goesE x.unt l).isNone then 41 else 0
/-- The entries behind a Learn; x.unt is the time. -/
def learnS (most : Int) (l : List PE) (x : PE) : List PE :=
  if learnB most l x ≠ 0 then l else
    let y := { x with unt := x.unt + x.age }
    if hasE x.dom l = true ∨ (l.length : Int) < most then insE y l else
      match goesE x.unt l with
      | some p => insE y (dropE p.dom l)
      | none => l
/-- Entries that make a cache. -/
structure GoodE (most : Int) (l : List PE) : Prop where
  asc : AscE l
  may : ∀ p ∈ l, mayE p = true
  len : (l.length : Int) ≤ most
theorem fold_mem : ∀ {l : List PE} {p : PE}, l.foldl stepE p = p ∨ l.foldl stepE p ∈ l
  | [], p => .inl rfl
  | q :: l, p => by
    rw [List.foldl_cons]
    rcases fold_mem (l := l) (p := stepE p q) with h | h
    · rw [h]
      unfold stepE
      split
      · exact .inr (by simp)
      · exact .inl rfl
    · exact .inr (by simp [h])
theorem minE_mem : ∀ {l : List PE} {p : PE}, minE l = some p → p ∈ l
  | [], _, h => by cases h
  | q :: l, p, h => by
    injection h with h
    rcases fold_mem (l := l) (p := q) with e | e
    · rw [← h, e]; simp
    · rw [← h]; simp [e]
theorem goesE_mem {now : Int} {l : List PE} {p : PE} (h : goesE now l = some p) : p ∈ l := by
  unfold goesE at h
  split at h
  · rename_i q hq
    injection h with h; subst h
    exact (List.mem_filter.1 (minE_mem hq)).1
  · exact (List.mem_filter.1 (minE_mem h)).1
theorem hasE_mem {d : Bytes} {l : List PE} : hasE d l = true ↔ ∃ p ∈ l, p.dom = d := by simp [hasE]
theorem dropE_len {d : Bytes} {l : List PE} (h : AscE l) (hm : hasE d l = true) : (dropE d l).length + 1 ≤ l.length := by
  obtain ⟨p, hp, rfl⟩ := hasE_mem.1 hm
  have : (dropE p.dom l).length < l.length := by
    unfold dropE
    rcases Nat.lt_or_eq_of_le (List.length_filter_le (fun q : PE => decide (q.dom ≠ p.dom)) l) with h | h
    · exact h
    · have := List.length_filter_eq_length_iff.1 h p hp
      simp at this
  omega
theorem dropE_le (d : Bytes) (l : List PE) : (dropE d l).length ≤ l.length := List.length_filter_le _ _
theorem may_age {x : PE} (h : mayE x = true) : 0 ≤ x.age ∧ x.age ≤ 31557600 := by
  simp [mayE, polB] at h
  omega
theorem may_later {x : PE} (h : mayE x = true) (hu : x.unt ≤ 1099511627776) : mayE { x with unt := x.unt + x.age } = true := by
  have := may_age h
  simp [mayE, polB] at h ⊢
  refine ⟨⟨h.1.1, ?_⟩, ?_⟩ <;> omega
/-- A Learn leaves entries that make a cache. -/
theorem GoodE.learn {most : Int} {l : List PE} (h : GoodE most l) (x : PE) : GoodE most (learnS most l x) := by
  unfold learnS
  split
  · exact h
  · rename_i hb
    have hb0 : learnB most l x = 0 := by omega
    unfold learnB at hb0
    split at hb0
    · cases hb0
    · rename_i hu
      split at hb0
      · cases hb0
      · rename_i hm
        have hm' : mayE x = true := by simpa using hm
        have hy := may_later hm' (by omega)
        have key : ∀ m : List PE, (∀ p ∈ m, p ∈ l) → AscE m → ((dropE x.dom m).length : Int) + 1 ≤ most → GoodE most (insE { x with unt := x.unt + x.age } m) := fun m hs ha hl =>
          ⟨asc_insE ha, fun p hp => by
            rcases mem_insE.1 hp with rfl | ⟨hp, _⟩
            · exact hy
            · exact h.may p (hs p hp), by
            rw [length_insE ha]; simpa using hl⟩
        split
        · rename_i hr
          refine key l (fun _ h => h) h.asc ?_
          rcases hr with hr | hr
          · have := dropE_len h.asc hr
            have := h.len; omega
          · have := dropE_le x.dom l; omega
        · split
          · rename_i p hp
            have hpm := goesE_mem hp
            refine key (dropE p.dom l) (fun q hq => (List.mem_filter.1 hq).1) (h.asc.filter _) ?_
            have h1 := dropE_len h.asc (d := p.dom) (hasE_mem.2 ⟨p, hpm, rfl⟩)
            have h2 := dropE_le x.dom (dropE p.dom l)
            have := h.len; omega
          · exact h
end Go.Proofs.Ytojhledbfaninaa
