/- EntryFirst: in plain Lean; and how entries are read. -/
import Derived.Test.YtdlpdpelhkgnlaaGreatDoorEnx
import Derived.Test.YtdlpdpelhkgnlaaGreatDoorEworks
namespace Go.Proofs.YtdlpdpelhkgnlaaGreatDoor
open Go Go.RowKit Go.Shelf Go.Sort

/-- Is a job the one that was told? -/
def matchJ (id : Int) (d : Bytes) (now : Int) (x : EntP) (j : JoP) : Bool := decide (x.id = id) && (decide (j.dom = d) && (decide (waitsM x d ≠ []) && decide (j.due ≤ now)))
def mduesP (id : Int) (d : Bytes) (now : Int) (x : EntP) (k : Nat) : List Int := ((x.jobs.take k).filter (matchJ id d now x)).map (·.due)
def mdues (id : Int) (d : Bytes) (now : Int) (l : List EntP) : List Int := l.flatMap fun x => (x.jobs.filter (matchJ id d now x)).map (·.due)
theorem mduesP_succ {id : Int} {d : Bytes} {now : Int} {x : EntP} {k : Nat} {j : JoP} (h : x.jobs[k]? = some j) : mduesP id d now x (k + 1) = mduesP id d now x k ++ (if matchJ id d now x j then [j.due] else []) := by
  obtain ⟨hk, e⟩ := List.getElem?_eq_some_iff.1 h
  unfold mduesP
  rw [List.take_succ_eq_append_getElem hk, List.filter_append, List.map_append, e]
  congr 1
  by_cases c : matchJ id d now x j = true
  · rw [if_pos c]; simp only [List.filter_cons, c]; rfl
  · rw [if_neg c]; simp only [List.filter_cons, c]; rfl
theorem mduesP_all (id : Int) (d : Bytes) (now : Int) (x : EntP) : mduesP id d now x x.jobs.length = (x.jobs.filter (matchJ id d now x)).map (·.due) := by
  unfold mduesP
  rw [List.take_length]
theorem mdues_succ {id : Int} {d : Bytes} {now : Int} {l : List EntP} {i : Nat} {x : EntP} (h : l[i]? = some x) : mdues id d now (l.take (i + 1)) = mdues id d now (l.take i) ++ (x.jobs.filter (matchJ id d now x)).map (·.due) := by
  obtain ⟨hi, e⟩ := List.getElem?_eq_some_iff.1 h
  unfold mdues
  rw [List.take_succ_eq_append_getElem hi, List.flatMap_append, e]
  simp
/-- The least one of some, if there is one. -/
def DueOf (ms : List Int) (due : Int) (found : Bool) : Prop := (found = false ∧ ms = []) ∨ (found = true ∧ due ∈ ms ∧ ∀ y ∈ ms, due ≤ y)
theorem DueOf.skip {ms : List Int} {due : Int} {found : Bool} (h : DueOf ms due found) : DueOf (ms ++ []) due found := by rw [List.append_nil]; exact h
theorem DueOf.more {ms : List Int} {due y : Int} {found : Bool} (h : DueOf ms due found) (c : (!found || decide (y < due)) = true) : DueOf (ms ++ [y]) y true := by
  refine .inr ⟨rfl, by simp, fun z hz => ?_⟩
  rcases List.mem_append.1 hz with hz | hz
  · rcases h with ⟨_, e⟩ | ⟨e, _, h2⟩
    · rw [e] at hz; cases hz
    · rw [e] at c
      simp at c
      have := h2 z hz
      omega
  · have : z = y := by simpa using hz
    omega
theorem DueOf.less {ms : List Int} {due y : Int} {found : Bool} (h : DueOf ms due found) (c : (!found || decide (y < due)) = false) : DueOf (ms ++ [y]) due found := by
  rw [Bool.or_eq_false_iff] at c
  rcases h with ⟨e, _⟩ | ⟨e, h1, h2⟩
  · rw [e] at c; simp at c
  · refine .inr ⟨e, List.mem_append_left _ h1, fun z hz => ?_⟩
    rcases List.mem_append.1 hz with hz | hz
    · exact h2 z hz
    · have h3 : z = y := by simpa using hz
      have := of_decide_eq_false c.2
      omega
/-- What Next answered. -/
def NextTup (l : List EntP) (now id : Int) (d : Bytes) (is : Bool) : Prop := (is = true ∧ ∃ m, nextN l now = some m ∧ id = m.1 ∧ d = m.2.dom) ∨ (is = false ∧ nextN l now = none)
theorem next_tup {l : List EntP} {now : Int} {e : Ending} (h : NextPost l now e) : ∃ (id : Int) (d : Bytes) (is : Bool), e = .returned (.tuple #[.int .i64 id, .string ⟨d.toArray⟩, .bool is]) ∧ NextTup l now id d is := by
  rcases h with ⟨m, h, rfl⟩ | ⟨h, rfl⟩
  · exact ⟨m.1, m.2.dom, true, rfl, .inl ⟨rfl, m, h, rfl, rfl⟩⟩
  · exact ⟨0, [], false, rfl, .inr ⟨rfl, h⟩⟩
theorem first_found {l : List EntP} {now id due : Int} {d : Bytes} {is found : Bool} (h : NextTup l now id d is) (hd : DueOf (mdues id d now l) due found) : is = true → found = true := by
  intro e
  rcases h with ⟨_, m, hm, rfl, rfl⟩ | ⟨e2, _⟩
  · have h1 := (next_some hm).1
    obtain ⟨x, hx, j, hj, h2, h3, e3⟩ := mem_allDue.1 h1
    rcases hd with ⟨_, e4⟩ | ⟨e4, _⟩
    · exfalso
      have : j.due ∈ mdues m.1 m.2.dom now l := by
        unfold mdues
        refine List.mem_flatMap.2 ⟨x, hx, List.mem_map.2 ⟨j, List.mem_filter.2 ⟨hj, ?_⟩, rfl⟩⟩
        subst e3
        simp [matchJ, h2, h3]
      rw [e4] at this
      cases this
    · exact e4
  · rw [e] at e2; cases e2
theorem first_all {l : List EntP} {now id due : Int} {d : Bytes} {is found : Bool} (h : NextTup l now id d is) (hd : DueOf (mdues id d now l) due found) :
    ∀ x ∈ l, ∀ j ∈ x.jobs, j.due ≤ now → waitsM x j.dom ≠ [] → is = true ∧ ¬ j.due < due ∧ (j.due = due → ¬ x.id < id) := by
  intro x hx j hj h2 h3
  have hmem : (x.id, j) ∈ allDue l now := mem_allDue.2 ⟨x, hx, j, hj, h2, h3, rfl⟩
  have hff := first_found h hd
  rcases h with ⟨e, m, hm, rfl, rfl⟩ | ⟨e, hm⟩
  · obtain ⟨h1, hle⟩ := next_some hm
    have ha := hle _ hmem
    have hf := hff e
    rcases hd with ⟨e4, _⟩ | ⟨_, h5, h6⟩
    · rw [hf] at e4; cases e4
    · have hdue : due = m.2.due := by
        obtain ⟨y, hy, k, hk, k2, k3, e3⟩ := mem_allDue.1 h1
        have hmm : m.2.due ∈ mdues m.1 m.2.dom now l := by
          unfold mdues
          refine List.mem_flatMap.2 ⟨y, hy, List.mem_map.2 ⟨k, List.mem_filter.2 ⟨hk, ?_⟩, ?_⟩⟩
          · subst e3
            simp [matchJ, k2, k3]
          · rw [e3]
        have l1 := h6 _ hmm
        have l2 : m.2.due ≤ due := by
          unfold mdues at h5
          obtain ⟨z, hz, hz2⟩ := List.mem_flatMap.1 h5
          obtain ⟨q, hq, rfl⟩ := List.mem_map.1 hz2
          obtain ⟨hq1, hq2⟩ := List.mem_filter.1 hq
          unfold matchJ at hq2
          simp only [Bool.and_eq_true, decide_eq_true_eq] at hq2
          have := hle (z.id, q) (mem_allDue.2 ⟨z, hz, q, hq1, hq2.2.2.2, by rw [hq2.2.1]; exact hq2.2.2.1, rfl⟩)
          unfold AheadF at this
          dsimp only at this
          omega
        omega
      unfold AheadF at ha
      dsimp only at ha
      exact ⟨e, by omega, fun e => by omega⟩
  · have := next_none hm
    rw [this] at hmem
    cases hmem
/-- How an entry of a list is read, in whatever world keeps the first. -/
theorem ents_read {w : World} {b o : Nat} {l : List EntP} (hx : EntsAt w b o l) {i : Nat} {x : EntP} (hi : l[i]? = some x) : ∃ p1 c1 p2 c2 p3 c3, ∀ W, Below w.heap.size w W → EntAt W x (.slice p1 x.mail.rcpts.length c1) (.slice p2 x.fates.length c2) (.slice p3 x.jobs.length c3) ∧
    W.cell? ⟨b, o + i * 10, none⟩ = some (.int .i64 x.id) ∧ W.cell? ⟨b, o + i * 10 + 1, none⟩ = some (.int .i64 x.at_) ∧ W.cell? ⟨b, o + i * 10 + 2, none⟩ = some (.string ⟨x.mail.sender.toArray⟩) ∧ W.cell? ⟨b, o + i * 10 + 3, none⟩ = some (.slice p1 x.mail.rcpts.length c1) ∧
    W.cell? ⟨b, o + i * 10 + 4, none⟩ = some (.bool x.mail.req) ∧ W.cell? ⟨b, o + i * 10 + 5, none⟩ = some (.string ⟨x.mail.envid.toArray⟩) ∧ W.cell? ⟨b, o + i * 10 + 6, none⟩ = some (.string ⟨x.mail.text.toArray⟩) ∧ W.cell? ⟨b, o + i * 10 + 7, none⟩ = some (.bool x.plain) ∧
    W.cell? ⟨b, o + i * 10 + 8, none⟩ = some (.slice p2 x.fates.length c2) ∧ W.cell? ⟨b, o + i * 10 + 9, none⟩ = some (.slice p3 x.jobs.length c3) := by
  obtain ⟨sv, fv, jv, hE, hc⟩ := hx.ent hi (Below.refl _ _)
  obtain ⟨p1, c1, rfl, -⟩ := hE.rc.sh
  obtain ⟨p2, c2, rfl, -⟩ := hE.fa.sh
  obtain ⟨p3, c3, rfl, -⟩ := hE.jo.sh
  refine ⟨p1, c1, p2, c2, p3, c3, fun W hB => ?_⟩
  have h : ∀ (j : Nat) (u : Value), (entC x (.slice p1 x.mail.rcpts.length c1) (.slice p2 x.fates.length c2) (.slice p3 x.jobs.length c3))[j]? = some u → W.cell? ⟨b, o + i * 10 + j, none⟩ = some u := fun j u hu => (hB.cell (p := ⟨_, _, none⟩) (cell_lt (hc j u hu))).trans (hc j u hu)
  exact ⟨hE.below hB, h 0 _ rfl, h 1 _ rfl, h 2 _ rfl, h 3 _ rfl, h 4 _ rfl, h 5 _ rfl, h 6 _ rfl, h 7 _ rfl, h 8 _ rfl, h 9 _ rfl⟩
end Go.Proofs.YtdlpdpelhkgnlaaGreatDoor
