/- The plain law of TallyOrder: whatever the order, the same rows. -/
import Derived.Test.YthhcigmdocldnaaDoorPlayA
namespace Go.Proofs.YthhcigmdocldnaaDoor
open Go Go.RowKit Go.Shelf Go.Sort

theorem Inv.doms {names : Int} {l : Ent} {acc : List Res} (h : Inv names l acc) (d : Bytes) : d ∈ domsL l ↔ ∃ r ∈ acc, r.1.1 = d := by
  rw [mem_domsL]
  constructor
  · intro hd
    obtain ⟨y, hy, rfl⟩ := List.mem_map.1 hd
    obtain ⟨k, hk⟩ := (h.keys y.1).1 (List.mem_map.2 ⟨y, hy, rfl⟩)
    exact ⟨_, hk, rfl⟩
  · rintro ⟨r, hr, rfl⟩
    have : r.1 ∈ l.map (·.1) := (h.keys r.1).2 ⟨r.2, hr⟩
    obtain ⟨y, hy, e⟩ := List.mem_map.1 this
    exact List.mem_map.2 ⟨y, hy, by rw [e]⟩
theorem addB_cases (names : Int) (l : Ent) (r : Res) : (okR r = false ∧ addB names l r.1.1 r.1.2 r.2 = 4) ∨ (okR r = true ∧ roomB names l r.1.1 = false ∧ addB names l r.1.1 r.1.2 r.2 = 41) ∨ (okR r = true ∧ roomB names l r.1.1 = true ∧ addB names l r.1.1 r.1.2 r.2 = 0) := by
  unfold okR addB
  cases hk : (kindB (r.1.2 : Int) (r.2 : Int) && mayB r.1.1)
  · exact .inl ⟨rfl, rfl⟩
  · cases hr : roomB names l r.1.1
    · exact .inr (.inl ⟨rfl, rfl, rfl⟩)
    · exact .inr (.inr ⟨rfl, rfl, rfl⟩)
/-- What is counted behind one more. -/
def accS (names : Int) (l : Ent) (acc : List Res) (r : Res) : List Res := if addB names l r.1.1 r.1.2 r.2 = 0 then acc ++ [r] else acc
theorem acc_step {names : Int} {l : Ent} {acc : List Res} {r : Res} (h : ¬ addB names l r.1.1 r.1.2 r.2 = 41) : accS names l acc r = acc ++ [r].filter okR := by
  unfold accS
  rcases addB_cases names l r with ⟨h1, h2⟩ | ⟨_, _, h2⟩ | ⟨h1, _, h2⟩
  · rw [h2, if_neg (by decide), List.filter_cons_of_neg (by rw [h1]; simp)]; simp
  · exact absurd h2 h
  · rw [h2, if_pos rfl, List.filter_cons_of_pos h1]; rfl
/-- Where all fitted, none is too much in another order. -/
theorem no_full {names : Int} {la l : Ent} {rs acc : List Res} (ha : Inv names la (rs.filter okR)) (h : Inv names l acc) (hs : ∀ r ∈ acc, r ∈ rs) {r : Res} (hr : r ∈ rs) : ¬ addB names l r.1.1 r.1.2 r.2 = 41 := by
  rcases addB_cases names l r with ⟨h1, h2⟩ | ⟨h1, h3, h2⟩ | ⟨h1, _, h2⟩
  · rw [h2]; decide
  · intro _
    unfold roomB at h3
    rw [Bool.or_eq_false_iff] at h3
    have hle : ¬ ((domsL l).length : Int) < names := of_decide_eq_false h3.1
    have hno : r.1.1 ∉ domsL l := of_decide_eq_false h3.2
    have hnd : (r.1.1 :: domsL l).Nodup := List.nodup_cons.2 ⟨hno, (asc_domsL l).nodup ordB⟩
    have := sub_len (m := domsL la) hnd (fun x hx => by
      rw [ha.doms]
      rcases List.mem_cons.1 hx with rfl | hx
      · exact ⟨r, List.mem_filter.2 ⟨hr, h1⟩, rfl⟩
      · obtain ⟨y, hy, rfl⟩ := (h.doms x).1 hx
        exact ⟨y, List.mem_filter.2 ⟨hs y hy, h.ok y hy⟩, rfl⟩)
    have hroom := ha.room
    simp only [List.length_cons] at this
    omega
  · rw [h2]; decide

/-- Which one comes at i. -/
def jAt (n k : Nat) (back : Bool) (i : Nat) : Nat := if back then n - 1 - (i + k) % n else (i + k) % n
theorem mod_two {n k i : Nat} (hi : i < n) (hk : k < n) : (i + k) % n = if i + k < n then i + k else i + k - n := by
  split
  · rename_i h; exact Nat.mod_eq_of_lt h
  · rename_i h
    rw [Nat.mod_eq_sub_mod (by omega), Nat.mod_eq_of_lt (by omega)]
theorem jAt_lt {n k i : Nat} {back : Bool} (h : 0 < n) : jAt n k back i < n := by
  have := Nat.mod_lt (i + k) h
  unfold jAt
  split <;> omega
theorem jAt_inj {n k i i' : Nat} {back : Bool} (hk : k < n) (hi : i < n) (hi' : i' < n) (e : jAt n k back i = jAt n k back i') : i = i' := by
  have h := Nat.mod_lt (i + k) (show 0 < n by omega)
  have h' := Nat.mod_lt (i' + k) (show 0 < n by omega)
  have e' : (i + k) % n = (i' + k) % n := by
    unfold jAt at e
    split at e <;> omega
  rw [mod_two hi hk, mod_two hi' hk] at e'
  split at e' <;> split at e' <;> omega
theorem perm_jAt {n k : Nat} {back : Bool} (hk : k < n) : ((List.range n).map (jAt n k back)).Perm (List.range n) := by
  refine perm_of_sub ?_ ?_ (by simp)
  · refine List.pairwise_map.2 ?_
    refine List.Pairwise.imp_of_mem ?_ (List.nodup_range (n := n))
    intro a b ha hb hab e
    exact hab (jAt_inj hk (List.mem_range.1 ha) (List.mem_range.1 hb) e)
  · intro x hx
    obtain ⟨i, _, rfl⟩ := List.mem_map.1 hx
    exact List.mem_range.2 (jAt_lt (by omega))
/-- The results in their other order, as far as i. -/
def turned (rs : List Res) (k : Nat) (back : Bool) (i : Nat) : List Res := (List.range i).map fun j => rs.getD (jAt rs.length k back j) (([], 0), 0)
theorem turned_succ (rs : List Res) (k : Nat) (back : Bool) (i : Nat) (h : jAt rs.length k back i < rs.length) : turned rs k back (i + 1) = turned rs k back i ++ [rs[jAt rs.length k back i]] := by
  unfold turned
  rw [List.range_succ, List.map_append]
  congr 1
  simp [h]
theorem map_getD (rs : List Res) : (List.range rs.length).map (fun j => rs.getD j (([], 0), 0)) = rs := by
  apply List.ext_getElem
  · simp
  · intro i h1 h2
    simp [h2]
theorem perm_turned {rs : List Res} {k : Nat} {back : Bool} (hk : k < rs.length) : (turned rs k back rs.length).Perm rs := by
  have h := (perm_jAt (back := back) hk).map fun j => rs.getD j (([], 0), 0)
  rw [map_getD, List.map_map] at h
  exact h
theorem mem_turned {rs : List Res} {k : Nat} {back : Bool} (hk : k < rs.length) {i : Nat} {r : Res} (h : r ∈ turned rs k back i) : r ∈ rs := by
  obtain ⟨j, _, rfl⟩ := List.mem_map.1 h
  have := jAt_lt (n := rs.length) (k := k) (i := j) (back := back) (by omega)
  show rs.getD _ _ ∈ rs
  rw [List.getD_eq_getElem?_getD, List.getElem?_eq_getElem this]
  exact List.getElem_mem this
end Go.Proofs.YthhcigmdocldnaaDoor
