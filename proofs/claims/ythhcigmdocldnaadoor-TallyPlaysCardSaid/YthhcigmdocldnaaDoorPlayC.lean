/- The plain law of TallyBack: a tally of rows goes on as the one whose rows they were. -/
import Derived.Test.YthhcigmdocldnaaDoorPlayB
import Derived.Test.YthhcigmdocldnaaDoorOfB
namespace Go.Proofs.YthhcigmdocldnaaDoor
open Go Go.RowKit Go.Shelf Go.Sort

theorem rows_fst (l : Ent) (ps : List (Bytes × Nat)) : (rowsOf l ps).map (·.1) = ps := by
  unfold rowsOf
  rw [List.map_map]
  exact List.map_id ps
theorem look_rows (l : Ent) : ∀ (ps : List (Bytes × Nat)) (p : Bytes × Nat), look (rowsOf l ps) p = if p ∈ ps then some (cnt l p) else none
  | [], p => by simp [rowsOf, look]
  | q :: ps, p => by
    have ih := look_rows l ps p
    unfold look rowsOf at ih ⊢
    rw [List.map_cons, List.find?_cons]
    by_cases h : q = p
    · subst h; simp
    · have h' : ¬ p = q := fun e => h e.symm
      simp only [h, decide_false]
      rw [ih]
      simp [h']
theorem Inv.rowsInv {names : Int} {l : Ent} {acc : List Res} (h : Inv names l acc) {ps : List (Bytes × Nat)} (hp : Places l ps) : Inv names (rowsOf l ps) acc where
  nodup := by rw [rows_fst]; exact hp.asc.nodup ordP
  keys := by
    intro p
    rw [rows_fst, hp.perm.mem_iff, h.keys]
  cnts := by
    intro p
    show (look (rowsOf l ps) p).getD _ = _
    rw [look_rows]
    by_cases hm : p ∈ ps
    · rw [if_pos hm]
      exact h.cnts p
    · rw [if_neg hm]
      have h0 := h.cnts p
      have hn : look l p = none := by
        rw [look_none]
        have : ¬ has l p = true := fun e => hm (hp.perm.mem_iff.2 (has_mem.1 e))
        simpa using this
      unfold cnt at h0
      rw [hn] at h0
      exact h0
  ok := h.ok
  room := by
    have e : domsL (rowsOf l ps) = domsL l := domsL_uniq (asc_domsL _) fun d => by
      rw [mem_domsL]
      constructor
      · intro hd
        obtain ⟨y, hy, rfl⟩ := List.mem_map.1 hd
        have : y.1 ∈ ps := by rw [← rows_fst l ps]; exact List.mem_map.2 ⟨y, hy, rfl⟩
        obtain ⟨z, hz, e⟩ := List.mem_map.1 (hp.perm.mem_iff.1 this)
        exact List.mem_map.2 ⟨z, hz, by rw [e]⟩
      · intro hd
        obtain ⟨y, hy, rfl⟩ := List.mem_map.1 hd
        have : y.1 ∈ ps := hp.perm.mem_iff.2 (List.mem_map.2 ⟨y, hy, rfl⟩)
        rw [← rows_fst l ps] at this
        obtain ⟨z, hz, e⟩ := List.mem_map.1 this
        exact List.mem_map.2 ⟨z, hz, by rw [e]⟩
    rw [e]
    exact h.room
theorem kind0_of {t what : Nat} (h : kindB (t : Int) (what : Int) = true) : kindB (t : Int) 0 = true := by
  unfold kindB at h ⊢
  by_cases h1 : (t : Int) = 1
  · simp [h1]
  · by_cases h2 : (t : Int) = 2
    · simp [h2]
    · by_cases h3 : (t : Int) = 3
      · simp [h3]
      · simp [h1, h2, h3] at h
/-- A tally's rows may be. -/
theorem Inv.rowOk {names : Int} {l : Ent} {acc : List Res} (h : Inv names l acc) (hlim : ∀ r ∈ acc, r.1.1.length ≤ maxLen ∧ r.1.2 < 256) {ps : List (Bytes × Nat)} (hp : Places l ps) : ∀ x ∈ rowsOf l ps, RowOk x := by
  intro x hx
  obtain ⟨p, hpm, rfl⟩ := List.mem_map.1 hx
  obtain ⟨k0, hk0⟩ := (h.keys p).1 (hp.perm.mem_iff.1 hpm)
  have hok := h.ok _ hk0
  have hlt := okR_lt hok
  unfold okR at hok
  rw [Bool.and_eq_true] at hok
  have hc := h.cnts p
  have hget : ∀ k, k < 11 → (cnt l p).getD k 0 = (manyR acc (p, k) : Int) := by
    intro k hk
    rw [hc]
    simp [hk]
  have hmany : ∀ k, 0 < manyR acc (p, k) ↔ (p, k) ∈ acc := by
    intro k
    unfold manyR
    rw [List.countP_pos_iff]
    constructor
    · rintro ⟨a, ha, hd⟩
      have := of_decide_eq_true hd
      rw [← this]; exact ha
    · intro hm
      exact ⟨_, hm, decide_eq_true rfl⟩
  refine ⟨by show (cnt l p).length = 11; rw [hc]; simp, ?_, ?_, kind0_of hok.1, hok.2, ⟨k0, hlt, ?_⟩, (hlim _ hk0).1, (hlim _ hk0).2⟩
  · intro a ha
    have ha' : a ∈ cnt l p := ha
    rw [hc] at ha'
    obtain ⟨k, _, rfl⟩ := List.mem_map.1 ha'
    omega
  · intro k hk hpos
    have hpos' : 0 < (cnt l p).getD k 0 := hpos
    rw [hget k hk] at hpos'
    have hm := (hmany k).1 (by omega)
    have := h.ok _ hm
    unfold okR at this
    rw [Bool.and_eq_true] at this
    exact this.1
  · show 0 < (cnt l p).getD k0 0
    rw [hget k0 hlt]
    have := (hmany k0).2 hk0
    omega
/-- Two tallies of the same results answer the same. -/
theorem Inv.same {names : Int} {l l' : Ent} {acc : List Res} (h : Inv names l acc) (h' : Inv names l' acc) (r : Res) : addB names l r.1.1 r.1.2 r.2 = addB names l' r.1.1 r.1.2 r.2 := by
  have e : domsL l = domsL l' := Asc.uniq ordB (asc_domsL l) (asc_domsL l') fun d => by rw [h.doms, h'.doms]
  unfold addB roomB
  rw [e]
theorem Inv.sameAcc {names : Int} {l l' : Ent} {acc : List Res} (h : Inv names l acc) (h' : Inv names l' acc) (r : Res) : accS names l acc r = accS names l' acc r := by
  unfold accS
  rw [h.same h' r]
theorem accS_mem {names : Int} {l : Ent} {acc : List Res} {r x : Res} (h : x ∈ accS names l acc r) : x ∈ acc ∨ x = r := by
  unfold accS at h
  split at h
  · simpa using h
  · exact .inl h
end Go.Proofs.YthhcigmdocldnaaDoor
