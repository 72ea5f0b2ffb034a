/- The document's own functions Cut and May on names. -/
import Derived.Test.YtojhledbfaninaaGreatCrefA
import Derived.Test.YtojhledbfaninaaGreatCone
import Derived.WalkSmall
namespace Go.Proofs.YtojhledbfaninaaGreat
open Go Go.RowKit Go.Shelf Go.Sort
theorem infoS : (Tryz.prog.info? 9).map (fun i => (i.zero, i.size, i.bytes)) = some (some (.string ⟨#[]⟩), 1, 16) := by kernel_rfl

theorem parts_whole : ∀ {p : Bytes}, (∀ x ∈ p, x ≠ 46) → parts 46 p = [p]
  | [], _ => rfl
  | x :: p, h => by
    have hx : ¬ x = 46 := h x List.mem_cons_self
    have ih := parts_whole (p := p) fun y hy => h y (List.mem_cons_of_mem _ hy)
    unfold parts
    rw [if_neg hx, ih]
theorem parts_dot : ∀ {p r : Bytes}, (∀ x ∈ p, x ≠ 46) → parts 46 (p ++ 46 :: r) = p :: parts 46 r
  | [], r, _ => by
    show parts 46 (46 :: r) = _
    rw [parts, if_pos rfl]
  | x :: p, r, h => by
    have hx : ¬ x = 46 := h x List.mem_cons_self
    have ih := parts_dot (p := p) (r := r) fun y hy => h y (List.mem_cons_of_mem _ hy)
    show parts 46 (x :: (p ++ 46 :: r)) = _
    rw [parts, if_neg hx, ih]
/-- What Cut has come to before index i. -/
structure CutAt (s : Bytes) (f i : Nat) (done : List Bytes) : Prop where
  le : f ≤ i
  le2 : i ≤ s.length + 1
  all : i ≤ s.length → parts 46 s = done ++ parts 46 (s.drop f)
  none_ : ∀ x ∈ (s.take i).drop f, x ≠ 46
  end_ : i = s.length + 1 → parts 46 s = done
theorem CutAt.start (s : Bytes) : CutAt s 0 0 [] := ⟨Nat.le_refl _, by omega, fun _ => rfl, fun x hx => by simp at hx, fun h => by omega⟩
theorem CutAt.seg {s : Bytes} {f i : Nat} (h1 : f ≤ i) (h2 : i < s.length) : s.drop f = (s.take i).drop f ++ s[i] :: s.drop (i + 1) := by
  have e : s = s.take i ++ s[i] :: s.drop (i + 1) := by
    rw [← List.drop_eq_getElem_cons h2, List.take_append_drop]
  have hl : f ≤ (s.take i).length := by rw [List.length_take]; omega
  calc s.drop f = (s.take i ++ s[i] :: s.drop (i + 1)).drop f := by rw [← e]
    _ = _ := by rw [List.drop_append_of_le_length hl]
theorem CutAt.dot {s : Bytes} {f i : Nat} {done : List Bytes} (h : CutAt s f i done) (hi : i < s.length) (hx : s[i] = 46) : CutAt s (i + 1) (i + 1) (done ++ [(s.take i).drop f]) := by
  refine ⟨Nat.le_refl _, by omega, fun _ => ?_, fun x hx => ?_, fun e => by omega⟩
  · rw [h.all (by omega), CutAt.seg h.le hi, hx, parts_dot h.none_, List.append_assoc]
    rfl
  · rw [List.drop_of_length_le (by rw [List.length_take]; omega)] at hx
    simp at hx
theorem CutAt.skip {s : Bytes} {f i : Nat} {done : List Bytes} (h : CutAt s f i done) (hi : i < s.length) (hx : ¬ s[i] = 46) : CutAt s f (i + 1) done := by
  refine ⟨by have := h.le; omega, by omega, fun _ => h.all (by omega), fun x hm => ?_, fun e => by omega⟩
  rw [List.take_succ_eq_append_getElem hi, List.drop_append_of_le_length (by rw [List.length_take]; have := h.le; omega)] at hm
  rcases List.mem_append.1 hm with h1 | h1
  · exact h.none_ x h1
  · rw [List.mem_singleton.1 h1]; exact hx
theorem CutAt.last {s : Bytes} {f : Nat} {done : List Bytes} (h : CutAt s f s.length done) : CutAt s (s.length + 1) (s.length + 1) (done ++ [s.drop f]) := by
  have hn := h.none_
  rw [List.take_length] at hn
  have e := h.all (Nat.le_refl _)
  rw [parts_whole hn] at e
  exact ⟨Nat.le_refl _, Nat.le_refl _, fun e' => by omega, fun x hx => by simp at hx, fun _ => e⟩

theorem extract_str (s : ByteArray) (f i : Nat) : Value.string (s.extract f i) = str ((s.data.toList.take i).drop f) := by
  unfold str
  congr 1
  apply ByteArray.ext
  apply Array.toList_inj.1
  simp [List.extract_eq_take_drop, List.drop_take]

set_option maxRecDepth 100000 in
set_option maxHeartbeats 1000000 in
theorem refCut_any (s : ByteArray) (w : World) (hs : s.size ≤ 1000000) :
    Calls Tryz.prog 62 #[.string s] w fun e w' => ∃ v, e = .returned v ∧ w'.ownsRow w.heap.size 9 1 v (parts 46 s.data.toList).length ((parts 46 s.data.toList).map str) ∧ Below w.heap.size w w' := by
  obtain ⟨i1, hi1, hr0, hr1, hr2⟩ := info_parts infoS
  go_enter Tryz.func62, Tryz.ntmps62
  go_wp2_with fail
  go_loopw [3, 4, 5] (fun ov fv iv wr => ∃ (i f : Nat) (done : List Bytes), iv = .int .i64 (i : Int) ∧ fv = .int .i64 (f : Int) ∧ CutAt s.data.toList f i done ∧ done.length ≤ i ∧ wr.ownsRow w.heap.size 9 1 ov done.length (done.map str) ∧ Below w.heap.size w wr)
    (fun _ _ iv _ => s.size + 1 - natI iv)
  case atStart => exact ⟨0, 0, [], rfl, rfl, CutAt.start _, Nat.le_refl _, ⟨rfl, .inl ⟨rfl, rfl⟩⟩, Below.refl _ _⟩
  case round =>
    obtain ⟨i, f, done, rfl, rfl, hcut, hdl, ho, hB⟩ := hrel
    have hsl : s.data.toList.length = s.size := by simp
    by_cases hlast : i < s.size
    · have hli : (i : Int) ≤ (s.size : Int) := by omega
      have hlx : (i : Int) < (s.size : Int) := by omega
      have hle := hcut.le
      have hfi : (f : Int) ≤ (i : Int) := by omega
      have hne : ((i : Int) == (s.size : Int)) = false := beq_eq_false_iff_ne.2 (by omega)
      have hgi : s.data.toList[i]'(by omega) = s[i] := bs_get s i hlast
      by_cases hx : (s[i].toNat : Int) = 46
      · have hx8 : s[i] = 46 := UInt8.toNat_inj.1 (by show s[i].toNat = 46; omega)
        have hnx := hcut.dot (by omega) (by rw [hgi]; exact hx8)
        have HH := Lib.hid (And.intro hnx (And.intro hdl (And.intro ho hB)))
        clear hnx hdl ho hB hcut hx8 hgi
        go_wp2_with (at_builtin; refine Bx.h ?_)
        refine ⟨?_⟩
        refine wpList_append_own _ rfl _ _ 32 rfl w.heap.size 9 i1 (.string ⟨#[]⟩) 1 16 Tryz.underlying32 hi1 hr0 hr1 hr2 rfl (by decide) _ _ _ rfl (HH.out.2.2.1.alloc _) ⟨wr.heap.size, 0, none⟩ 1 1 [.string (s.extract f i)] rfl rfl (cell_list (cs := [.string (s.extract f i)]) rfl) (by simp [Value.oneCell']) (by unfold maxLen; have := HH.out.2.1; omega) (by have := HH.out.2.1; omega) (by have := HH.out.2.2.2.size; simp; omega) ?_
        intro v' w3 hown3 hgrow3 hnil3
        have hg : wr.grownBy w3 u3.ownBlock := World.grownBy.trans (World.grownBy_alloc _ _ _) hgrow3
        have hB3 := HH.out.2.2.2.grown hg HH.out.2.2.2.size (fun k e => (HH.out.2.2.1.lt k e).1)
        rw [extract_str] at hown3
        have HZ := Lib.hid (And.intro hown3 hB3)
        clear hown3 hgrow3 hnil3 hg hB3
        go_wp2
        go_roundw
        case rel => exact ⟨i + 1, i + 1, done ++ [(s.data.toList.take i).drop f], by simp, by simp, HH.out.1, by have := HH.out.2.1; simp; omega, by rw [List.map_append, List.length_append]; exact HZ.out.1, HZ.out.2⟩
        case measure => simp [natI]; omega
      · have hx8 : ¬ s[i] = 46 := fun e => hx (by rw [e]; rfl)
        have hnx := hcut.skip (by omega) (by rw [hgi]; exact hx8)
        have hxb : ((s[i].toNat : Int) == 46) = false := beq_eq_false_iff_ne.2 hx
        have HH := Lib.hid (And.intro hnx (And.intro hdl (And.intro ho hB)))
        clear hnx hdl ho hB hcut hx8 hgi hx
        go_wp2
        go_roundw
        case rel => exact ⟨i + 1, f, done, by simp, rfl, HH.out.1, by have := HH.out.2.1; omega, HH.out.2.2.1, HH.out.2.2.2⟩
        case measure => simp [natI]; omega
    · by_cases hend : i = s.size
      · subst hend
        have hle := hcut.le
        have hfi : (f : Int) ≤ (s.size : Int) := by omega
        have hnx : CutAt s.data.toList (s.size + 1) (s.size + 1) (done ++ [s.data.toList.drop f]) := by
          have := CutAt.last (s := s.data.toList) (f := f) (done := done) (by rw [hsl]; exact hcut)
          rw [hsl] at this
          exact this
        have HH := Lib.hid (And.intro hnx (And.intro hdl (And.intro ho hB)))
        clear hnx hdl ho hB hcut
        go_wp2_with (at_builtin; refine Bx.h ?_)
        refine ⟨?_⟩
        refine wpList_append_own _ rfl _ _ 32 rfl w.heap.size 9 i1 (.string ⟨#[]⟩) 1 16 Tryz.underlying32 hi1 hr0 hr1 hr2 rfl (by decide) _ _ _ rfl (HH.out.2.2.1.alloc _) ⟨wr.heap.size, 0, none⟩ 1 1 [.string (s.extract f s.size)] rfl rfl (cell_list (cs := [.string (s.extract f s.size)]) rfl) (by simp [Value.oneCell']) (by unfold maxLen; have := HH.out.2.1; omega) (by have := HH.out.2.1; omega) (by have := HH.out.2.2.2.size; simp; omega) ?_
        intro v' w3 hown3 hgrow3 hnil3
        have hg : wr.grownBy w3 u3.ownBlock := World.grownBy.trans (World.grownBy_alloc _ _ _) hgrow3
        have hB3 := HH.out.2.2.2.grown hg HH.out.2.2.2.size (fun k e => (HH.out.2.2.1.lt k e).1)
        rw [extract_str, List.take_of_length_le (by simp)] at hown3
        have HZ := Lib.hid (And.intro hown3 hB3)
        clear hown3 hgrow3 hnil3 hg hB3
        go_wp2
        go_roundw
        case rel => exact ⟨s.size + 1, s.size + 1, done ++ [s.data.toList.drop f], by simp, by simp, HH.out.1, by have := HH.out.2.1; simp; omega, by rw [List.map_append, List.length_append]; exact HZ.out.1, HZ.out.2⟩
        case measure => simp [natI]
      · have hli : ¬ (i : Int) ≤ (s.size : Int) := by omega
        have h2 := hcut.le2
        have hfin := hcut.end_ (by omega)
        have HH := Lib.hid (And.intro hfin (And.intro ho hB))
        clear hfin ho hB hcut
        go_wp2
        refine bodyPost_ret (v := u3) (by simp [results, Tryz.results62, go_sem]) rfl ⟨u3, rfl, ?_, HH.out.2.2⟩
        rw [HH.out.1]
        exact HH.out.2.1
end Go.Proofs.YtojhledbfaninaaGreat
