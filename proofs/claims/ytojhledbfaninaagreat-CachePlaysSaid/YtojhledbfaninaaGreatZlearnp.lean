/- The document's Learn, walked. -/
import Derived.Test.YtojhledbfaninaaGreatZof
import Derived.Deep.CutRange
import Derived.Deep.RegionLaw
namespace Go.Proofs.YtojhledbfaninaaGreat
open Go Go.RowKit Go.Shelf Go.Sort
attribute [local go_sem] bneI

/-! ### Two parts of a row -/
theorem info6 : ∃ i, Tryz.prog.info? 67 = some i ∧ i.size = 6 := by
  obtain ⟨i, hi⟩ : ∃ i, Tryz.prog.info? 67 = some i := Option.isSome_iff_exists.1 (by kernel_rfl)
  have h : (Tryz.prog.info? 67).map (fun i => i.size) = some 6 := by kernel_rfl
  rw [hi] at h
  exact ⟨i, hi, by simpa using h⟩
theorem run_pre (w : World) (p : Option Addr) (n c i : Nat) (hi : i ≤ c) : (Instr.sliceAt 58 (.slice p n c) none (some (.int .i64 (i : Int))) none).run Tryz.prog w = .ok (.slice (if c = 0 then p else p.map (·.add 0)) i c) w := by
  have hu : Tryz.prog.underlying 58 = some (.slice (Tryz.prog.elem 58)) := by kernel_rfl
  have he : Tryz.prog.elem 58 = 67 := by kernel_rfl
  obtain ⟨inf, hinf, hs⟩ := info6
  rw [run_sliceAt_slice _ _ _ _ _ _ hu, run_slice_h _ _ _ _ _ hu _ _ (by omega) (by omega)]
  simp [he, sizeOf, typeInfo, hinf, hs, sliced, Result.andThen]
theorem run_suf (w : World) (p : Option Addr) (n c i : Nat) (hi : i ≤ n) : (Instr.sliceAt 58 (.slice p n c) (some (.int .i64 (i : Int))) none none).run Tryz.prog w = .ok (.slice (if c = i then p else p.map (·.add (i * 6))) (n - i) (c - i)) w := by
  have hu : Tryz.prog.underlying 58 = some (.slice (Tryz.prog.elem 58)) := by kernel_rfl
  have he : Tryz.prog.elem 58 = 67 := by kernel_rfl
  obtain ⟨inf, hinf, hs⟩ := info6
  rw [run_sliceAt_slice _ _ _ _ _ _ hu, run_slice_l _ _ _ _ _ hu _ _ (by omega) (by omega)]
  simp [he, sizeOf, typeInfo, hinf, hs, sliced, Result.andThen]
theorem ec_append (a b : List EM) : ec (a ++ b) = ec a ++ ec b := by simp [ec]
theorem addr_add (b o k : Nat) : (⟨b, o, none⟩ : Addr).add k = ⟨b, o + k, none⟩ := by simp [Addr.add]
theorem row_two (W : World) {p : Option Addr} {c : Nat} {us : List EM} (hr : RowE W (.slice p us.length c) us) (hok : ShOk (.slice p us.length c)) (i : Nat) (hi : i ≤ us.length) :
    ∃ p1 p2 c2, (∀ w, (Instr.sliceAt 58 (.slice p us.length c) none (some (.int .i64 (i : Int))) none).run Tryz.prog w = .ok (.slice p1 i c) w) ∧
      (∀ w, (Instr.sliceAt 58 (.slice p us.length c) (some (.int .i64 (i : Int))) none none).run Tryz.prog w = .ok (.slice p2 (us.length - i) c2) w) ∧
      RowIn W W.heap.size (.slice p1 i c) i (ec (us.take i)) ∧ RowIn W W.heap.size (.slice p2 (us.length - i) c2) (us.length - i) (ec (us.drop i)) := by
  obtain ⟨hlc, hp⟩ := hok p us.length c rfl
  refine ⟨_, _, _, fun w => run_pre w p _ c i (by omega), fun w => run_suf w p _ c i hi, ?_, ?_⟩
  · by_cases hz : us = []
    · subst hz
      obtain rfl : i = 0 := by simpa using hi
      cases p with
      | none => exact .inl ⟨by rw [hp rfl]; rfl, rfl, rfl⟩
      | some a =>
        by_cases hc0 : c = 0
        · rw [if_pos hc0]
          exact .inr ⟨a, c, rfl, fun h => absurd rfl h, fun j u hj => by cases hj⟩
        · rw [if_neg hc0]
          exact .inr ⟨a.add 0, c, rfl, fun h => absurd rfl h, fun j u hj => by cases hj⟩
    · rcases hr with ⟨h0, _⟩ | ⟨_, b, o, c1, e, hcc⟩
      · exact absurd h0 hz
      · have hin := RowE.rowIn (W := W) (v := .slice p us.length c) (.inr ⟨hz, b, o, c1, e, hcc⟩) hz
        injection e with e1 _ e3
        subst e1 e3
        have hc0 : ¬ c = 0 := by have := List.length_pos_iff.2 hz; omega
        rw [if_neg hc0]
        rcases hin with ⟨h0, _⟩ | ⟨ad, c', he, hl, hc⟩
        · cases h0
        · injection he with he1 he2 he3
          injection he1 with he1
          subst he1 he3
          have hne : ec us ≠ [] := fun e => hz (by have h1 := congrArg List.length e; rw [ec_length] at h1; have h2 : ([] : List Value).length = 0 := rfl; exact List.eq_nil_of_length_eq_zero (by omega))
          refine .inr ⟨(⟨b, o, none⟩ : Addr).add 0, c, rfl, fun _ => by rw [add_block]; exact hl hne, fun j u hj => ?_⟩
          have hj' : (ec us)[j]? = some u := by
            have e : ec us = ec (us.take i) ++ ec (us.drop i) := by rw [← ec_append, List.take_append_drop]
            rw [e]
            exact (List.getElem?_append_left (List.getElem?_eq_some_iff.1 hj).1).trans hj
          have h := hc j u hj'
          rw [addr_add] at h
          rw [addr_add, addr_add]
          exact h
  · by_cases hlt : i < us.length
    · have hz : us ≠ [] := fun e => by rw [e] at hlt; simp at hlt
      rcases hr with ⟨h0, _⟩ | ⟨_, b, o, c1, e, hcc⟩
      · exact absurd h0 hz
      · have hin := RowE.rowIn (W := W) (v := .slice p us.length c) (.inr ⟨hz, b, o, c1, e, hcc⟩) hz
        injection e with e1 _ e3
        subst e1 e3
        rw [if_neg (by omega)]
        rcases hin with ⟨h0, _⟩ | ⟨ad, c', he, hl, hc⟩
        · cases h0
        · injection he with he1 he2 he3
          injection he1 with he1
          subst he1 he3
          have hne : ec us ≠ [] := fun e => hz (by have h1 := congrArg List.length e; rw [ec_length] at h1; have h2 : ([] : List Value).length = 0 := rfl; exact List.eq_nil_of_length_eq_zero (by omega))
          refine .inr ⟨(⟨b, o, none⟩ : Addr).add (i * 6), c - i, rfl, fun _ => by rw [add_block]; exact hl hne, fun j u hj => ?_⟩
          have hj' : (ec us)[i * 6 + j]? = some u := by
            have e : ec us = ec (us.take i) ++ ec (us.drop i) := by rw [← ec_append, List.take_append_drop]
            have hl1 : (ec (us.take i)).length = i * 6 := by rw [ec_length, List.length_take, Nat.min_eq_left hi]
            rw [e, List.getElem?_append_right (by omega), hl1, Nat.add_sub_cancel_left]
            exact hj
          have h := hc _ u hj'
          rw [addr_add] at h
          rw [addr_add, addr_add, Nat.add_assoc]
          exact h
    · obtain rfl : i = us.length := by omega
      have hd : us.drop us.length = [] := List.drop_length
      rw [hd, Nat.sub_self]
      cases p with
      | none =>
        have h0 := hp rfl
        have hcl : c - us.length = 0 := by omega
        exact .inl ⟨by simp [hcl], rfl, rfl⟩
      | some a =>
        by_cases hcl : c = us.length
        · rw [if_pos hcl]
          exact .inr ⟨a, _, rfl, fun h => absurd rfl h, fun j u hj => by cases hj⟩
        · rw [if_neg hcl]
          exact .inr ⟨a.add (us.length * 6), _, rfl, fun h => absurd rfl h, fun j u hj => by cases hj⟩

/-! ### What Learn does -/
theorem insE_drop (y : PE) (L : List PE) : insE y (dropE y.dom L) = insE y L := by
  unfold insE dropE
  congr 1
  · rw [List.filter_filter]
    apply List.filter_congr
    intro p _
    by_cases h : cmpB p.dom y.dom < 0
    · have : p.dom ≠ y.dom := fun e => by rw [e, cmpB_self] at h; omega
      simp [h, this]
    · simp [h]
  · congr 1
    rw [List.filter_filter]
    apply List.filter_congr
    intro p _
    by_cases h : cmpB y.dom p.dom < 0
    · have : p.dom ≠ y.dom := fun e => by rw [e, cmpB_self] at h; omega
      simp [h, this]
    · simp [h]
/-- What the document's Learn does. -/
def RLearnPost (w : World) (B : Nat → Prop) (bd : Nat) (most : Int) (zs : List EM) (x : PE) (e : Ending) (w' : World) : Prop :=
  e = .returned (.int .i64 (learnB most (zs.map (·.1)) x : Int)) ∧ (∃ zs' : List EM, zs'.map (·.1) = learnS most (zs.map (·.1)) x ∧ DocIs w' (fun k => B k ∨ w.heap.size ≤ k) bd most zs') ∧ w.grownBy w' (some bd)
theorem rlearn_same {w w' : World} {B : Nat → Prop} {bd : Nat} {most : Int} {zs : List EM} {x : PE} {v : Int} (h : DocIs w B bd most zs) (hb : Below w.heap.size w w') (hv : v = (learnB most (zs.map (·.1)) x : Int)) (hs : learnS most (zs.map (·.1)) x = zs.map (·.1)) :
    RLearnPost w B bd most zs x (.returned (.int .i64 v)) w' :=
  ⟨by rw [hv], ⟨zs, hs.symm, (h.below hb).mono fun k hk => .inl hk⟩, grownBy_of_below hb _⟩
/-- The rows behind the place that was made. -/
structure Room (most : Int) (L : List PE) (x : PE) (U : List PE) : Prop where
  asc : AscE U
  no : ∀ p ∈ U, p.dom ≠ x.dom
  len : U.length ≤ 8
  ans : learnB most L x = 0
  is : learnS most L x = insE { x with unt := x.unt + x.age } U
theorem room_drop {most : Int} {L : List PE} {x : PE} (hG : GoodE most L) (h8 : most ≤ 8) (he : ¬ (x.unt < 0 ∨ 1099511627776 < x.unt)) (hy : mayE x = true) (hf : ¬ ((dropE x.dom L).length : Int) = most) : Room most L x (dropE x.dom L) := by
  have hr : hasE x.dom L = true ∨ (L.length : Int) < most := by
    cases hh : hasE x.dom L with
    | true => exact .inl rfl
    | false =>
      rw [dropE_none hh] at hf
      have := hG.len
      exact .inr (by omega)
  refine ⟨hG.asc.filter _, fun p hp => mem_dropE hp, by have := dropE_le x.dom L; have := hG.len; omega, (learn_room he hy hr).1, ?_⟩
  rw [(learn_room he hy hr).2]
  exact (insE_drop { x with unt := x.unt + x.age } L).symm
theorem full_not {most : Int} {L : List PE} {x : PE} (hG : GoodE most L) (hf : ((dropE x.dom L).length : Int) = most) : hasE x.dom L = false ∧ ¬ (hasE x.dom L = true ∨ (L.length : Int) < most) := by
  have h1 : hasE x.dom L = false := by
    cases hh : hasE x.dom L with
    | false => rfl
    | true => have := dropE_len hG.asc hh; have := hG.len; omega
  refine ⟨h1, fun h => ?_⟩
  rcases h with h | h
  · rw [h1] at h; cases h
  · rw [dropE_none h1] at hf; omega
theorem room_goes {most : Int} {L : List PE} {x p : PE} (hG : GoodE most L) (h8 : most ≤ 8) (he : ¬ (x.unt < 0 ∨ 1099511627776 < x.unt)) (hy : mayE x = true) (hf : ((dropE x.dom L).length : Int) = most) (hg : goesE x.unt L = some p) : Room most L x (dropE p.dom L) := by
  obtain ⟨h1, h2⟩ := full_not hG hf
  refine ⟨hG.asc.filter _, fun q hq e => ?_, by have := dropE_le p.dom L; have := hG.len; omega, (learn_goes he hy h2 hg).1, (learn_goes he hy h2 hg).2⟩
  have : hasE x.dom L = true := hasE_mem.2 ⟨q, (List.mem_filter.1 hq).1, e⟩
  rw [h1] at this; cases this
end Go.Proofs.YtojhledbfaninaaGreat
