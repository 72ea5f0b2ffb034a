/- The document's Of and Copy, walked. -/
import Derived.Test.YtojhledbfaninaaGreatZgoes
namespace Go.Proofs.YtojhledbfaninaaGreat
open Go Go.RowKit Go.Shelf Go.Sort
attribute [local go_sem] bneI

theorem of_none {L : List PE} (d : Bytes) (now : Int) (h : ∀ (j : Nat) (hj : j < L.length), ¬ (L[j].dom = d ∧ now < L[j].unt)) : ofE d now L = none := by
  unfold ofE
  cases hl : lookE d L with
  | none => rfl
  | some p =>
    unfold lookE at hl
    have h1 := List.mem_of_find?_eq_some hl
    have h2 := List.find?_some hl
    obtain ⟨j, hj, rfl⟩ := List.getElem_of_mem h1
    exact if_neg fun hn => h j hj ⟨of_decide_eq_true h2, hn⟩
theorem of_some {L : List PE} (hA : AscE L) {j : Nat} (hj : j < L.length) {now : Int} (h : now < L[j].unt) : ofE L[j].dom now L = some L[j] := by
  unfold ofE
  rw [of_at hA hj]
  exact if_pos h

/-- What the document's Of tells. -/
def ROfPost (zs : List EM) (d : Bytes) (now : Int) (e : Ending) : Prop :=
  (ofE d now (zs.map fun e : EM => e.1) = none ∧ e = .returned (.tuple #[evp zeroM, .bool false])) ∨ ∃ z ∈ zs, ofE d now (zs.map fun e : EM => e.1) = some z.1 ∧ e = .returned (.tuple #[evp z, .bool true])

set_option maxRecDepth 100000 in
set_option maxHeartbeats 2000000 in
theorem refOf_any (bd : Nat) (B : Nat → Prop) (most now : Int) (zs : List EM) (d : Bytes) (w : World) (h : DocIs w B bd most zs) (hA : AscE (zs.map fun e : EM => e.1)) (hn : zs.length ≤ 1000000) :
    Calls Tryz.prog 31 #[.pointer (some ⟨bd, 0, none⟩), .string ⟨d.toArray⟩, .int .i64 now] w fun e w' => ROfPost zs d now e ∧ Below w.heap.size w w' := by
  obtain ⟨W, hW⟩ : ∃ W, W = w.alloc (.cells #[.string ⟨#[]⟩, .string ⟨#[]⟩, .int .u8 0, .slice none 0 0, .int .i64 0, .int .i64 0] 67) := ⟨_, rfl⟩
  have hB : Below w.heap.size w W := by rw [hW]; exact (Below.refl _ w).alloc (Nat.le_refl _) _
  have hres : W.heap[w.heap.size]? = some (.cells #[.string ⟨#[]⟩, .string ⟨#[]⟩, .int .u8 0, .slice none 0 0, .int .i64 0, .int .i64 0] 67 (0, 0)) := by rw [hW, ha_eq rfl]
  have hD := h.below hB
  obtain ⟨v, hbox, hrow, htx⟩ := hD
  obtain ⟨p, c, rfl⟩ := hrow.sh
  have c1 : W.cell? ⟨bd, 1, none⟩ = some (.slice p zs.length c) := by simp [World.cell?, hbox]
  have HD := Lib.hid (And.intro hrow (And.intro hB (And.intro hres hA)))
  clear hrow htx hbox h hB hres hA
  go_enter Tryz.func31, Tryz.ntmps31
  go_upto_region 1 with (fail)
  rw [← hW]
  clear hW
  go_wp2_with fail
  go_loopw [8] (fun s8 wr => ∃ i : Nat, s8 = .int .i64 (i : Int) ∧ i ≤ zs.length ∧ (∀ (j : Nat) (hj : j < (zs.map fun e : EM => e.1).length), j < i → ¬ ((zs.map fun e : EM => e.1)[j].dom = d ∧ now < (zs.map fun e : EM => e.1)[j].unt)) ∧ wr = W) (fun s8 _ => zs.length - natI s8)
  case atStart => exact ⟨0, rfl, Nat.zero_le _, fun j _ h => absurd h (Nat.not_lt_zero _), rfl⟩
  case round =>
    obtain ⟨i, rfl, hi, hno, rfl⟩ := hrel
    by_cases hlast : i < zs.length
    · have hli : (i : Int) < (zs.length : Int) := by omega
      obtain ⟨b, o, hpe, hbl, hc⟩ := RowE.at HD.out.1 i hlast
      have HP := Lib.hid hpe
      subst hpe
      obtain ⟨y0, y1, y2, y3, y4, y5⟩ := hc i hlast
      have hiL : i < (zs.map fun e : EM => e.1).length := by simpa using hlast
      have hLi : (zs.map fun e : EM => e.1)[i] = zs[i].1 := by simp
      have hmem := List.getElem_mem hlast
      have HF := Lib.hid (And.intro hno (And.intro hmem hLi))
      clear hno hc hbl hmem hLi
      obtain ⟨x, hxx⟩ : ∃ x, x = zs[i] := ⟨_, rfl⟩
      rw [← hxx] at y0 y1 y2 y3 y4 y5 HF
      clear hxx
      obtain ⟨⟨e1, e2, e3, e4, e5, e6⟩, q1, q2, q3⟩ := x
      dsimp only at y0 y1 y2 y3 y4 y5
      by_cases hd : e1 = d
      · subst hd
        have h5 : ((⟨e1.toArray⟩ : ByteArray).toList == (⟨e1.toArray⟩ : ByteArray).toList) = true := beq_self_eq_true _
        have h6 : (e1 == e1) = true := beq_self_eq_true _
        have h7 : decide (e1 = e1) = true := by simp
        by_cases hu : now < e6
        · have hof := of_some HD.out.2.2.2 hiL (now := now) (by rw [HF.out.2.2]; exact hu)
          rw [HF.out.2.2] at hof
          have HO := Lib.hid hof
          clear hof
          obtain ⟨z0, z1, z2, z3, z4, z5⟩ := box6 HD.out.2.2.1
          have fz := froz6 HD.out.2.2.1
          go_wp2
          refine bodyPost_ret (v := .tuple #[.agg #[.string ⟨e1.toArray⟩, .string ⟨e2.toArray⟩, .int .u8 (e3 : Int), .slice q1 q2 q3, .int .i64 e5, .int .i64 e6], .bool true]) (by simp [results, Tryz.results31, go_sem, z0, z1, z2, z3, z4, z5]) rfl ⟨.inr ⟨(⟨e1, e2, e3, e4, e5, e6⟩, (q1, q2, q3)), HF.out.2.1, HO.out, rfl⟩, ?_⟩
          have h1 := HD.out.2.1
          repeat (first | with_reducible exact h1 | refine Below.setCell ?_ (by dsimp only; omega) _)
        · have hno2 : ∀ (j : Nat) (hj : j < (zs.map fun e : EM => e.1).length), j < i + 1 → ¬ ((zs.map fun e : EM => e.1)[j].dom = e1 ∧ now < (zs.map fun e : EM => e.1)[j].unt) := fun j hj hji => by
            by_cases hjj : j = i
            · subst hjj
              rw [HF.out.2.2]
              exact fun hh => hu hh.2
            · exact HF.out.1 j hj (by omega)
          have HN := Lib.hid hno2
          clear hno2
          go_wp2
          go_roundw
          case rel => exact ⟨i + 1, by simp, by omega, HN.out, trivial⟩
          case measure => simp [natI]; omega
      · have h5 : ((⟨e1.toArray⟩ : ByteArray).toList == (⟨d.toArray⟩ : ByteArray).toList) = false := by
          rw [ByteArray.toList_eq, ByteArray.toList_eq]
          simpa using hd
        have h6 : (e1 == d) = false := by simpa using hd
        have h7 : decide (e1 = d) = false := by simpa using hd
        have hno2 : ∀ (j : Nat) (hj : j < (zs.map fun e : EM => e.1).length), j < i + 1 → ¬ ((zs.map fun e : EM => e.1)[j].dom = d ∧ now < (zs.map fun e : EM => e.1)[j].unt) := fun j hj hji => by
          by_cases hjj : j = i
          · subst hjj
            rw [HF.out.2.2]
            exact fun hh => hd hh.1
          · exact HF.out.1 j hj (by omega)
        have HN := Lib.hid hno2
        clear hno2 hd
        go_wp2
        go_roundw
        case rel => exact ⟨i + 1, by simp, by omega, HN.out, trivial⟩
        case measure => simp [natI]; omega
    · have hli : ¬ (i : Int) < (zs.length : Int) := by omega
      have hof := of_none d now (L := zs.map fun e : EM => e.1) (fun j hj => hno j hj (by simp at hj; omega))
      have HO := Lib.hid hof
      clear hof hno
      obtain ⟨z0, z1, z2, z3, z4, z5⟩ := box6 HD.out.2.2.1
      have fz := froz6 HD.out.2.2.1
      go_wp2
      refine bodyPost_ret (v := .tuple #[.agg #[.string ⟨#[]⟩, .string ⟨#[]⟩, .int .u8 0, .slice none 0 0, .int .i64 0, .int .i64 0], .bool false]) (by simp [results, Tryz.results31, go_sem, z0, z1, z2, z3, z4, z5]) rfl ⟨.inl ⟨HO.out, rfl⟩, ?_⟩
      have h1 := HD.out.2.1
      repeat (first | with_reducible exact h1 | refine Below.setCell ?_ (by dsimp only; omega) _)

set_option maxRecDepth 100000 in
theorem refCopyC_any (bd : Nat) (B : Nat → Prop) (most : Int) (zs : List EM) (w : World) (h : DocIs w B bd most zs) :
    Calls Tryz.prog 9 #[.pointer (some ⟨bd, 0, none⟩)] w fun e w' => e = .returned (.pointer (some ⟨w.heap.size, 0, none⟩)) ∧ DocIs w' B w.heap.size most zs ∧ Below w.heap.size w w' := by
  obtain ⟨v, hbox, hrow, htx⟩ := h
  obtain ⟨p, c, rfl⟩ := hrow.sh
  have c0 : w.cell? ⟨bd, 0, none⟩ = some (.int .i64 most) := by simp [World.cell?, hbox]
  have c1 : w.cell? ⟨bd, 1, none⟩ = some (.slice p zs.length c) := by simp [World.cell?, hbox]
  have HD := Lib.hid (And.intro hrow htx)
  clear hrow htx hbox
  go_enter Tryz.func9, Tryz.ntmps9
  go_wp2_with fail
  refine wp_region_still_tail 9 (by kernel_rfl) (by kernel_rfl) ?_
  simp only [List.take_succ_cons, List.take_zero, List.drop_succ_cons, List.drop_zero]
  replace c0 : w.drew.cell? ⟨bd, 0, none⟩ = some (.int .i64 most) := c0
  replace c1 : w.drew.cell? ⟨bd, 1, none⟩ = some (.slice p zs.length c) := c1
  show wpStill Tryz.prog _ w.drew (fun a' => wpList _ _ _ _ a' w.drew) _ _
  repeat still_step
  refine wpStill_nil ?_
  go_wp2
  have hb : Below w.heap.size w (w.drew.alloc (.cells #[.int .i64 most, .slice p zs.length c] 60)) := (below_drew w).alloc (Nat.le_refl _) _
  refine bodyPost_ret (v := .pointer (some ⟨w.heap.size, 0, none⟩)) (by simp [results, Tryz.results9, go_sem]) rfl ⟨rfl, ⟨_, heap_new rfl, HD.out.1.below hb, HD.out.2.1.below hb, HD.out.2.2⟩, hb⟩
end Go.Proofs.YtojhledbfaninaaGreat
