/- The law's one and told: entries as the document's; the document's Same of two policies, of two lists. -/
import Derived.Test.YtojhledbfaninaaCback
import Derived.Test.YtojhledbfaninaaApp
namespace Go.Proofs.Ytojhledbfaninaa
open Go Go.RowKit Go.Shelf Go.Sort
attribute [local go_sem] bneI

set_option maxRecDepth 100000 in
theorem one_any (x : EM) (w : World) : Calls Try.prog 23 #[evp x] w fun e w' => e = .returned (evp x) ∧ Below w.heap.size w w' := by
  obtain ⟨⟨d, i, m, mx, age, unt⟩, p, n, c⟩ := x
  rw [lit_ev]
  go_enter Try.func23, Try.ntmps23
  go_wp2
  refine bodyPost_ret (v := .agg #[.string ⟨d.toArray⟩, .string ⟨i.toArray⟩, .int .u8 (m : Int), .slice p n c, .int .i64 age, .int .i64 unt]) (by simp [results, Try.results23, go_sem]) rfl ⟨rfl, ?_⟩
  repeat (first | exact ((Below.refl _ w).alloc (Nat.le_refl _) _).alloc (by simp) _ | refine Below.setCell ?_ (by simp) _)

theorem infoR : (Try.prog.info? 59).map (fun i => (i.zero, i.size, i.bytes)) = some (some (.agg #[.string ⟨#[]⟩, .string ⟨#[]⟩, .int .u8 0, .slice none 0 0, .int .i64 0, .int .i64 0]), 6, 80) := by kernel_rfl
theorem rowE_own {W : World} {base : Nat} {T : TypeId} {v : Value} {zs : List EM} (h : W.ownsRow base T 6 v zs.length (ec zs)) : RowE W v zs := by
  by_cases hz : zs = []
  · subst hz
    rcases h.2 with ⟨rfl, _⟩ | ⟨g, cap, cur, rfl, _⟩
    · exact .inl ⟨rfl, none, 0, rfl⟩
    · exact .inl ⟨rfl, _, cap, rfl⟩
  · have hlen : 0 < zs.length := List.length_pos_iff.2 hz
    have h' := h
    rcases h'.2 with ⟨rfl, h0⟩ | ⟨g, cap, cur, rfl, _, hg, hcap, ht⟩
    · simp at h0; exact absurd h0 hz
    · have hr : ERow W g zs := erow_own hg (by simpa using ht.2.2)
      exact .inr ⟨hz, g, 0, cap, rfl, fun i hi k u hu => by rw [Nat.zero_add]; exact (hr.cell hi hu).1⟩

set_option maxRecDepth 100000 in
set_option maxHeartbeats 1000000 in
theorem told_any (v : Value) (zs : List EM) (w : World) (h : RowE w v zs) (hn : zs.length ≤ 1000000) :
    Calls Try.prog 20 #[v] w fun e w' => ∃ v', e = .returned v' ∧ RowE w' v' zs ∧ Below w.heap.size w w' := by
  obtain ⟨p, c, rfl⟩ := h.sh
  have HH := Lib.hid h
  clear h
  obtain ⟨i1, hi1, hr0, hr1, hr2⟩ := info_parts infoR
  go_enter Try.func20, Try.ntmps20
  go_wp2_with fail
  go_loopw [3, 4] (fun o iv wr => ∃ i : Nat, iv = .int .i64 (i : Int) ∧ i ≤ zs.length ∧ wr.ownsRow w.heap.size 59 6 o i (ec (zs.take i)) ∧ Below w.heap.size w wr)
    (fun _ iv _ => zs.length - natI iv)
  case atStart => exact ⟨0, rfl, Nat.zero_le _, ⟨rfl, .inl ⟨rfl, rfl⟩⟩, Below.refl _ _⟩
  case round =>
    obtain ⟨i, rfl, hi, ho, hB⟩ := hrel
    by_cases hlast : i < zs.length
    · have hli : (i : Int) < (zs.length : Int) := by omega
      obtain ⟨b, o, rfl, hbl, hc⟩ := RowE.at HH.out i hlast
      obtain ⟨y0, y1, y2, y3, y4, y5⟩ := hc i hlast
      replace y0 := six_below hB hbl y0
      replace y1 := six_below hB hbl y1
      replace y2 := six_below hB hbl y2
      replace y3 := six_below hB hbl y3
      replace y4 := six_below hB hbl y4
      replace y5 := six_below hB hbl y5
      have hone := one_any zs[i] wr
      have hnx : ec (zs.take (i + 1)) = ec (zs.take i) ++ ecells zs[i] := by rw [List.take_succ_eq_append_getElem hlast, ec_snoc]
      have HF := Lib.hid (And.intro ho (And.intro hB hnx))
      clear ho hB hnx hc hbl
      obtain ⟨x, hxx⟩ : ∃ x, x = zs[i] := ⟨_, rfl⟩
      rw [← hxx] at y0 y1 y2 y3 y4 y5 hone HF
      clear hxx
      obtain ⟨⟨d1, q1, k1, m1, a1, u1⟩, p1, n1, cc1⟩ := x
      dsimp only at y0 y1 y2 y3 y4 y5
      rw [lit_ev] at hone
      go_wp2_with fail
      refine hone.mono ?_
      rintro e w2 ⟨rfl, hb2⟩
      clear hone y0 y1 y2 y3 y4 y5
      have HG := Lib.hid (And.intro (HF.out.1.kept (grownBy_of_below hb2 none) (Classical.em _)) hb2)
      clear hb2
      go_wp2_with (at_builtin; refine Bx.h ?_)
      refine ⟨?_⟩
      refine wpList_append_own _ rfl _ _ 50 rfl w.heap.size 59 i1 (.agg #[.string ⟨#[]⟩, .string ⟨#[]⟩, .int .u8 0, .slice none 0 0, .int .i64 0, .int .i64 0]) 6 80 Try.underlying50 hi1 hr0 hr1 hr2 rfl (by decide) _ _ _ rfl (HG.out.1.alloc _) ⟨w2.heap.size, 0, none⟩ 1 1 (ecells (⟨d1, q1, k1, m1, a1, u1⟩, p1, n1, cc1)) rfl rfl (cell_list (cs := ecells (⟨d1, q1, k1, m1, a1, u1⟩, p1, n1, cc1)) rfl) (ecells_one _) (by unfold maxLen; omega) (by omega) (by have h1 := HF.out.2.1.size; have h2 := HG.out.2.size; simp; omega) ?_
      intro v' w3 hown3 hgrow3 hnil3
      have hg : wr.grownBy w3 u3.ownBlock := World.grownBy.trans (World.grownBy.trans (grownBy_of_below HG.out.2 _) (World.grownBy_alloc _ _ _)) hgrow3
      have hB3 := HF.out.2.1.grown hg HF.out.2.1.size (fun k e => (HF.out.1.lt k e).1)
      rw [← HF.out.2.2] at hown3
      have HZ := Lib.hid (And.intro hown3 hB3)
      clear hown3 hgrow3 hnil3 hg hB3
      go_wp2
      go_roundw
      case rel => exact ⟨i + 1, by simp, by omega, HZ.out.1, HZ.out.2⟩
      case measure => simp [natI]; omega
    · have hli : ¬ (i : Int) < (zs.length : Int) := by omega
      obtain rfl : i = zs.length := by omega
      rw [List.take_length] at ho
      have HB := Lib.hid (And.intro ho hB)
      clear ho hB
      go_wp2
      refine bodyPost_ret (v := u3) (by simp [results, Try.results20, go_sem]) rfl ?_
      exact ⟨u3, rfl, rowE_own HB.out.1, HB.out.2⟩
end Go.Proofs.Ytojhledbfaninaa
