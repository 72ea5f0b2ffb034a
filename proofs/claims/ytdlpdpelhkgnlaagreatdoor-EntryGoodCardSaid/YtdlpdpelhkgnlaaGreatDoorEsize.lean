/- The laws' own helper: size. -/
import Derived.Test.YtdlpdpelhkgnlaaGreatDoorMc
namespace Go.Proofs.YtdlpdpelhkgnlaaGreatDoor
open Go Go.RowKit Go.Shelf Go.Sort
attribute [local go_sem] bneI

/-- What a size below 9000 says. -/
structure SmallM (m : MailP) : Prop where
  sender : m.sender.length < 9000
  envid : m.envid.length < 9000
  text : m.text.length < 9000
  rcpts : m.rcpts.length < 900
  tos : ∀ r ∈ m.rcpts, r.1.length < 9000
def SizePost (m : MailP) (e : Ending) : Prop := ∃ k : Nat, e = .returned (.int .i64 (k : Int)) ∧ k ≤ 9000 ∧ (k < 9000 → SmallM m)
set_option maxRecDepth 100000 in
set_option maxHeartbeats 4000000 in
theorem size_any (m : MailP) (sv : Value) (w : World) (hr : RowK 2 rcE w sv m.rcpts) :
    Calls Tryz.prog 9 #[mailV m sv] w fun e w' => SizePost m e ∧ Below w.heap.size w w' := by
  obtain ⟨p, c, rfl, -⟩ := hr.sh
  obtain ⟨W1, hW1⟩ : ∃ W1, W1 = (w.alloc (.cells (mailC m (.slice p m.rcpts.length c)).toArray 24)) := ⟨_, rfl⟩
  have hB1 : Below w.heap.size w W1 := by rw [hW1]; exact (Below.refl _ w).alloc (Nat.le_refl _) _
  have hb1 : W1.heap[w.heap.size]? = some (.cells (mailC m (.slice p m.rcpts.length c)).toArray 24 (0, 0)) := by rw [hW1]; exact ha_eq rfl
  have HX := Lib.hid (And.intro (hr.below hB1) (And.intro hB1 hb1))
  unfold mailV
  unfold mailC at hW1 hb1 ⊢
  obtain ⟨x0, x1, x2, x3, x4⟩ := mbox hb1
  clear hr hB1 hb1
  have a1 : wrap64 (min 9000 (m.sender.length : Int) + min 9000 (m.envid.length : Int)) = min 9000 (m.sender.length : Int) + min 9000 (m.envid.length : Int) := by unfold wrap64; omega
  have a2 : wrap64 (min 9000 (m.sender.length : Int) + min 9000 (m.envid.length : Int) + min 9000 (m.text.length : Int)) = min 9000 (m.sender.length : Int) + min 9000 (m.envid.length : Int) + min 9000 (m.text.length : Int) := by unfold wrap64; omega
  go_enter Tryz.func9, Tryz.ntmps9
  go_upto_region 1 with (fail)
  rw [← hW1]
  clear hW1
  go_wp2_with fail
  obtain ⟨n0, hn0⟩ : ∃ n0 : Nat, min 9000 (m.sender.length : Int) + min 9000 (m.envid.length : Int) + min 9000 (m.text.length : Int) = (n0 : Int) := ⟨(min 9000 (m.sender.length : Int) + min 9000 (m.envid.length : Int) + min 9000 (m.text.length : Int)).toNat, by omega⟩
  rw [hn0]
  have HN := Lib.hid hn0
  have HX1 := Lib.hid x1
  clear hn0 a1 a2 x0 x1 x2 x3 x4
  go_loopw [3, 4] (fun s3 s4 wr => ∃ (i n : Nat), s3 = .int .i64 (n : Int) ∧ s4 = .int .i64 (i : Int) ∧ i ≤ m.rcpts.length ∧ n0 ≤ n ∧ 10 * i ≤ n ∧ n ≤ 36020 ∧ (∀ r ∈ m.rcpts.take i, n < 9000 → r.1.length < 9000) ∧ Below W1.heap.size W1 wr) (fun _ s4 _ => m.rcpts.length - natI s4)
  case atStart => exact ⟨0, n0, rfl, rfl, Nat.zero_le _, Nat.le_refl _, by omega, by have := HN.out; omega, by simp, Below.refl _ _⟩
  case round =>
    obtain ⟨i, n, rfl, rfl, hi, hn0, hin, hn, hts, hB⟩ := hrel
    have x1 := (hB.cell (p := ⟨_, _, none⟩) (cell_lt HX1.out)).trans HX1.out
    have HR := Lib.hid (And.intro hn0 (And.intro hin (And.intro hts (And.intro hn hB))))
    clear hn0 hin hts hB
    by_cases hlast : i < m.rcpts.length
    · have hli : (i : Int) < (m.rcpts.length : Int) := by omega
      by_cases hsm : n < 9000
      · have hsi : (n : Int) < 9000 := by omega
        obtain ⟨b, o, rfl, hc⟩ := (HX.out.1.below HR.out.2.2.2.2).at i hlast
        have hc' := hc i hlast
        have y0 : wr.cell? ⟨b, o + i * 2, none⟩ = some (.string ⟨m.rcpts[i].1.toArray⟩) := hc' 0 _ rfl
        clear hc hc'
        have htk : m.rcpts.take (i + 1) = m.rcpts.take i ++ [m.rcpts[i]] := List.take_succ_eq_append_getElem hlast
        obtain ⟨r, hr⟩ : ∃ r, r = m.rcpts[i] := ⟨_, rfl⟩
        rw [← hr] at y0 htk
        clear hr
        have hi63 : i < 9000 := by have := HR.out.2.1; omega
        have hw1 : wrap64 ((i : Int) + 1) = (i : Int) + 1 := by unfold wrap64; omega
        have a1 : wrap64 ((n : Int) + 10) = (n : Int) + 10 := by unfold wrap64; omega
        have a2 : wrap64 ((n : Int) + 10 + min 9000 (r.1.length : Int)) = (n : Int) + 10 + min 9000 (r.1.length : Int) := by unfold wrap64; omega
        have hnx : ∀ q ∈ m.rcpts.take (i + 1), n + 10 + min 9000 r.1.length < 9000 → q.1.length < 9000 := by
          intro q hq hlt
          rw [htk] at hq
          rcases List.mem_append.1 hq with hq | hq
          · exact HR.out.2.2.1 q hq (by omega)
          · have : q = r := by simpa using hq
            subst this
            omega
        have HNX := Lib.hid hnx
        clear hnx htk
        go_wp2
        go_roundw
        case rel => exact ⟨i + 1, n + 10 + min 9000 r.1.length, by simp; omega, by simp, by omega, by have := HR.out.1; omega, by have := HR.out.2.1; omega, by omega, HNX.out, HR.out.2.2.2.2⟩
        case measure => simp [natI]; omega
      · have hsi : ¬ (n : Int) < 9000 := by omega
        go_wp2
        refine bodyPost_ret (v := .int .i64 (min 9000 (n : Int))) (by simp [results, Tryz.results9, go_sem]) rfl ⟨⟨9000, by congr 2; omega, Nat.le_refl _, fun h => absurd h (by omega)⟩, HX.out.2.1.trans (HR.out.2.2.2.2.mono HX.out.2.1.size)⟩
    · have hli : ¬ (i : Int) < (m.rcpts.length : Int) := by omega
      have hie : i = m.rcpts.length := by omega
      have hall := HR.out.2.2.1
      rw [List.take_of_length_le (by omega)] at hall
      have hS : min 9000 n < 9000 → SmallM m := fun h => ⟨by have := HN.out; have := HR.out.1; omega, by have := HN.out; have := HR.out.1; omega, by have := HN.out; have := HR.out.1; omega, by have := HR.out.2.1; omega, fun r hr => hall r hr (by omega)⟩
      have HS := Lib.hid hS
      clear hS hall hie
      go_wp2
      refine bodyPost_ret (v := .int .i64 (min 9000 (n : Int))) (by simp [results, Tryz.results9, go_sem]) rfl ⟨⟨min 9000 n, by congr 2; omega, by omega, HS.out⟩, HX.out.2.1.trans (HR.out.2.2.2.2.mono HX.out.2.1.size)⟩
end Go.Proofs.YtdlpdpelhkgnlaaGreatDoor
