/- The document's cache, walked: less, goes, without, Of, Copy. -/
import Derived.Test.YtojhledbfaninaaGreatZpl
import Derived.Test.YtojhledbfaninaaGreatZnew
namespace Go.Proofs.YtojhledbfaninaaGreat
open Go Go.RowKit Go.Shelf Go.Sort
attribute [local go_sem] bneI

theorem bytes_lt (a b : Bytes) : Op.bytesLess (⟨a.toArray⟩ : ByteArray).toList (⟨b.toArray⟩ : ByteArray).toList = decide (cmpB a b < 0) := by
  rw [ByteArray.toList_eq, ByteArray.toList_eq, less_cmp]

set_option maxRecDepth 100000 in
set_option maxHeartbeats 1000000 in
theorem less_any (x y : EM) (w : World) : Calls Tryz.prog 49 #[evp x, evp y] w fun e w' => e = .returned (.bool (lessB x.1 y.1)) ∧ Below w.heap.size w w' := by
  obtain ⟨⟨d1, i1, k1, m1, a1, u1⟩, p1, n1, c1⟩ := x
  obtain ⟨⟨d2, i2, k2, m2, a2, u2⟩, p2, n2, c2⟩ := y
  rw [lit_ev, lit_ev]
  obtain ⟨W, hW⟩ : ∃ W, W = (w.alloc (.cells #[.string ⟨d1.toArray⟩, .string ⟨i1.toArray⟩, .int .u8 (k1 : Int), .slice p1 n1 c1, .int .i64 a1, .int .i64 u1] 67)).alloc (.cells #[.string ⟨d2.toArray⟩, .string ⟨i2.toArray⟩, .int .u8 (k2 : Int), .slice p2 n2 c2, .int .i64 a2, .int .i64 u2] 67) := ⟨_, rfl⟩
  have hB : Below w.heap.size w W := by rw [hW]; exact ((Below.refl _ w).alloc (Nat.le_refl _) _).alloc (by simp) _
  have hb1 : W.heap[w.heap.size]? = some (.cells #[.string ⟨d1.toArray⟩, .string ⟨i1.toArray⟩, .int .u8 (k1 : Int), .slice p1 n1 c1, .int .i64 a1, .int .i64 u1] 67 (0, 0)) := by rw [hW]; exact (heap_old (by simp)).trans (heap_new rfl)
  have hb2 : W.heap[w.heap.size + 1]? = some (.cells #[.string ⟨d2.toArray⟩, .string ⟨i2.toArray⟩, .int .u8 (k2 : Int), .slice p2 n2 c2, .int .i64 a2, .int .i64 u2] 67 (0, 0)) := by rw [hW]; exact heap_new (by simp)
  obtain ⟨x0, -, -, -, -, x5⟩ := box6 hb1
  obtain ⟨y0, -, -, -, -, y5⟩ := box6 hb2
  have HB := Lib.hid hB
  clear hB hb1 hb2
  by_cases h1 : u1 < u2
  · have e : lessB ⟨d1, i1, k1, m1, a1, u1⟩ ⟨d2, i2, k2, m2, a2, u2⟩ = true := by simp [lessB, h1]
    rw [e]
    clear e
    go_enter Tryz.func49, Tryz.ntmps49
    go_upto_region 1 with (fail)
    rw [← hW]
    clear hW
    go_wp2
    refine bodyPost_ret (v := .bool true) (by simp [results, Tryz.results49, go_sem]) rfl ⟨rfl, HB.out⟩
  · by_cases h2 : u1 = u2
    · subst h2
      have e : lessB ⟨d1, i1, k1, m1, a1, u1⟩ ⟨d2, i2, k2, m2, a2, u1⟩ = decide (cmpB d1 d2 < 0) := by simp [lessB]
      rw [e]
      clear e
      have hl := bytes_lt d1 d2
      generalize decide (cmpB d1 d2 < 0) = r at hl ⊢
      generalize (⟨d1.toArray⟩ : ByteArray) = s1 at x0 hl hW
      generalize (⟨d2.toArray⟩ : ByteArray) = s2 at y0 hl hW
      have hee : decide (u1 = u1) = true := by simp
      go_enter Tryz.func49, Tryz.ntmps49
      go_upto_region 1 with (fail)
      rw [← hW]
      clear hW
      go_wp2
      refine bodyPost_ret (v := .bool r) (by simp [results, Tryz.results49, go_sem]) rfl ⟨rfl, HB.out⟩
    · have e : lessB ⟨d1, i1, k1, m1, a1, u1⟩ ⟨d2, i2, k2, m2, a2, u2⟩ = false := by simp [lessB, h1, h2]
      rw [e]
      have h3 : decide (u1 = u2) = false := decide_eq_false h2
      have h4 : (u1 == u2) = false := by simpa using h2
      clear e h2
      go_enter Tryz.func49, Tryz.ntmps49
      go_upto_region 1 with (fail)
      rw [← hW]
      clear hW
      go_wp2
      refine bodyPost_ret (v := .bool false) (by simp [results, Tryz.results49, go_sem]) rfl ⟨rfl, HB.out⟩

/-! ### The cache -/
/-- A slice as it comes about: its room holds it; nil has none. -/
def ShOk (v : Value) : Prop := ∀ p n c, v = .slice p n c → n ≤ c ∧ (p = none → c = 0)
theorem own_shOk {w : World} {base : Nat} {e : TypeId} {size : Nat} {v : Value} {n : Nat} {xs : List Value} (h : w.ownsRow base e size v n xs) : ShOk v := by
  intro p m c hv
  rcases h.2 with ⟨rfl, rfl⟩ | ⟨g, cap, cur, rfl, _, _, hc, _⟩
  · injection hv with h1 h2 h3
    subst h1 h2 h3
    exact ⟨Nat.le_refl _, fun _ => rfl⟩
  · injection hv with h1 h2 h3
    subst h1 h2 h3
    exact ⟨hc, fun h => by cases h⟩
/-- The document's cache behind a pointer: its row and its texts lie in blocks of B. -/
def DocIs (w : World) (B : Nat → Prop) (bd : Nat) (most : Int) (zs : List EM) : Prop :=
  ∃ v, w.heap[bd]? = some (.cells #[.int .i64 most, v] 60 (0, 0)) ∧ RowE w v zs ∧ TextsE w B zs ∧ ShOk v ∧ ∀ g, v.ownBlock = some g → zs ≠ [] → B g
theorem DocIs.lt {w : World} {B : Nat → Prop} {bd : Nat} {most : Int} {zs : List EM} (h : DocIs w B bd most zs) : bd < w.heap.size := by
  obtain ⟨v, h1, _⟩ := h
  exact (Array.getElem?_eq_some_iff.1 h1).1
theorem DocIs.below {w w' : World} {B : Nat → Prop} {bd : Nat} {most : Int} {zs : List EM} (h : DocIs w B bd most zs) (hb : Below w.heap.size w w') : DocIs w' B bd most zs := by
  have hl := h.lt
  obtain ⟨v, h1, h2, h3, h4, h5⟩ := h
  exact ⟨v, (hb.block _ hl).trans h1, h2.below hb, h3.below hb, h4, h5⟩
theorem DocIs.mono {w : World} {B B' : Nat → Prop} {bd : Nat} {most : Int} {zs : List EM} (h : DocIs w B bd most zs) (hb : ∀ k, B k → B' k) : DocIs w B' bd most zs := by
  obtain ⟨v, h1, h2, h3, h4, h5⟩ := h
  exact ⟨v, h1, h2, h3.mono hb, h4, fun g hg hz => hb _ (h5 g hg hz)⟩
theorem RowE.own_lt {w : World} {v : Value} {zs : List EM} (h : RowE w v zs) (hz : zs ≠ []) {g : Nat} (hg : v.ownBlock = some g) : g < w.heap.size := by
  rcases h with ⟨h0, _⟩ | ⟨_, b, o, c, rfl, hc⟩
  · exact absurd h0 hz
  · injection hg with hg
    subst hg
    exact cell_lt (hc 0 (List.length_pos_iff.2 hz) 0 _ rfl)
theorem DocIs.lts {w : World} {B : Nat → Prop} {bd : Nat} {most : Int} {zs : List EM} (h : DocIs w B bd most zs) : DocIs w (fun k => B k ∧ k < w.heap.size) bd most zs := by
  obtain ⟨v, h1, h2, h3, h4, h5⟩ := h
  exact ⟨v, h1, h2, fun x hx => (h3 x hx).lts, h4, fun g hg hz => ⟨h5 g hg hz, h2.own_lt hz hg⟩⟩
/-- A block that is not of B was written over. -/
theorem DocIs.grown {w w' : World} {B : Nat → Prop} {bd : Nat} {most : Int} {zs : List EM} (h : DocIs w B bd most zs) {k : Nat} (hg : w.grownBy w' (some k)) (hk : k ≠ bd) (hB : ¬ B k) : DocIs w' B bd most zs := by
  have hl := h.lt
  obtain ⟨v, h1, h2, h3, h4, h5⟩ := h
  refine ⟨v, (hg.block bd hl (fun e => hk (Option.some.inj e).symm)).trans h1, ?_, fun x hx => (h3 x hx).keep fun a u hu hBa => cell_grown hg hu (fun e => hB (by rw [Option.some.inj e]; exact hBa)), h4, h5⟩
  rcases h2 with h2 | ⟨hz, b, o, c, rfl, hc⟩
  · exact .inl h2
  · have hBb := h5 b rfl hz
    exact .inr ⟨hz, b, o, c, rfl, fun i hi j u hu => cell_grown hg (hc i hi j u hu) (fun e => hB (by rw [Option.some.inj e]; exact hBb))⟩

set_option maxRecDepth 100000 in
set_option maxHeartbeats 1000000 in
theorem without_any (v : Value) (zs : List EM) (k : Nat) (w : World) (h : RowE w v zs) (hn : zs.length ≤ 1000000) (hk : k < zs.length) :
    Calls Tryz.prog 28 #[v, .int .i64 (k : Int)] w fun e w' => ∃ v', e = .returned v' ∧ RowE w' v' (zs.eraseIdx k) ∧ ShOk v' ∧ Below w.heap.size w w' := by
  obtain ⟨p, c, rfl⟩ := h.sh
  have HH := Lib.hid h
  clear h
  obtain ⟨i1, hi1, hr0, hr1, hr2⟩ := info_parts infoR
  go_enter Tryz.func28, Tryz.ntmps28
  go_wp2_with fail
  go_loopw [5, 6] (fun o iv wr => ∃ i m : Nat, iv = .int .i64 (i : Int) ∧ i ≤ zs.length ∧ m = ((zs.take i).eraseIdx k).length ∧ wr.ownsRow w.heap.size 67 6 o m (ec ((zs.take i).eraseIdx k)) ∧ Below w.heap.size w wr)
    (fun _ iv _ => zs.length - natI iv)
  case atStart => exact ⟨0, 0, rfl, Nat.zero_le _, rfl, ⟨rfl, .inl ⟨rfl, rfl⟩⟩, Below.refl _ _⟩
  case round =>
    obtain ⟨i, m, rfl, hi, hm, ho, hB⟩ := hrel
    by_cases hlast : i < zs.length
    · have hli : (i : Int) < (zs.length : Int) := by omega
      by_cases hik : i = k
      · subst hik
        have he : (zs.take (i + 1)).eraseIdx i = (zs.take i).eraseIdx i := by
          rw [List.eraseIdx_eq_take_drop_succ, List.eraseIdx_eq_take_drop_succ]
          simp [List.take_take, List.drop_take]
        have hs1 : decide ((i : Int) = (i : Int)) = true := by simp
        have HF := Lib.hid (And.intro hm (And.intro ho (And.intro hB he)))
        clear hm ho hB he
        go_wp2
        go_roundw
        case rel => exact ⟨i + 1, m, by simp, by omega, by rw [HF.out.2.2.2]; exact HF.out.1, by rw [HF.out.2.2.2]; exact HF.out.2.1, HF.out.2.2.1⟩
        case measure => simp [natI]; omega
      · have hsk : decide ((i : Int) = (k : Int)) = false := by simp; omega
        have hsk2 : ((i : Int) == (k : Int)) = false := by simp; omega
        have hsk3 : decide (i = k) = false := by simpa using hik
        have he : (zs.take (i + 1)).eraseIdx k = (zs.take i).eraseIdx k ++ [zs[i]] := by
          rw [List.take_succ_eq_append_getElem hlast]
          by_cases hki : k < i
          · rw [List.eraseIdx_append_of_lt_length (by simp; omega)]
          · rw [List.eraseIdx_of_length_le (by simp; omega), List.eraseIdx_of_length_le (by simp; omega)]
        obtain ⟨b, o, rfl, hbl, hc⟩ := RowE.at HH.out i hlast
        obtain ⟨y0, y1, y2, y3, y4, y5⟩ := hc i hlast
        replace y0 := six_below hB hbl y0
        replace y1 := six_below hB hbl y1
        replace y2 := six_below hB hbl y2
        replace y3 := six_below hB hbl y3
        replace y4 := six_below hB hbl y4
        replace y5 := six_below hB hbl y5
        have hml : m ≤ 1000000 := by
          have h1 := List.length_eraseIdx_le (zs.take i) k
          have h2 : (zs.take i).length ≤ zs.length := by simp; omega
          omega
        have HF := Lib.hid (And.intro hm (And.intro ho (And.intro hB (And.intro he hml))))
        clear hm ho hB he hc hbl hik hml
        obtain ⟨x, hxx⟩ : ∃ x, x = zs[i] := ⟨_, rfl⟩
        rw [← hxx] at y0 y1 y2 y3 y4 y5 HF
        clear hxx
        obtain ⟨⟨d1, q1, k1, m1, a1, u1⟩, p1, n1, cc1⟩ := x
        dsimp only at y0 y1 y2 y3 y4 y5
        go_wp2_with (at_builtin; refine Bx.h ?_)
        refine ⟨?_⟩
        refine wpList_append_own _ rfl _ _ 58 rfl w.heap.size 67 i1 (.agg #[.string ⟨#[]⟩, .string ⟨#[]⟩, .int .u8 0, .slice none 0 0, .int .i64 0, .int .i64 0]) 6 80 Tryz.underlying58 hi1 hr0 hr1 hr2 rfl (by decide) _ _ _ rfl (HF.out.2.1.alloc _) ⟨wr.heap.size, 0, none⟩ 1 1 (ecells (⟨d1, q1, k1, m1, a1, u1⟩, p1, n1, cc1)) rfl rfl (cell_list (cs := ecells (⟨d1, q1, k1, m1, a1, u1⟩, p1, n1, cc1)) rfl) (ecells_one _) (by have := HF.out.2.2.2.2; unfold maxLen; omega) (by have := HF.out.2.2.2.2; omega) (by have h1 := HF.out.2.2.1.size; simp; omega) ?_
        intro v' w3 hown3 hgrow3 hnil3
        have hg : wr.grownBy w3 u5.ownBlock := World.grownBy.trans (World.grownBy_alloc _ _ _) hgrow3
        have hB3 := HF.out.2.2.1.grown hg HF.out.2.2.1.size (fun k e => (HF.out.2.1.lt k e).1)
        rw [← ec_snoc, ← HF.out.2.2.2.1] at hown3
        have hm3 : m + 1 = ((zs.take (i + 1)).eraseIdx k).length := by rw [HF.out.2.2.2.1, HF.out.1]; simp
        have HZ := Lib.hid (And.intro hown3 (And.intro hB3 hm3))
        clear hown3 hgrow3 hnil3 hg hB3 hm3
        go_wp2
        go_roundw
        case rel => exact ⟨i + 1, m + 1, by simp, by omega, HZ.out.2.2, HZ.out.1, HZ.out.2.1⟩
        case measure => simp [natI]; omega
    · have hli : ¬ (i : Int) < (zs.length : Int) := by omega
      obtain rfl : i = zs.length := by omega
      rw [List.take_length] at hm ho
      have HB := Lib.hid (And.intro hm (And.intro ho hB))
      clear hm ho hB
      go_wp2
      refine bodyPost_ret (v := u5) (by simp [results, Tryz.results28, go_sem]) rfl ?_
      have ho := HB.out.2.1
      rw [HB.out.1] at ho
      exact ⟨_, rfl, rowE_own ho, own_shOk ho, HB.out.2.2⟩
end Go.Proofs.YtojhledbfaninaaGreat
