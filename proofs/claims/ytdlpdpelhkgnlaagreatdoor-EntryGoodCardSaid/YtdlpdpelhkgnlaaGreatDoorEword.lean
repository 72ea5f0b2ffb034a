/- entry.Word: DeleteFunc over bytes; wrong. -/
import Derived.Test.YtdlpdpelhkgnlaaGreatDoorEsm
import Derived.Test.YtdlpdpelhkgnlaaGreatDoorMd
namespace Go.Proofs.YtdlpdpelhkgnlaaGreatDoor
open Go Go.RowKit Go.Shelf Go.Sort
attribute [local go_sem] bneI

def wordB (s : Bytes) : Bytes := (s.filter standsB).take 128
def wrongB (f : FaP) : Bool := decide (2 < f.1) || (decide (wordB f.2 ≠ f.2) || (decide (f.1 ≠ 2) && decide (f.2 ≠ [])))
theorem enterWord : ∀ args w, (callFunc 79 args).run Tryz.prog w = .ok (.enter 79 args) w := enters_of Tryz.func79 (by kernel_rfl) rfl
structure DByt (f : UInt8 → Bool) (ps : Bytes) (j i : Nat) (zs : Bytes) : Prop where
  len : zs.length = ps.length
  lt : i < j
  fil : zs.take i = (ps.take j).filter f
  high : zs.drop j = ps.drop j
theorem DByt.start {f : UInt8 → Bool} {ps : Bytes} {k : Nat} (hk : k < ps.length) (ha : ∀ x ∈ ps.take k, f x = true) (hn : f ps[k] = false) : DByt f ps (k + 1) k ps := by
  refine ⟨rfl, Nat.lt_succ_self _, ?_, rfl⟩
  rw [List.take_succ_eq_append_getElem hk, List.filter_append, List.filter_eq_self.2 ha]
  simp [hn]
theorem DByt.get {f : UInt8 → Bool} {ps zs : Bytes} {i j : Nat} (h : DByt f ps j i zs) (hj : j < ps.length) : zs[j]'(by rw [h.len]; exact hj) = ps[j] := by
  have := congrArg (fun l => l[0]?) h.high
  simpa [List.getElem?_drop, h.len, hj] using this
theorem DByt.keep {f : UInt8 → Bool} {ps zs : Bytes} {i j : Nat} (h : DByt f ps j i zs) (hj : j < ps.length) (hf : f ps[j] = true) : DByt f ps (j + 1) (i + 1) (zs.set i ps[j]) := by
  have hl := h.len
  have hlt := h.lt
  refine ⟨by simp [hl], by omega, ?_, ?_⟩
  · rw [List.take_succ_eq_append_getElem hj, List.filter_append, ← h.fil]
    rw [List.take_succ_eq_append_getElem (by simp; omega), List.getElem_set_self, List.take_set_of_le (Nat.le_refl _)]
    simp [hf]
  · have e := congrArg (List.drop 1) h.high
    rw [List.drop_drop, List.drop_drop] at e
    rw [List.drop_set_of_lt (by omega), e]
theorem DByt.skip {f : UInt8 → Bool} {ps zs : Bytes} {i j : Nat} (h : DByt f ps j i zs) (hj : j < ps.length) (hf : f ps[j] = false) : DByt f ps (j + 1) i zs := by
  refine ⟨h.len, by have := h.lt; omega, ?_, ?_⟩
  · rw [List.take_succ_eq_append_getElem hj, List.filter_append, ← h.fil]
    simp [hf]
  · have e := congrArg (List.drop 1) h.high
    rwa [List.drop_drop, List.drop_drop] at e
def notStands (c : UInt8) : Bool := !standsB c

set_option maxRecDepth 100000 in
set_option maxHeartbeats 1000000 in
theorem ixByte_any (s : Bytes) (g cap : Nat) (w : World) (hr : ByAt w g s) (hg : g < w.heap.size) (hn : s.length ≤ maxLen) :
    Calls Tryz.prog 99 #[.slice (some ⟨g, 0, none⟩) s.length cap, .func (.func 79) #[] #[]] w fun e w' => IxPost notStands s e ∧ Below w.heap.size w w' := by
  unfold maxLen at hn
  have HF := Lib.hid (And.intro hr hg)
  clear hr hg
  go_enter Tryz.func99, Tryz.ntmps99
  go_wp2_with fail
  go_loopw [8] (fun iv wr => ∃ i : Nat, iv = .int .i64 (i : Int) ∧ i ≤ s.length ∧ (∀ (j : Nat) (hj : j < s.length), j < i → notStands s[j] = false) ∧ Below w.heap.size w wr) (fun iv _ => s.length - natI iv)
  case atStart => exact ⟨0, rfl, Nat.zero_le _, fun j hj h => absurd h (Nat.not_lt_zero _), Below.refl _ _⟩
  case round =>
    obtain ⟨i, rfl, hi, hno, hB⟩ := hrel
    by_cases hlast : i < s.length
    · have hli : (i : Int) < (s.length : Int) := by omega
      obtain ⟨y0, -⟩ := (HF.out.1.below hB).cell i hlast
      have hcl := word1_any s[i] wr
      have HR := Lib.hid (And.intro hno hB)
      clear hno hB
      obtain ⟨x, hx⟩ : ∃ x, x = s[i] := ⟨_, rfl⟩
      rw [← hx] at y0 hcl
      have hfx : ∀ r : Bool, (!standsB x) = r → notStands s[i] = r := fun r h => by rw [← hx]; exact h
      have HX := Lib.hid hfx
      clear hx hfx
      generalize hst : (!standsB x) = st at hcl HX
      clear hst
      generalize x.toNat = xn at *
      have hrun : Sem.run Tryz.prog (callFunc 79 #[.int .u8 (xn : Int)]) wr = .ok (.enter 79 #[.int .u8 (xn : Int)]) wr := enterWord _ _
      go_wp2_with fail
      refine hcl.mono ?_
      rintro e w1 ⟨rfl, hb⟩
      have HB := Lib.hid (HR.out.2.trans (hb.mono HR.out.2.size))
      clear hrun hcl hb y0
      cases st with
      | true =>
        have HN := Lib.hid (HX.out _ rfl)
        go_wp2
        refine bodyPost_ret (v := .int .i64 (i : Int)) (by simp [results, Tryz.results99, go_sem]) rfl ⟨.inr ⟨i, hlast, rfl, HN.out, fun j hj h => HR.out.1 j hj h⟩, HB.out⟩
      | false =>
        have HN := Lib.hid (HX.out _ rfl)
        go_wp2
        go_roundw
        case rel => exact ⟨i + 1, by simp, by omega, fun j hj h => by
          by_cases hji : j < i
          · exact HR.out.1 j hj hji
          · have : j = i := by omega
            subst this
            exact HN.out, HB.out⟩
        case measure => simp [natI]; omega
    · have hli : ¬ (i : Int) < (s.length : Int) := by omega
      have HB := Lib.hid (And.intro hB hno)
      clear hB hno
      go_wp2
      refine bodyPost_ret (v := .int .i64 (-1)) (by simp [results, Tryz.results99, go_sem]) rfl ⟨.inl ⟨rfl, fun j hj => HB.out.2 j hj (by omega)⟩, HB.out.1⟩

theorem setCells_block {t : TypeId} {f : Nat × Nat} {g : Nat} : ∀ (vs : List Value) (o : Nat) (W : World) (cs : Array Value), W.heap[g]? = some (.cells cs t f) → ∃ cs' : Array Value, (W.setCells g o vs).heap[g]? = some (.cells cs' t f) ∧ cs'.size = cs.size ∧ ∀ i, i < o → cs'[i]? = cs[i]?
  | [], o, W, cs, h => ⟨cs, h, rfl, fun _ _ => rfl⟩
  | v :: r, o, W, cs, h => by
    have h1 : (W.setCell ⟨g, o, none⟩ v).heap[g]? = some (.cells (cs.setIfInBounds o v) t f) := by simp [World.setCell, Array.getElem?_modify, h]
    obtain ⟨cs', h2, h3, h4⟩ := setCells_block r (o + 1) _ _ h1
    exact ⟨cs', h2, by rw [h3]; simp, fun i hi => by rw [h4 i (by omega), Array.getElem?_setIfInBounds_ne (by omega)]⟩
theorem ByAt.take {W : World} {g : Nat} {l : Bytes} (h : ByAt W g l) (i : Nat) : ByAt W g (l.take i) := by
  obtain ⟨cs, h1, h2⟩ := h
  exact ⟨cs, h1, fun j hj => by
    have hj' : j < l.length := by simp at hj; omega
    rw [List.getElem_take]
    exact h2 j hj'⟩
theorem clearByt {W : World} {g : Nat} {zs : Bytes} (h : ByAt W g zs) {i : Nat} (hi : i < zs.length) (c : Nat) (ty : TypeId) :
    (Builtin.clear_ #[92] ty #[.slice (some ⟨g, i, none⟩) (zs.length - i) c]).run Tryz.prog W = .ok (.tuple #[]) (W.setCells g i (Builtin.zeroCells #[.int .u8 0] (zs.length - i)).toList) ∧
    ByAt (W.setCells g i (Builtin.zeroCells #[.int .u8 0] (zs.length - i)).toList) g (zs.take i) := by
  obtain ⟨Z, hZ⟩ : ∃ Z, Z = (Builtin.zeroCells #[.int .u8 0] (zs.length - i)).toList := ⟨_, rfl⟩
  have hl : Z.length = zs.length - i := by rw [hZ]; simp [Builtin.zeroCells]
  have h1 : ∀ v ∈ Z, v.oneCell' = true := by
    intro v hv
    rw [hZ] at hv
    simp only [Builtin.zeroCells, Array.toList_map, List.mem_map] at hv
    obtain ⟨k, _, rfl⟩ := hv
    have hk : k % 1 = 0 := Nat.mod_one k
    show (#[Value.int .u8 0][k % 1]!).oneCell' = true
    rw [hk]
    rfl
  have hst := run_storeCells_cells (P := Tryz.prog) g i Z 0 W (fun j hj => by
    rw [show i + 0 + j = i + j by omega, (h.cell (i + j) (by omega)).1]; rfl) (fun j hj => by
    rw [show i + 0 + j = i + j by omega]; exact (h.cell (i + j) (by omega)).2) h1
  rw [Nat.add_zero] at hst
  constructor
  · rw [← hZ]
    have hz := Tryz.zeroValue5
    obtain ⟨m, hm⟩ : ∃ m, zs.length - i = m + 1 := ⟨zs.length - i - 1, by omega⟩
    rw [hm] at hZ ⊢
    have hz2 : ∀ w, (zeroValue 5).run Tryz.prog w = .ok (.int .u8 0) w := hz
    simp [Builtin.clear_, run_underlying Tryz.underlying92, hz2, Value.cells, ← hZ, hst]
  · rw [← hZ]
    obtain ⟨cs, hb, hc⟩ := h
    obtain ⟨cs', h2, h3, h4⟩ := setCells_block Z i W cs hb
    refine ⟨cs', by rw [h3]; exact h2, fun j hj => ?_⟩
    have hj' : j < zs.length := by simp at hj; omega
    rw [h4 j (by simp at hj; omega), List.getElem_take]
    exact hc j hj'
theorem grownBy_setCellsB (W : World) (g : Nat) : ∀ (vs : List Value) (o : Nat), W.grownBy (W.setCells g o vs) (some g) := by
  intro vs
  induction vs generalizing W with
  | nil => intro o; exact ⟨rfl, rfl, rfl, Nat.le_refl _, fun _ _ _ => rfl⟩
  | cons v r ih => 
    intro o
    have h1 : W.grownBy (W.setCell ⟨g, o, none⟩ v) (some g) := ⟨rfl, rfl, rfl, by simp [World.setCell], fun k _ hk => Below.heap_setCell _ _ _ k (fun e => hk (by rw [e]))⟩
    exact World.grownBy.trans h1 (ih _ (o + 1))

set_option maxRecDepth 100000 in
set_option maxHeartbeats 2000000 in
theorem deleteByte_any (s : Bytes) (n1 g cap : Nat) (w1 w : World) (hw : Below n1 w1 w) (hn1 : n1 ≤ w1.heap.size) (hr : ByAt w g s) (hg : g < w.heap.size) (hgn : n1 ≤ g) (hn : s.length ≤ maxLen) (hcap : s.length ≤ cap) :
    Calls Tryz.prog 78 #[.slice (some ⟨g, 0, none⟩) s.length cap, .func (.func 79) #[] #[]] w fun e w' =>
      e = .returned (.slice (some ⟨g, 0, none⟩) (s.filter standsB).length cap) ∧ ByAt w' g (s.filter standsB) ∧ Below n1 w1 w' := by
  have hI := ixByte_any s g cap w hr hg hn
  unfold maxLen at hn
  have HH := Lib.hid (And.intro hw (And.intro hr (And.intro hn1 (And.intro hgn hg))))
  clear hw hr hn1 hgn hg
  go_enter Tryz.func78, Tryz.ntmps78
  go_wp2_with fail
  refine hI.mono ?_
  rintro e w2 ⟨he, hb2⟩
  clear hI
  rcases he with ⟨rfl, hall⟩ | ⟨k, hk, rfl, ha, hno⟩
  · have hfil : s.filter standsB = s := List.filter_eq_self.2 fun x hx => by
      obtain ⟨j, hj, rfl⟩ := List.getElem_of_mem hx
      have := hall j hj
      unfold notStands at this
      simpa using this
    have HF := Lib.hid (And.intro hfil hb2)
    clear hall hfil hb2
    go_wp2
    refine bodyPost_ret (v := .slice (some ⟨g, 0, none⟩) s.length cap) (by simp [results, Tryz.results78, go_sem]) rfl ?_
    rw [HF.out.1]
    exact ⟨rfl, HH.out.2.1.below HF.out.2, HH.out.1.trans (HF.out.2.mono (Nat.le_trans HH.out.2.2.1 HH.out.1.size))⟩
  · have hk1 : ((k : Int) == -1) = false := beq_eq_false_iff_ne.2 (by omega)
    have hst : DByt standsB s (k + 1) k s := DByt.start hk (fun x hx => by
      obtain ⟨j, hj, rfl⟩ := List.getElem_of_mem hx
      have hj' : j < k := by simp at hj; omega
      have := hno j (by omega) hj'
      unfold notStands at this
      rw [List.getElem_take]
      simpa using this) (by unfold notStands at ha; simpa using ha)
    have HF := Lib.hid (And.intro hst hb2)
    clear ha hno hb2 hst
    go_wp2_with fail
    go_loopw [5, 6] (fun s5 s6 wr => ∃ (i j : Nat) (zs : Bytes), s5 = .int .i64 (i : Int) ∧ s6 = .int .i64 (j : Int) ∧ j ≤ s.length ∧ DByt standsB s j i zs ∧ ByAt wr g zs ∧ Below n1 w1 wr ∧ w2.heap.size ≤ wr.heap.size) (fun _ s6 _ => s.length - natI s6)
    case atStart =>
      exact ⟨k, k + 1, s, rfl, by simp, by omega, HF.out.1, HH.out.2.1.below HF.out.2, HH.out.1.trans (HF.out.2.mono (Nat.le_trans HH.out.2.2.1 HH.out.1.size)), Nat.le_refl _⟩
    case round =>
      obtain ⟨i, j, zs, rfl, rfl, hj, hD, hR, hB, hsz⟩ := hrel
      have hzl := hD.len
      have hij := hD.lt
      by_cases hlast : j < s.length
      · have hli : (j : Int) < (s.length : Int) := by omega
        obtain ⟨c0, -⟩ := hR.cell j (by omega)
        have hgw : g < wr.heap.size := cell_lt c0
        have hget := hD.get hlast
        have hkeep := hD.keep hlast
        have hskip := hD.skip hlast
        rw [hget] at c0
        clear hget
        have hcall := word1_any s[j] wr
        obtain ⟨x, hx⟩ : ∃ x, x = s[j] := ⟨_, rfl⟩
        rw [← hx] at c0 hkeep hskip hcall
        clear hx
        have hset := hR.set i (by omega) x
        have HD := Lib.hid (And.intro hkeep (And.intro hskip (And.intro hR (And.intro hB (And.intro hsz hset)))))
        clear hD hkeep hskip hR hB hsz hset
        generalize hfx : standsB x = r at hcall HD
        clear hfx
        generalize hxn : x.toNat = xn at *
        have HXN := Lib.hid hxn
        clear hxn
        have hrun : Sem.run Tryz.prog (callFunc 79 #[.int .u8 (xn : Int)]) wr = .ok (.enter 79 #[.int .u8 (xn : Int)]) wr := enterWord _ _
        go_wp2_with fail
        refine hcall.mono ?_
        rintro e w4 ⟨rfl, hb4⟩
        have hR4 : ByAt w4 g zs := HD.out.2.2.1.below hb4
        have hB14 : Below n1 w1 w4 := HD.out.2.2.2.1.trans (hb4.mono (Nat.le_trans HH.out.2.2.1 HD.out.2.2.2.1.size))
        have hsz4 : w2.heap.size ≤ w4.heap.size := Nat.le_trans HD.out.2.2.2.2.1 hb4.size
        clear c0 hcall hb4 hrun
        cases r
        · have HE := Lib.hid (And.intro (HD.out.2.1 rfl) (And.intro hR4 (And.intro hB14 hsz4)))
          clear HD hR4 hB14 hsz4
          go_wp2
          go_roundw
          case rel => exact ⟨i, j + 1, zs, rfl, by simp, by omega, HE.out.1, HE.out.2.1, HE.out.2.2.1, HE.out.2.2.2⟩
          case measure => simp [natI]; omega
        · obtain ⟨c0, f0⟩ := hR4.cell i (by omega)
          have hst := hR4.set i (by omega) x
          rw [HXN.out] at hst
          have HE := Lib.hid (And.intro (HD.out.1 rfl) (And.intro hst (And.intro hB14 hsz4)))
          clear HD hR4 hB14 hsz4 hst
          go_wp2
          go_roundw
          case rel => exact ⟨i + 1, j + 1, _, by simp, by simp, by omega, HE.out.1, HE.out.2.1, HE.out.2.2.1.setCell (p := ⟨g, i, none⟩) HH.out.2.2.2.1 _, by simpa [World.setCell] using HE.out.2.2.2⟩
          case measure => simp [natI]; omega
      · have hli : ¬ (j : Int) < (s.length : Int) := by omega
        obtain rfl : j = s.length := by omega
        have hfil := hD.fil
        rw [List.take_length] at hfil
        have hlen : i = (s.filter standsB).length := by rw [← hfil]; simp; omega
        have hcl := fun ty => (clearByt hR (show i < zs.length by omega) (cap - i) ty).1
        have hrow := (clearByt hR (show i < zs.length by omega) (cap - i) 0).2
        rw [hfil] at hrow
        rw [hzl] at hcl hrow
        obtain ⟨Z, hZ⟩ : ∃ Z, Z = (Builtin.zeroCells #[.int .u8 0] (s.length - i)).toList := ⟨_, rfl⟩
        rw [← hZ] at hcl hrow
        clear hZ
        have hfin : Below n1 w1 (wr.setCells g i Z) := hB.grown (grownBy_setCellsB wr g Z i) (Nat.le_trans HH.out.2.2.1 hB.size) (fun k e => by cases e; exact HH.out.2.2.2.1)
        have HE := Lib.hid (And.intro hlen (And.intro hrow hfin))
        clear hfil hlen hrow hfin hD hR hB hzl
        have hip : i < s.length := hij
        go_wp2
        refine bodyPost_ret (v := .slice (some ⟨g, 0, none⟩) i cap) (by simp [results, Tryz.results78, go_sem]) rfl ?_
        exact ⟨by rw [← HE.out.1], HE.out.2.1, HE.out.2.2⟩

set_option maxRecDepth 100000 in
set_option maxHeartbeats 2000000 in
theorem word_any (s : Bytes) (w : World) (hs : s.length ≤ maxLen) : Calls Tryz.prog 29 #[.string ⟨s.toArray⟩] w fun e w' => e = .returned (.string ⟨(wordB s).toArray⟩) ∧ Below w.heap.size w w' := by
  have hconv := Lib.run_convert_string_bytes (P := Tryz.prog) w 9 92 5 ⟨s.toArray⟩ Tryz.underlying9 Tryz.underlying92 Tryz.underlying5
  have hsz : (⟨s.toArray⟩ : ByteArray).size = s.length := rfl
  rw [hsz] at hconv
  have hB := bytes_below w 5 ⟨s.toArray⟩
  have hN := ByAt.new w s
  have hge := grownCap_ge w s.length 0 5
  have hsiz : w.heap.size < (Lib.bytesWorld w 5 ⟨s.toArray⟩).heap.size := by rw [Lib.bytesWorld_size]; omega
  generalize Lib.bytesWorld w 5 ⟨s.toArray⟩ = w1 at *
  generalize grownCap w s.length 0 5 = cap at *
  have hD := deleteByte_any s w.heap.size w.heap.size cap w w1 hB (Nat.le_refl _) hN hsiz (Nat.le_refl _) hs hge
  have hfl : (s.filter standsB).length ≤ s.length := List.length_filter_le _ _
  have hub : s.length ≤ 9223372036854775807 := by unfold maxLen at hs; omega
  have HB := Lib.hid (And.intro hge hfl)
  clear hB hN hsz hs hge hsiz hfl
  go_enter Tryz.func29, Tryz.ntmps29
  go_wp2_with fail
  refine hD.mono ?_
  rintro e w2 ⟨rfl, hR2, hb2⟩
  clear hD hconv
  obtain ⟨l, hl⟩ : ∃ l, l = s.filter standsB := ⟨_, rfl⟩
  have hw : wordB s = l.take 128 := by unfold wordB; rw [hl]
  have hlc : l.length ≤ cap := by rw [hl]; exact Nat.le_trans HB.out.2 HB.out.1
  have hll : l.length ≤ 9223372036854775807 := by rw [hl]; exact Nat.le_trans HB.out.2 hub
  rw [← hl] at hR2 ⊢
  have HL := Lib.hid hw
  clear hw hl HB hub
  have HW := Lib.hid hb2
  clear hb2
  by_cases h128 : (l.length : Int) ≤ 128
  · have ht : l.take 128 = l := List.take_of_length_le (by omega)
    have hmin : min (l.length : Int) 128 = (l.length : Int) := by omega
    have hstr := hR2.str cap
    have HT := Lib.hid ht
    clear ht hR2
    go_wp2
    refine bodyPost_ret (v := .string ⟨l.toArray⟩) (by simp [results, Tryz.results29, go_sem]) rfl ⟨by rw [HL.out, HT.out], HW.out⟩
  · have hmin : min (l.length : Int) 128 = 128 := by omega
    have hstr := (hR2.take 128).str cap
    have htl : (l.take 128).length = 128 := by simp; omega
    rw [htl] at hstr
    have h128c : 128 ≤ cap := by omega
    clear hR2 htl
    obtain ⟨t, ht⟩ : ∃ t, t = l.take 128 := ⟨_, rfl⟩
    rw [← ht] at hstr
    have HT := Lib.hid ht
    clear ht
    go_wp2
    refine bodyPost_ret (v := .string ⟨t.toArray⟩) (by simp [results, Tryz.results29, go_sem]) rfl ⟨by rw [HL.out, HT.out], HW.out⟩
end Go.Proofs.YtdlpdpelhkgnlaaGreatDoor
