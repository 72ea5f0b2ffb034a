/- Parts of the proof, joined: Eword, Eqb, Qtail, SeqF, Efld. -/
import Derived.Test.YtlpngibdplnieaaGreatDoorMe
import Derived.Test.YtlpngibdplnieaaGreatDoorMd
import Derived.BigQuiet
import Derived.StillTail
import Derived.Deep.Quiet
import Derived.Sort.QuietThIn
import Derived.TacticsIn
import Derived.Test.YtlpngibdplnieaaGreatDoorMa
import Derived.Shelf.Strings.SlTrimAscii
import Derived.Sort.BigQuietIn
/- entry.Word: DeleteFunc over bytes; wrong. -/
namespace Go.Proofs.YtlpngibdplnieaaGreatDoor
open Go Go.RowKit Go.Shelf Go.Sort
attribute [local go_sem] bneI

def wordB (s : Bytes) : Bytes := (s.filter standsB).take 128
def wrongB (f : FaP) : Bool := decide (2 < f.1) || (decide (wordB f.2 ≠ f.2) || (decide (f.1 ≠ 2) && decide (f.2 ≠ [])))
theorem enterWord : ∀ args w, (callFunc 131 args).run Tryz.prog w = .ok (.enter 131 args) w := enters_of Tryz.func131 (by kernel_rfl) rfl
structure DByt (f : UInt8 → Bool) (ps : Bytes) (j i : Nat) (zs : Bytes) : Prop where
  len : zs.length = ps.length
  lt : i < j
  fil : zs.take i = (ps.take j).filter f
  high : zs.drop j = ps.drop j
theorem DByt.start {f : UInt8 → Bool} {ps : Bytes} {k : Nat} (hk : k < ps.length) (ha : ∀ x ∈ ps.take k, f x = true) (hn : f ps[k] = false) : DByt f ps (k + 1) k ps := by
  refine ⟨rfl, Nat.lt_succ_self _, ?_, rfl⟩
  rw [List.take_succ_eq_append_getElem hk, List.filter_append, List.filter_eq_self.2 ha]
  simp [hn]
theorem DByt.get {f : UInt8 → Bool} {ps zs : Bytes} {i j : Nat} (h : DByt f ps j i zs) (hj : j < ps.length) : zs[j]'(by rw [h.len]; exact hj) = ps[j] := by
  have := congrArg (fun l => l[0]?) h.high
  simpa [List.getElem?_drop, h.len, hj] using this
theorem DByt.keep {f : UInt8 → Bool} {ps zs : Bytes} {i j : Nat} (h : DByt f ps j i zs) (hj : j < ps.length) (hf : f ps[j] = true) : DByt f ps (j + 1) (i + 1) (zs.set i ps[j]) := by
  have hl := h.len
  have hlt := h.lt
  refine ⟨by simp [hl], by omega, ?_, ?_⟩
  · rw [List.take_succ_eq_append_getElem hj, List.filter_append, ← h.fil]
    rw [List.take_succ_eq_append_getElem (by simp; omega), List.getElem_set_self, List.take_set_of_le (Nat.le_refl _)]
    simp [hf]
  · have e := congrArg (List.drop 1) h.high
    rw [List.drop_drop, List.drop_drop] at e
    rw [List.drop_set_of_lt (by omega), e]
theorem DByt.skip {f : UInt8 → Bool} {ps zs : Bytes} {i j : Nat} (h : DByt f ps j i zs) (hj : j < ps.length) (hf : f ps[j] = false) : DByt f ps (j + 1) i zs := by
  refine ⟨h.len, by have := h.lt; omega, ?_, ?_⟩
  · rw [List.take_succ_eq_append_getElem hj, List.filter_append, ← h.fil]
    simp [hf]
  · have e := congrArg (List.drop 1) h.high
    rwa [List.drop_drop, List.drop_drop] at e
def notStands (c : UInt8) : Bool := !standsB c

set_option maxRecDepth 100000 in
set_option maxHeartbeats 1000000 in
theorem ixByte_any (s : Bytes) (g cap : Nat) (w : World) (hr : ByAt w g s) (hg : g < w.heap.size) (hn : s.length ≤ maxLen) :
    Calls Tryz.prog 170 #[.slice (some ⟨g, 0, none⟩) s.length cap, .func (.func 131) #[] #[]] w fun e w' => IxPost notStands s e ∧ Below w.heap.size w w' := by
  unfold maxLen at hn
  have HF := Lib.hid (And.intro hr hg)
  clear hr hg
  go_enter Tryz.func170, Tryz.ntmps170
  go_wp2_with fail
  go_loopw [8] (fun iv wr => ∃ i : Nat, iv = .int .i64 (i : Int) ∧ i ≤ s.length ∧ (∀ (j : Nat) (hj : j < s.length), j < i → notStands s[j] = false) ∧ Below w.heap.size w wr) (fun iv _ => s.length - natI iv)
  case atStart => exact ⟨0, rfl, Nat.zero_le _, fun j hj h => absurd h (Nat.not_lt_zero _), Below.refl _ _⟩
  case round =>
    obtain ⟨i, rfl, hi, hno, hB⟩ := hrel
    by_cases hlast : i < s.length
    · have hli : (i : Int) < (s.length : Int) := by omega
      obtain ⟨y0, -⟩ := (HF.out.1.below hB).cell i hlast
      have hcl := word1_any s[i] wr
      have HR := Lib.hid (And.intro hno hB)
      clear hno hB
      obtain ⟨x, hx⟩ : ∃ x, x = s[i] := ⟨_, rfl⟩
      rw [← hx] at y0 hcl
      have hfx : ∀ r : Bool, (!standsB x) = r → notStands s[i] = r := fun r h => by rw [← hx]; exact h
      have HX := Lib.hid hfx
      clear hx hfx
      generalize hst : (!standsB x) = st at hcl HX
      clear hst
      generalize x.toNat = xn at *
      have hrun : Sem.run Tryz.prog (callFunc 131 #[.int .u8 (xn : Int)]) wr = .ok (.enter 131 #[.int .u8 (xn : Int)]) wr := enterWord _ _
      go_wp2_with fail
      refine hcl.mono ?_
      rintro e w1 ⟨rfl, hb⟩
      have HB := Lib.hid (HR.out.2.trans (hb.mono HR.out.2.size))
      clear hrun hcl hb y0
      cases st with
      | true =>
        have HN := Lib.hid (HX.out _ rfl)
        go_wp2
        refine bodyPost_ret (v := .int .i64 (i : Int)) (by simp [results, Tryz.results170, go_sem]) rfl ⟨.inr ⟨i, hlast, rfl, HN.out, fun j hj h => HR.out.1 j hj h⟩, HB.out⟩
      | false =>
        have HN := Lib.hid (HX.out _ rfl)
        go_wp2
        go_roundw
        case rel => exact ⟨i + 1, by simp, by omega, fun j hj h => by
          by_cases hji : j < i
          · exact HR.out.1 j hj hji
          · have : j = i := by omega
            subst this
            exact HN.out, HB.out⟩
        case measure => simp [natI]; omega
    · have hli : ¬ (i : Int) < (s.length : Int) := by omega
      have HB := Lib.hid (And.intro hB hno)
      clear hB hno
      go_wp2
      refine bodyPost_ret (v := .int .i64 (-1)) (by simp [results, Tryz.results170, go_sem]) rfl ⟨.inl ⟨rfl, fun j hj => HB.out.2 j hj (by omega)⟩, HB.out.1⟩

theorem setCells_block {t : TypeId} {f : Nat × Nat} {g : Nat} : ∀ (vs : List Value) (o : Nat) (W : World) (cs : Array Value), W.heap[g]? = some (.cells cs t f) → ∃ cs' : Array Value, (W.setCells g o vs).heap[g]? = some (.cells cs' t f) ∧ cs'.size = cs.size ∧ ∀ i, i < o → cs'[i]? = cs[i]?
  | [], o, W, cs, h => ⟨cs, h, rfl, fun _ _ => rfl⟩
  | v :: r, o, W, cs, h => by
    have h1 : (W.setCell ⟨g, o, none⟩ v).heap[g]? = some (.cells (cs.setIfInBounds o v) t f) := by simp [World.setCell, Array.getElem?_modify, h]
    obtain ⟨cs', h2, h3, h4⟩ := setCells_block r (o + 1) _ _ h1
    exact ⟨cs', h2, by rw [h3]; simp, fun i hi => by rw [h4 i (by omega), Array.getElem?_setIfInBounds_ne (by omega)]⟩
theorem ByAt.take {W : World} {g : Nat} {l : Bytes} (h : ByAt W g l) (i : Nat) : ByAt W g (l.take i) := by
  obtain ⟨cs, h1, h2⟩ := h
  exact ⟨cs, h1, fun j hj => by
    have hj' : j < l.length := by simp at hj; omega
    rw [List.getElem_take]
    exact h2 j hj'⟩
theorem clearByt {W : World} {g : Nat} {zs : Bytes} (h : ByAt W g zs) {i : Nat} (hi : i < zs.length) (c : Nat) (ty : TypeId) :
    (Builtin.clear_ #[116] ty #[.slice (some ⟨g, i, none⟩) (zs.length - i) c]).run Tryz.prog W = .ok (.tuple #[]) (W.setCells g i (Builtin.zeroCells #[.int .u8 0] (zs.length - i)).toList) ∧
    ByAt (W.setCells g i (Builtin.zeroCells #[.int .u8 0] (zs.length - i)).toList) g (zs.take i) := by
  obtain ⟨Z, hZ⟩ : ∃ Z, Z = (Builtin.zeroCells #[.int .u8 0] (zs.length - i)).toList := ⟨_, rfl⟩
  have hl : Z.length = zs.length - i := by rw [hZ]; simp [Builtin.zeroCells]
  have h1 : ∀ v ∈ Z, v.oneCell' = true := by
    intro v hv
    rw [hZ] at hv
    simp only [Builtin.zeroCells, Array.toList_map, List.mem_map] at hv
    obtain ⟨k, _, rfl⟩ := hv
    have hk : k % 1 = 0 := Nat.mod_one k
    show (#[Value.int .u8 0][k % 1]!).oneCell' = true
    rw [hk]
    rfl
  have hst := run_storeCells_cells (P := Tryz.prog) g i Z 0 W (fun j hj => by
    rw [show i + 0 + j = i + j by omega, (h.cell (i + j) (by omega)).1]; rfl) (fun j hj => by
    rw [show i + 0 + j = i + j by omega]; exact (h.cell (i + j) (by omega)).2) h1
  rw [Nat.add_zero] at hst
  constructor
  · rw [← hZ]
    have hz := Tryz.zeroValue5
    obtain ⟨m, hm⟩ : ∃ m, zs.length - i = m + 1 := ⟨zs.length - i - 1, by omega⟩
    rw [hm] at hZ ⊢
    have hz2 : ∀ w, (zeroValue 5).run Tryz.prog w = .ok (.int .u8 0) w := hz
    simp [Builtin.clear_, run_underlying Tryz.underlying116, hz2, Value.cells, ← hZ, hst]
  · rw [← hZ]
    obtain ⟨cs, hb, hc⟩ := h
    obtain ⟨cs', h2, h3, h4⟩ := setCells_block Z i W cs hb
    refine ⟨cs', by rw [h3]; exact h2, fun j hj => ?_⟩
    have hj' : j < zs.length := by simp at hj; omega
    rw [h4 j (by simp at hj; omega), List.getElem_take]
    exact hc j hj'
theorem grownBy_setCellsB (W : World) (g : Nat) : ∀ (vs : List Value) (o : Nat), W.grownBy (W.setCells g o vs) (some g) := by
  intro vs
  induction vs generalizing W with
  | nil => intro o; exact ⟨rfl, rfl, rfl, Nat.le_refl _, fun _ _ _ => rfl⟩
  | cons v r ih => 
    intro o
    have h1 : W.grownBy (W.setCell ⟨g, o, none⟩ v) (some g) := ⟨rfl, rfl, rfl, by simp [World.setCell], fun k _ hk => Below.heap_setCell _ _ _ k (fun e => hk (by rw [e]))⟩
    exact World.grownBy.trans h1 (ih _ (o + 1))

set_option maxRecDepth 100000 in
set_option maxHeartbeats 2000000 in
theorem deleteByte_any (s : Bytes) (n1 g cap : Nat) (w1 w : World) (hw : Below n1 w1 w) (hn1 : n1 ≤ w1.heap.size) (hr : ByAt w g s) (hg : g < w.heap.size) (hgn : n1 ≤ g) (hn : s.length ≤ maxLen) (hcap : s.length ≤ cap) :
    Calls Tryz.prog 130 #[.slice (some ⟨g, 0, none⟩) s.length cap, .func (.func 131) #[] #[]] w fun e w' =>
      e = .returned (.slice (some ⟨g, 0, none⟩) (s.filter standsB).length cap) ∧ ByAt w' g (s.filter standsB) ∧ Below n1 w1 w' := by
  have hI := ixByte_any s g cap w hr hg hn
  unfold maxLen at hn
  have HH := Lib.hid (And.intro hw (And.intro hr (And.intro hn1 (And.intro hgn hg))))
  clear hw hr hn1 hgn hg
  go_enter Tryz.func130, Tryz.ntmps130
  go_wp2_with fail
  refine hI.mono ?_
  rintro e w2 ⟨he, hb2⟩
  clear hI
  rcases he with ⟨rfl, hall⟩ | ⟨k, hk, rfl, ha, hno⟩
  · have hfil : s.filter standsB = s := List.filter_eq_self.2 fun x hx => by
      obtain ⟨j, hj, rfl⟩ := List.getElem_of_mem hx
      have := hall j hj
      unfold notStands at this
      simpa using this
    have HF := Lib.hid (And.intro hfil hb2)
    clear hall hfil hb2
    go_wp2
    refine bodyPost_ret (v := .slice (some ⟨g, 0, none⟩) s.length cap) (by simp [results, Tryz.results130, go_sem]) rfl ?_
    rw [HF.out.1]
    exact ⟨rfl, HH.out.2.1.below HF.out.2, HH.out.1.trans (HF.out.2.mono (Nat.le_trans HH.out.2.2.1 HH.out.1.size))⟩
  · have hk1 : ((k : Int) == -1) = false := beq_eq_false_iff_ne.2 (by omega)
    have hst : DByt standsB s (k + 1) k s := DByt.start hk (fun x hx => by
      obtain ⟨j, hj, rfl⟩ := List.getElem_of_mem hx
      have hj' : j < k := by simp at hj; omega
      have := hno j (by omega) hj'
      unfold notStands at this
      rw [List.getElem_take]
      simpa using this) (by unfold notStands at ha; simpa using ha)
    have HF := Lib.hid (And.intro hst hb2)
    clear ha hno hb2 hst
    go_wp2_with fail
    go_loopw [5, 6] (fun s5 s6 wr => ∃ (i j : Nat) (zs : Bytes), s5 = .int .i64 (i : Int) ∧ s6 = .int .i64 (j : Int) ∧ j ≤ s.length ∧ DByt standsB s j i zs ∧ ByAt wr g zs ∧ Below n1 w1 wr ∧ w2.heap.size ≤ wr.heap.size) (fun _ s6 _ => s.length - natI s6)
    case atStart =>
      exact ⟨k, k + 1, s, rfl, by simp, by omega, HF.out.1, HH.out.2.1.below HF.out.2, HH.out.1.trans (HF.out.2.mono (Nat.le_trans HH.out.2.2.1 HH.out.1.size)), Nat.le_refl _⟩
    case round =>
      obtain ⟨i, j, zs, rfl, rfl, hj, hD, hR, hB, hsz⟩ := hrel
      have hzl := hD.len
      have hij := hD.lt
      by_cases hlast : j < s.length
      · have hli : (j : Int) < (s.length : Int) := by omega
        obtain ⟨c0, -⟩ := hR.cell j (by omega)
        have hgw : g < wr.heap.size := cell_lt c0
        have hget := hD.get hlast
        have hkeep := hD.keep hlast
        have hskip := hD.skip hlast
        rw [hget] at c0
        clear hget
        have hcall := word1_any s[j] wr
        obtain ⟨x, hx⟩ : ∃ x, x = s[j] := ⟨_, rfl⟩
        rw [← hx] at c0 hkeep hskip hcall
        clear hx
        have hset := hR.set i (by omega) x
        have HD := Lib.hid (And.intro hkeep (And.intro hskip (And.intro hR (And.intro hB (And.intro hsz hset)))))
        clear hD hkeep hskip hR hB hsz hset
        generalize hfx : standsB x = r at hcall HD
        clear hfx
        generalize hxn : x.toNat = xn at *
        have HXN := Lib.hid hxn
        clear hxn
        have hrun : Sem.run Tryz.prog (callFunc 131 #[.int .u8 (xn : Int)]) wr = .ok (.enter 131 #[.int .u8 (xn : Int)]) wr := enterWord _ _
        go_wp2_with fail
        refine hcall.mono ?_
        rintro e w4 ⟨rfl, hb4⟩
        have hR4 : ByAt w4 g zs := HD.out.2.2.1.below hb4
        have hB14 : Below n1 w1 w4 := HD.out.2.2.2.1.trans (hb4.mono (Nat.le_trans HH.out.2.2.1 HD.out.2.2.2.1.size))
        have hsz4 : w2.heap.size ≤ w4.heap.size := Nat.le_trans HD.out.2.2.2.2.1 hb4.size
        clear c0 hcall hb4 hrun
        cases r
        · have HE := Lib.hid (And.intro (HD.out.2.1 rfl) (And.intro hR4 (And.intro hB14 hsz4)))
          clear HD hR4 hB14 hsz4
          go_wp2
          go_roundw
          case rel => exact ⟨i, j + 1, zs, rfl, by simp, by omega, HE.out.1, HE.out.2.1, HE.out.2.2.1, HE.out.2.2.2⟩
          case measure => simp [natI]; omega
        · obtain ⟨c0, f0⟩ := hR4.cell i (by omega)
          have hst := hR4.set i (by omega) x
          rw [HXN.out] at hst
          have HE := Lib.hid (And.intro (HD.out.1 rfl) (And.intro hst (And.intro hB14 hsz4)))
          clear HD hR4 hB14 hsz4 hst
          go_wp2
          go_roundw
          case rel => exact ⟨i + 1, j + 1, _, by simp, by simp, by omega, HE.out.1, HE.out.2.1, HE.out.2.2.1.setCell (p := ⟨g, i, none⟩) HH.out.2.2.2.1 _, by simpa [World.setCell] using HE.out.2.2.2⟩
          case measure => simp [natI]; omega
      · have hli : ¬ (j : Int) < (s.length : Int) := by omega
        obtain rfl : j = s.length := by omega
        have hfil := hD.fil
        rw [List.take_length] at hfil
        have hlen : i = (s.filter standsB).length := by rw [← hfil]; simp; omega
        have hcl := fun ty => (clearByt hR (show i < zs.length by omega) (cap - i) ty).1
        have hrow := (clearByt hR (show i < zs.length by omega) (cap - i) 0).2
        rw [hfil] at hrow
        rw [hzl] at hcl hrow
        obtain ⟨Z, hZ⟩ : ∃ Z, Z = (Builtin.zeroCells #[.int .u8 0] (s.length - i)).toList := ⟨_, rfl⟩
        rw [← hZ] at hcl hrow
        clear hZ
        have hfin : Below n1 w1 (wr.setCells g i Z) := hB.grown (grownBy_setCellsB wr g Z i) (Nat.le_trans HH.out.2.2.1 hB.size) (fun k e => by cases e; exact HH.out.2.2.2.1)
        have HE := Lib.hid (And.intro hlen (And.intro hrow hfin))
        clear hfil hlen hrow hfin hD hR hB hzl
        have hip : i < s.length := hij
        go_wp2
        refine bodyPost_ret (v := .slice (some ⟨g, 0, none⟩) i cap) (by simp [results, Tryz.results130, go_sem]) rfl ?_
        exact ⟨by rw [← HE.out.1], HE.out.2.1, HE.out.2.2⟩

set_option maxRecDepth 100000 in
set_option maxHeartbeats 2000000 in
theorem word_any (s : Bytes) (w : World) (hs : s.length ≤ maxLen) : Calls Tryz.prog 90 #[.string ⟨s.toArray⟩] w fun e w' => e = .returned (.string ⟨(wordB s).toArray⟩) ∧ Below w.heap.size w w' := by
  have hconv := Lib.run_convert_string_bytes (P := Tryz.prog) w 9 116 5 ⟨s.toArray⟩ Tryz.underlying9 Tryz.underlying116 Tryz.underlying5
  have hsz : (⟨s.toArray⟩ : ByteArray).size = s.length := rfl
  rw [hsz] at hconv
  have hB := bytes_below w 5 ⟨s.toArray⟩
  have hN := ByAt.new w s
  have hge := grownCap_ge w s.length 0 5
  have hsiz : w.heap.size < (Lib.bytesWorld w 5 ⟨s.toArray⟩).heap.size := by rw [Lib.bytesWorld_size]; omega
  generalize Lib.bytesWorld w 5 ⟨s.toArray⟩ = w1 at *
  generalize grownCap w s.length 0 5 = cap at *
  have hD := deleteByte_any s w.heap.size w.heap.size cap w w1 hB (Nat.le_refl _) hN hsiz (Nat.le_refl _) hs hge
  have hfl : (s.filter standsB).length ≤ s.length := List.length_filter_le _ _
  have hub : s.length ≤ 9223372036854775807 := by unfold maxLen at hs; omega
  have HB := Lib.hid (And.intro hge hfl)
  clear hB hN hsz hs hge hsiz hfl
  go_enter Tryz.func90, Tryz.ntmps90
  go_wp2_with fail
  refine hD.mono ?_
  rintro e w2 ⟨rfl, hR2, hb2⟩
  clear hD hconv
  obtain ⟨l, hl⟩ : ∃ l, l = s.filter standsB := ⟨_, rfl⟩
  have hw : wordB s = l.take 128 := by unfold wordB; rw [hl]
  have hlc : l.length ≤ cap := by rw [hl]; exact Nat.le_trans HB.out.2 HB.out.1
  have hll : l.length ≤ 9223372036854775807 := by rw [hl]; exact Nat.le_trans HB.out.2 hub
  rw [← hl] at hR2 ⊢
  have HL := Lib.hid hw
  clear hw hl HB hub
  have HW := Lib.hid hb2
  clear hb2
  by_cases h128 : (l.length : Int) ≤ 128
  · have ht : l.take 128 = l := List.take_of_length_le (by omega)
    have hmin : min (l.length : Int) 128 = (l.length : Int) := by omega
    have hstr := hR2.str cap
    have HT := Lib.hid ht
    clear ht hR2
    go_wp2
    refine bodyPost_ret (v := .string ⟨l.toArray⟩) (by simp [results, Tryz.results90, go_sem]) rfl ⟨by rw [HL.out, HT.out], HW.out⟩
  · have hmin : min (l.length : Int) 128 = 128 := by omega
    have hstr := (hR2.take 128).str cap
    have htl : (l.take 128).length = 128 := by simp; omega
    rw [htl] at hstr
    have h128c : 128 ≤ cap := by omega
    clear hR2 htl
    obtain ⟨t, ht⟩ : ∃ t, t = l.take 128 := ⟨_, rfl⟩
    rw [← ht] at hstr
    have HT := Lib.hid ht
    clear ht
    go_wp2
    refine bodyPost_ret (v := .string ⟨t.toArray⟩) (by simp [results, Tryz.results90, go_sem]) rfl ⟨by rw [HL.out, HT.out], HW.out⟩
end Go.Proofs.YtlpngibdplnieaaGreatDoor

/- Regions of reads and of calls that lay blocks; entry.wrong. -/
namespace Go.Proofs.YtlpngibdplnieaaGreatDoor
open Go Go.RowKit Go.Shelf Go.Sort
attribute [local go_sem] bneI

/-- A world that keeps all that lay in w. -/
structure BW (w : World) where
  v : World
  h : Below w.heap.size w v
instance (w : World) : Inhabited (BW w) := ⟨⟨w, Below.refl _ _⟩⟩
theorem wp_region_quiet_below {P : Program} {id : Nat} {Q : Exit → Act → World → Prop} {a : Act} {w : World} {l : List Oper} (hm : P.follows .mixedOrders = true) (hB : Region.lexB .any l.toArray = true)
    (h : wpQuiet P l.toArray (fun w' => ∃ p : BW w, w' = p.v) (fun a' => ∀ w', (∃ p : BW w, w' = p.v) → Q .normal a' w') l a) : (Code.region id l.toArray true).wp P Q a w :=
  wp_region_quiet (C := fun w' => ∃ p : BW w, w' = p.v) hm hB ⟨⟨w.drew, ⟨rfl, rfl, rfl, Nat.le_refl _, fun _ _ => rfl⟩⟩, rfl⟩ (by simpa using h)
theorem BW.calls {P : Program} {f : FuncId} {args : Array Value} {v : Value} {w : World} (h : ∀ W, Below w.heap.size w W → Calls P f args W fun e w' => e = .returned v ∧ Below W.heap.size W w') (q : BW w) : Calls P f args q.v fun e w'' => e = .returned v ∧ ∃ q' : BW w, w'' = q'.v :=
  (h q.v q.h).mono fun _ w'' hh => ⟨hh.1, ⟨w'', q.h.trans (hh.2.mono q.h.size)⟩, rfl⟩
theorem BW.cell {w : World} {a : Addr} {u : Value} (h : w.cell? a = some u) (q : BW w) : q.v.cell? a = some u := (q.h.cell (p := a) (cell_lt h)).trans h

theorem wrong_yes (f : FaP) (h : wrongB f = true) : 2 < f.1 ∨ (¬ 2 < f.1 ∧ wordB f.2 ≠ f.2) ∨ (¬ 2 < f.1 ∧ wordB f.2 = f.2 ∧ f.1 ≠ 2 ∧ f.2 ≠ []) := by
  unfold wrongB at h
  simp only [Bool.or_eq_true, Bool.and_eq_true, decide_eq_true_eq] at h
  by_cases h1 : 2 < f.1
  · exact .inl h1
  · by_cases h2 : wordB f.2 = f.2
    · rcases h with h | h | h
      · exact absurd h h1
      · exact absurd h2 h
      · exact .inr (.inr ⟨h1, h2, h⟩)
    · exact .inr (.inl ⟨h1, h2⟩)
theorem wrong_no (f : FaP) (h : wrongB f = false) : ¬ 2 < f.1 ∧ wordB f.2 = f.2 ∧ (f.1 = 2 ∨ (f.1 ≠ 2 ∧ f.2 = [])) := by
  unfold wrongB at h
  simp only [Bool.or_eq_false_iff, Bool.and_eq_false_iff, decide_eq_false_iff_not, ne_eq, Decidable.not_not] at h
  refine ⟨h.1, h.2.1, ?_⟩
  by_cases h2 : f.1 = 2
  · exact .inl h2
  · exact .inr ⟨h2, by rcases h.2.2 with h | h; exact absurd h h2; exact h⟩
set_option maxRecDepth 100000 in
set_option maxHeartbeats 4000000 in
theorem wrong_any (f : FaP) (w : World) (hs : f.2.length ≤ maxLen) : Calls Tryz.prog 56 (#[.agg (faE f).toArray] ++ #[]) w fun e w' => e = .returned (.bool (wrongB f)) ∧ Below w.heap.size w w' := by
  obtain ⟨st, tx⟩ := f
  have hW := fun W => word_any tx W hs
  have hyes := wrong_yes (st, tx)
  have hnot := wrong_no (st, tx)
  unfold faE
  dsimp only at hs hyes hnot ⊢
  obtain ⟨W1, hW1⟩ : ∃ W1, W1 = (w.alloc (.cells #[.int .u8 (st : Int), .string ⟨tx.toArray⟩] 61)) := ⟨_, rfl⟩
  have hB1 : Below w.heap.size w W1 := by rw [hW1]; exact (Below.refl _ w).alloc (Nat.le_refl _) _
  have hb1 : W1.heap[w.heap.size]? = some (.cells #[.int .u8 (st : Int), .string ⟨tx.toArray⟩] 61 (0, 0)) := by rw [hW1]; exact ha_eq rfl
  have x0 : W1.cell? ⟨w.heap.size, 0, none⟩ = some (.int .u8 (st : Int)) := by simp [World.cell?, hb1]
  have x1 : W1.cell? ⟨w.heap.size, 1, none⟩ = some (.string ⟨tx.toArray⟩) := by simp [World.cell?, hb1]
  have hx0 := BW.cell x0
  have hx1 := BW.cell x1
  have hWq := BW.calls (w := W1) (fun W _ => hW W)
  have HB := Lib.hid hB1
  clear hB1 hb1 x0 x1 hs hW
  have hfin : ∀ (r : Bool) (W : World), (∃ p : BW W1, W = p.v) → Below w.heap.size w W := fun _ W hp => by
    obtain ⟨p, rfl⟩ := hp
    exact HB.out.trans (p.h.mono HB.out.size)
  have HF := Lib.hid hfin
  clear hfin
  generalize wordB tx = u at *
  cases hr : wrongB (st, tx) with
  | true =>
    rcases hyes hr with h1 | ⟨h1, h2⟩ | ⟨h1, h2, h3, h4⟩
    · have e1 : (2 : Int) < (st : Int) := by omega
      clear hyes hnot hr h1
      go_enter Tryz.func56, Tryz.ntmps56
      go_upto_region 1 with (fail)
      rw [← hW1]
      clear hW1
      refine wp_region_quiet_below (by kernel_rfl) (by kernel_rfl) ?_
      repeat (go_big_quiet_step (exact hWq _))
      refine wpQuiet_nil ?_
      intro w5 hw'
      have H5 := Lib.hid (HF.out true w5 hw')
      clear hw' hx0 hx1 hWq
      go_wp2
      refine bodyPost_ret (v := .bool true) (by simp [results, Tryz.results56, go_sem]) rfl ⟨rfl, H5.out⟩
    · have e1 : ¬ (2 : Int) < (st : Int) := by omega
      have e2 : (u == tx) = false := by simpa using h2
      clear hyes hnot hr h1 h2
      go_enter Tryz.func56, Tryz.ntmps56
      go_upto_region 1 with (fail)
      rw [← hW1]
      clear hW1
      refine wp_region_quiet_below (by kernel_rfl) (by kernel_rfl) ?_
      repeat (go_big_quiet_step (exact hWq _))
      refine wpQuiet_nil ?_
      intro w5 hw'
      have H5 := Lib.hid (HF.out true w5 hw')
      clear hw' hx0 hx1 hWq
      go_wp2
      refine bodyPost_ret (v := .bool true) (by simp [results, Tryz.results56, go_sem]) rfl ⟨rfl, H5.out⟩
    · have e1 : ¬ (2 : Int) < (st : Int) := by omega
      subst h2
      have e3 : ((st : Int) == 2) = false := by simp; omega
      have e4 : decide ((st : Int) = 2) = false := by simp; omega
      have e5 : (u == []) = false := by simpa using h4
      have e6 : u.isEmpty = false := by simpa using h4
      clear hyes hnot hr h1 h3
      go_enter Tryz.func56, Tryz.ntmps56
      go_upto_region 1 with (fail)
      rw [← hW1]
      clear hW1
      refine wp_region_quiet_below (by kernel_rfl) (by kernel_rfl) ?_
      repeat (go_big_quiet_step (exact hWq _))
      refine wpQuiet_nil ?_
      intro w5 hw'
      have H5 := Lib.hid (HF.out true w5 hw')
      clear hw' hx0 hx1 hWq
      go_wp2
      refine bodyPost_ret (v := .bool true) (by simp [results, Tryz.results56, go_sem]) rfl ⟨rfl, H5.out⟩
  | false =>
    obtain ⟨h1, h2, h3⟩ := hnot hr
    have e1 : ¬ (2 : Int) < (st : Int) := by omega
    subst h2
    rcases h3 with h3 | ⟨h3, h4⟩
    · have e3 : ((st : Int) == 2) = true := by simp; omega
      have e4 : decide ((st : Int) = 2) = true := by simp; omega
      clear hyes hnot hr h1 h3
      go_enter Tryz.func56, Tryz.ntmps56
      go_upto_region 1 with (fail)
      rw [← hW1]
      clear hW1
      refine wp_region_quiet_below (by kernel_rfl) (by kernel_rfl) ?_
      repeat (go_big_quiet_step (exact hWq _))
      refine wpQuiet_nil ?_
      intro w5 hw'
      have H5 := Lib.hid (HF.out true w5 hw')
      clear hw' hx0 hx1 hWq
      go_wp2
      refine bodyPost_ret (v := .bool false) (by simp [results, Tryz.results56, go_sem]) rfl ⟨rfl, H5.out⟩
    · have e3 : ((st : Int) == 2) = false := by simp; omega
      have e4 : decide ((st : Int) = 2) = false := by simp; omega
      subst h4
      clear hyes hnot hr h1 h3
      go_enter Tryz.func56, Tryz.ntmps56
      go_upto_region 1 with (fail)
      rw [← hW1]
      clear hW1
      refine wp_region_quiet_below (by kernel_rfl) (by kernel_rfl) ?_
      repeat (go_big_quiet_step (exact hWq _))
      refine wpQuiet_nil ?_
      intro w5 hw'
      have H5 := Lib.hid (HF.out true w5 hw')
      clear hw' hx0 hx1 hWq
      go_wp2
      refine bodyPost_ret (v := .bool false) (by simp [results, Tryz.results56, go_sem]) rfl ⟨rfl, H5.out⟩
end Go.Proofs.YtlpngibdplnieaaGreatDoor

/- A region that draws its order: reads and calls that leave a world of a class, then a chain of operations that may write: walked once; outside and inside a fence. -/
namespace Go.Proofs.YtlpngibdplnieaaGreatDoor
open Go
section
variable {P : Program} {ops : Array Oper} {md : Region.Mode} {C : World → Prop}

def wpAnyQT (P : Program) (md : Region.Mode) (ops : Array Oper) (C : World → Prop) (n₀ : Nat) (L : Array Bool → Act → Prop) : Nat → Array Bool → Act → Prop
  | 0, listed, a => L listed a
  | f + 1, listed, a =>
    Region.ready md ops listed ≠ [] ∧ ∀ i ∈ Region.ready md ops listed, i < n₀ ∧ qOp P ops C i (wpAnyQT P md ops C n₀ L f (listed.setIfInBounds i true)) a

theorem wpAny_of_headQ {n₀ g : Nat} {L : Array Bool → Act → Prop} {Q' : Exit → Act → World → Prop} (hL : ∀ listed a w, C w → L listed a → wpAny P md ops Q' g listed a w) :
    ∀ (f : Nat) (listed : Array Bool) (a : Act) (w : World), C w → wpAnyQT P md ops C n₀ L f listed a → wpAny P md ops Q' (f + g) listed a w
  | 0, listed, a, w, hw, h => by rw [Nat.zero_add]; exact hL _ _ _ hw h
  | f + 1, listed, a, w, hw, h => by
    rw [show f + 1 + g = (f + g) + 1 by omega]
    exact ⟨fun h0 => absurd h0 h.1, fun i hi => wpOp_of_qOp hw (fun a' w' hw' h' => wpAny_of_headQ hL f _ a' w' hw' h') (h.2 i hi).2⟩

theorem wpAnyQT_first {n₀ i : Nat} {oi : Oper} {v : Value} {L : Array Bool → Act → Prop} (hi : ops[i]? = some oi) (hsel : ∀ (j : Nat) (o : Oper) cs b, ops[j]? = some o → o.op ≠ .select cs b)
    (hs : Region.sinkB md ops n₀ = true) (hc : Region.chainB md ops n₀ = true) (hn : n₀ < ops.size) (hin : i < n₀)
    (hdone : ∀ listed a, L listed a → ∀ j ∈ Region.ready md ops listed, n₀ ≤ j) :
    ∀ (f : Nat) (listed : Array Bool) (a : Act), HeadInv md ops n₀ listed →
      (∀ j oj, ops[j]? = some oj → j ≠ i → listed.getD j true = false → (∀ e ∈ oj.after, Region.binds md e = true → e.on ≠ i) → oi.apart ops oj = true) →
      i ∈ Region.ready md ops listed → YieldsIn P ops C oi v a →
      wpAnyQT P md ops C n₀ L f (listed.setIfInBounds i true) (a.put oi.dst v) → wpAnyQT P md ops C n₀ L (f + 1) listed a := by
  intro f
  induction f with
  | zero =>
    intro listed a inv _ hr hy H
    have hun := (mem_ready.1 hr).1
    refine ⟨fun h => (by rw [h] at hr; cases hr), fun j hj => ?_⟩
    have hjn : j < n₀ := by
      rcases Nat.lt_or_ge j n₀ with h | h
      · exact h
      · exact absurd hj (tail_waits hs hc hn inv _ i rfl hin hun j h)
    refine ⟨hjn, ?_⟩
    by_cases hji : j = i
    · subst hji; exact hy.qOp hi H
    · have := hdone _ _ H j (ready_mono hj hji)
      omega
  | succ f ih =>
    intro listed a inv hfree hr hy H
    have hun := (mem_ready.1 hr).1
    refine ⟨fun h => (by rw [h] at hr; cases hr), fun j hj => ?_⟩
    have hjn : j < n₀ := by
      rcases Nat.lt_or_ge j n₀ with h | h
      · exact h
      · exact absurd hj (tail_waits hs hc hn inv _ i rfl hin hun j h)
    refine ⟨hjn, ?_⟩
    by_cases hji : j = i
    · subst hji; exact hy.qOp hi H
    · have h1 := (H.2 j (ready_mono hj hji)).2
      obtain ⟨hjun, oj, hoj, hall⟩ := mem_ready.1 hj
      have hnot : ∀ e ∈ oj.after, Region.binds md e = true → e.on ≠ i := fun e he hb heq => by
        have h1 := hall e he hb
        rw [heq, getD_both hun] at h1
        cases h1
      have h2 := qOp_put hoj (hfree j oj hoj hji hjun hnot) (fun cs b => hsel i oi cs b hi) (fun cs b => hsel j oj cs b hoj) hy h1
      have hfree' : ∀ k ok, ops[k]? = some ok → k ≠ i → (listed.setIfInBounds j true).getD k true = false →
          (∀ e ∈ ok.after, Region.binds md e = true → e.on ≠ i) → oi.apart ops ok = true := fun k ok hk hki hun hno => by
        refine hfree k ok hk hki ?_ hno
        by_cases hjk : j = k
        · subst hjk; exact hjun
        · rw [getD_set_ne true hjk] at hun; exact hun
      refine qOp_mono (fun a' h3 => ih (listed.setIfInBounds j true) a' (inv.set hj hjn) hfree' (ready_mono hr (Ne.symm hji)) h3.1 ?_) h2
      rw [Array.setIfInBounds_comm _ _ hji]
      exact h3.2

theorem wpAny_of_seqQ {Q' : Exit → Act → World → Prop} : ∀ (l : List Oper) (k : Nat) (listed : Array Bool) (a : Act) (w : World), (∀ j, l[j]? = ops[k + j]?) →
    Region.seqB md ops l.length k listed = true → wpList P ops Q' l a w → wpAny P md ops Q' l.length listed a w
  | [], _, _, _, _, _, hB, h => ⟨by simpa [Region.seqB] using hB, h⟩
  | o :: l, k, listed, a, w, hl, hB, h => by
    have h0 : ops[k]? = some o := by simpa using (hl 0).symm
    simp only [List.length_cons, Region.seqB, Bool.and_eq_true, decide_eq_true_eq] at hB
    refine ⟨fun h1 => (by rw [hB.1] at h1; cases h1), fun i hi => ?_⟩
    rw [hB.1] at hi
    have hik : i = k := by simpa using hi
    subst hik
    have hw : wpOp P ops Q' i (wpList P ops Q' l) a w := by unfold wpOp; simp only [h0]; exact h
    exact wpOp_mono (fun a' w' h' => wpAny_of_seqQ l (i + 1) _ a' w' (fun j => by have := hl (j + 1); simpa [Nat.add_assoc, Nat.add_comm 1 j] using this) hB.2 h') hw

theorem wpAnyQT_lex {n₀ g : Nat} {Lq : Act → Prop} (hsel : Region.noSelect ops = true) (hs : Region.sinkB md ops n₀ = true) (hc : Region.chainB md ops n₀ = true) (hn : n₀ < ops.size) :
    ∀ (l : List Oper) (k : Nat) (listed : Array Bool) (a : Act), (∀ j, j < l.length → l[j]? = ops[k + j]?) → k + l.length = n₀ → HeadInv md ops n₀ listed →
    Region.lexHead md ops g l.length k listed = true → wpQuiet P ops C Lq l a →
    wpAnyQT P md ops C n₀ (fun listed' a' => Region.seqB md ops g n₀ listed' = true ∧ Lq a') l.length listed a
  | [], k, listed, a, _, hk, _, hB, h => by
    have : k = n₀ := by simpa using hk
    subst this
    exact ⟨by simpa [Region.lexHead] using hB, h⟩
  | o :: l, k, listed, a, hl, hk, inv, hB, h => by
    have h0 : ops[k]? = some o := by simpa using (hl 0 (by simp)).symm
    simp only [List.length_cons, Region.lexHead, Bool.and_eq_true] at hB
    obtain ⟨⟨hr, hf⟩, hB'⟩ := hB
    have hkn : k < n₀ := by simp only [List.length_cons] at hk; omega
    have hr' : k ∈ Region.ready md ops listed := by simpa using hr
    have hst : qOp P ops C k (wpQuiet P ops C Lq l) a := by unfold qOp; simp only [h0]; exact h
    obtain ⟨v, hy, hK⟩ := yieldsIn_of_qOp h0 hst
    exact wpAnyQT_first h0 (Region.noSelect_spec hsel) hs hc hn hkn (fun listed' a' hL => seqB_ready hL.1) l.length listed a inv (Region.free_spec h0 hf) hr' hy
      (wpAnyQT_lex hsel hs hc hn l (k + 1) _ _ (fun j hj => by have := hl (j + 1) (by simp; omega); simpa [Nat.add_assoc, Nat.add_comm 1 j] using this) (by simp only [List.length_cons] at hk; omega) (inv.set hr' hkn) hB' hK)

/-- Reads and calls that leave a world of the class, then a chain of operations that may write. -/
theorem wp_region_quiet_tail {id : Nat} {Q : Exit → Act → World → Prop} {a : Act} {w : World} {l : List Oper} (n₀ : Nat) (hm : P.follows .mixedOrders = true) (hB : Region.lexTailB .any l.toArray n₀ = true) (hC : C { w with drawn := w.drawn + 1 })
    (h : wpQuiet P l.toArray C (fun a' => ∀ w', C w' → wpList P l.toArray Q (l.drop n₀) a' w') (l.take n₀) a) : (Code.region id l.toArray true).wp P Q a w := by
  simp only [Region.lexTailB, Bool.and_eq_true, decide_eq_true_eq] at hB
  obtain ⟨⟨⟨⟨hsel, hn⟩, hs⟩, hc⟩, hlex⟩ := hB
  have hn' : n₀ < l.length := by simpa using hn
  have htl : (l.take n₀).length = n₀ := by simp; omega
  have hdl : (l.drop n₀).length = l.toArray.size - n₀ := by simp
  have inv0 : HeadInv .any l.toArray n₀ (Array.replicate l.toArray.size false) :=
    ⟨by simp, fun j oj _ hl => (by rw [getD_replicate_false] at hl; cases hl), fun t _ ht => getD_in (by simpa using ht) (getD_replicate_false _ _)⟩
  have H := wpAnyQT_lex (md := .any) (g := l.toArray.size - n₀) hsel hs hc hn (l.take n₀) 0 _ a (fun j hj => by
    have hj' : j < n₀ := by rw [htl] at hj; exact hj
    simp [hj']) (by simpa using htl) inv0 (by rw [htl]; exact hlex) h
  refine wp_region_any hm ?_
  have := wpAny_of_headQ (Q' := Q) (g := l.toArray.size - n₀) (fun listed a' w' hw' hL => by
    have := wpAny_of_seqQ (md := .any) (Q' := Q) (l.drop n₀) n₀ listed a' w' (fun j => by simp [List.getElem?_drop]) (by rw [hdl]; exact hL.1) (hL.2 w' hw')
    rwa [hdl] at this) _ _ _ _ hC H
  rw [htl, show n₀ + (l.toArray.size - n₀) = l.toArray.size by omega] at this
  exact this
end
section
variable {F : Fence} {n : Nat} {P : Program} {ops : Array Oper} {md : Region.Mode} {C : World → Prop}

def wpAnyQTIn (F : Fence) (n : Nat) (P : Program) (md : Region.Mode) (ops : Array Oper) (C : World → Prop) (n₀ : Nat) (L : Array Bool → Act → Prop) : Nat → Array Bool → Act → Prop
  | 0, listed, a => L listed a
  | f + 1, listed, a =>
    Region.ready md ops listed ≠ [] ∧ ∀ i ∈ Region.ready md ops listed, i < n₀ ∧ qOpIn F n P ops C i (wpAnyQTIn F n P md ops C n₀ L f (listed.setIfInBounds i true)) a

theorem wpAnyIn_of_headQ (hro : F.round = none) {n₀ g : Nat} {L : Array Bool → Act → Prop} {Q' : Exit → Act → World → Prop} (hL : ∀ listed a w, C w → L listed a → wpAnyIn F n P md ops Q' g listed a w) :
    ∀ (f : Nat) (listed : Array Bool) (a : Act) (w : World), C w → wpAnyQTIn F n P md ops C n₀ L f listed a → wpAnyIn F n P md ops Q' (f + g) listed a w
  | 0, listed, a, w, hw, h => by rw [Nat.zero_add]; exact hL _ _ _ hw h
  | f + 1, listed, a, w, hw, h => by
    rw [show f + 1 + g = (f + g) + 1 by omega]
    exact ⟨fun h0 => absurd h0 h.1, fun i hi => wpOpIn_of_qOpIn hro hw (fun a' w' hw' h' => wpAnyIn_of_headQ hro hL f _ a' w' hw' h') (h.2 i hi).2⟩

theorem wpAnyQTIn_first {n₀ i : Nat} {oi : Oper} {v : Value} {L : Array Bool → Act → Prop} (hi : ops[i]? = some oi) (hsel : ∀ (j : Nat) (o : Oper) cs b, ops[j]? = some o → o.op ≠ .select cs b)
    (hs : Region.sinkB md ops n₀ = true) (hc : Region.chainB md ops n₀ = true) (hn : n₀ < ops.size) (hin : i < n₀)
    (hdone : ∀ listed a, L listed a → ∀ j ∈ Region.ready md ops listed, n₀ ≤ j) :
    ∀ (f : Nat) (listed : Array Bool) (a : Act), HeadInv md ops n₀ listed →
      (∀ j oj, ops[j]? = some oj → j ≠ i → listed.getD j true = false → (∀ e ∈ oj.after, Region.binds md e = true → e.on ≠ i) → oi.apart ops oj = true) →
      i ∈ Region.ready md ops listed → YieldsQuiet F n P ops C oi v a →
      wpAnyQTIn F n P md ops C n₀ L f (listed.setIfInBounds i true) (a.put oi.dst v) → wpAnyQTIn F n P md ops C n₀ L (f + 1) listed a := by
  intro f
  induction f with
  | zero =>
    intro listed a inv _ hr hy H
    have hun := (mem_ready.1 hr).1
    refine ⟨fun h => (by rw [h] at hr; cases hr), fun j hj => ?_⟩
    have hjn : j < n₀ := by
      rcases Nat.lt_or_ge j n₀ with h | h
      · exact h
      · exact absurd hj (tail_waits hs hc hn inv _ i rfl hin hun j h)
    refine ⟨hjn, ?_⟩
    by_cases hji : j = i
    · subst hji; exact hy.qOpIn hi H
    · have := hdone _ _ H j (ready_mono hj hji)
      omega
  | succ f ih =>
    intro listed a inv hfree hr hy H
    have hun := (mem_ready.1 hr).1
    refine ⟨fun h => (by rw [h] at hr; cases hr), fun j hj => ?_⟩
    have hjn : j < n₀ := by
      rcases Nat.lt_or_ge j n₀ with h | h
      · exact h
      · exact absurd hj (tail_waits hs hc hn inv _ i rfl hin hun j h)
    refine ⟨hjn, ?_⟩
    by_cases hji : j = i
    · subst hji; exact hy.qOpIn hi H
    · have h1 := (H.2 j (ready_mono hj hji)).2
      obtain ⟨hjun, oj, hoj, hall⟩ := mem_ready.1 hj
      have hnot : ∀ e ∈ oj.after, Region.binds md e = true → e.on ≠ i := fun e he hb heq => by
        have h1 := hall e he hb
        rw [heq, getD_both hun] at h1
        cases h1
      have h2 := qOpIn_put hoj (hfree j oj hoj hji hjun hnot) (fun cs b => hsel i oi cs b hi) (fun cs b => hsel j oj cs b hoj) hy h1
      have hfree' : ∀ k ok, ops[k]? = some ok → k ≠ i → (listed.setIfInBounds j true).getD k true = false →
          (∀ e ∈ ok.after, Region.binds md e = true → e.on ≠ i) → oi.apart ops ok = true := fun k ok hk hki hun hno => by
        refine hfree k ok hk hki ?_ hno
        by_cases hjk : j = k
        · subst hjk; exact hjun
        · rw [getD_set_ne true hjk] at hun; exact hun
      refine qOpIn_mono (fun a' h3 => ih (listed.setIfInBounds j true) a' (inv.set hj hjn) hfree' (ready_mono hr (Ne.symm hji)) h3.1 ?_) h2
      rw [Array.setIfInBounds_comm _ _ hji]
      exact h3.2

theorem wpAnyIn_of_seqQ {Q' : Exit → Act → World → Prop} : ∀ (l : List Oper) (k : Nat) (listed : Array Bool) (a : Act) (w : World), (∀ j, l[j]? = ops[k + j]?) →
    Region.seqB md ops l.length k listed = true → wpListIn F n P ops Q' l a w → wpAnyIn F n P md ops Q' l.length listed a w
  | [], _, _, _, _, _, hB, h => ⟨by simpa [Region.seqB] using hB, h⟩
  | o :: l, k, listed, a, w, hl, hB, h => by
    have h0 : ops[k]? = some o := by simpa using (hl 0).symm
    simp only [List.length_cons, Region.seqB, Bool.and_eq_true, decide_eq_true_eq] at hB
    refine ⟨fun h1 => (by rw [hB.1] at h1; cases h1), fun i hi => ?_⟩
    rw [hB.1] at hi
    have hik : i = k := by simpa using hi
    subst hik
    have hw : wpOpIn F n P ops Q' i (wpListIn F n P ops Q' l) a w := by unfold wpOpIn; simp only [h0]; exact h
    exact wpOpIn_mono (fun a' w' h' => wpAnyIn_of_seqQ l (i + 1) _ a' w' (fun j => by have := hl (j + 1); simpa [Nat.add_assoc, Nat.add_comm 1 j] using this) hB.2 h') hw

theorem wpAnyQTIn_lex {n₀ g : Nat} {Lq : Act → Prop} (hsel : Region.noSelect ops = true) (hs : Region.sinkB md ops n₀ = true) (hc : Region.chainB md ops n₀ = true) (hn : n₀ < ops.size) :
    ∀ (l : List Oper) (k : Nat) (listed : Array Bool) (a : Act), (∀ j, j < l.length → l[j]? = ops[k + j]?) → k + l.length = n₀ → HeadInv md ops n₀ listed →
    Region.lexHead md ops g l.length k listed = true → wpQuietIn F n P ops C Lq l a →
    wpAnyQTIn F n P md ops C n₀ (fun listed' a' => Region.seqB md ops g n₀ listed' = true ∧ Lq a') l.length listed a
  | [], k, listed, a, _, hk, _, hB, h => by
    have : k = n₀ := by simpa using hk
    subst this
    exact ⟨by simpa [Region.lexHead] using hB, h⟩
  | o :: l, k, listed, a, hl, hk, inv, hB, h => by
    have h0 : ops[k]? = some o := by simpa using (hl 0 (by simp)).symm
    simp only [List.length_cons, Region.lexHead, Bool.and_eq_true] at hB
    obtain ⟨⟨hr, hf⟩, hB'⟩ := hB
    have hkn : k < n₀ := by simp only [List.length_cons] at hk; omega
    have hr' : k ∈ Region.ready md ops listed := by simpa using hr
    have hst : qOpIn F n P ops C k (wpQuietIn F n P ops C Lq l) a := by unfold qOpIn; simp only [h0]; exact h
    obtain ⟨v, hy, hK⟩ := yieldsQuiet_of_qOpIn h0 hst
    exact wpAnyQTIn_first h0 (Region.noSelect_spec hsel) hs hc hn hkn (fun listed' a' hL => seqB_ready hL.1) l.length listed a inv (Region.free_spec h0 hf) hr' hy
      (wpAnyQTIn_lex hsel hs hc hn l (k + 1) _ _ (fun j hj => by have := hl (j + 1) (by simp; omega); simpa [Nat.add_assoc, Nat.add_comm 1 j] using this) (by simp only [List.length_cons] at hk; omega) (inv.set hr' hkn) hB' hK)

/-- Reads and calls that leave a world of the class, then a chain of operations that may write. -/
theorem wpIn_region_quiet_tail {id : Nat} {Q : Exit → Act → World → Prop} {a : Act} {w : World} {l : List Oper} (n₀ : Nat) (hro : F.round = none) (hm : P.follows .mixedOrders = true) (hB : Region.lexTailB .any l.toArray n₀ = true) (hC : C { w with drawn := w.drawn + 1 })
    (h : wpQuietIn F n P l.toArray C (fun a' => ∀ w', C w' → wpListIn F n P l.toArray Q (l.drop n₀) a' w') (l.take n₀) a) : (Code.region id l.toArray true).wpIn F n P Q a w := by
  simp only [Region.lexTailB, Bool.and_eq_true, decide_eq_true_eq] at hB
  obtain ⟨⟨⟨⟨hsel, hn⟩, hs⟩, hc⟩, hlex⟩ := hB
  have hn' : n₀ < l.length := by simpa using hn
  have htl : (l.take n₀).length = n₀ := by simp; omega
  have hdl : (l.drop n₀).length = l.toArray.size - n₀ := by simp
  have inv0 : HeadInv .any l.toArray n₀ (Array.replicate l.toArray.size false) :=
    ⟨by simp, fun j oj _ hl => (by rw [getD_replicate_false] at hl; cases hl), fun t _ ht => getD_in (by simpa using ht) (getD_replicate_false _ _)⟩
  have H := wpAnyQTIn_lex (md := .any) (g := l.toArray.size - n₀) hsel hs hc hn (l.take n₀) 0 _ a (fun j hj => by
    have hj' : j < n₀ := by rw [htl] at hj; exact hj
    simp [hj']) (by simpa using htl) inv0 (by rw [htl]; exact hlex) h
  refine wpIn_region_any hm ?_
  have := wpAnyIn_of_headQ hro (Q' := Q) (g := l.toArray.size - n₀) (fun listed a' w' hw' hL => by
    have := wpAnyIn_of_seqQ (F := F) (n := n) (md := .any) (Q' := Q) (l.drop n₀) n₀ listed a' w' (fun j => by simp [List.getElem?_drop]) (by rw [hdl]; exact hL.1) (hL.2 w' hw')
    rwa [hdl] at this) _ _ _ _ hC H
  rw [htl, show n₀ + (l.toArray.size - n₀) = l.toArray.size by omega] at this
  exact this
end
end Go.Proofs.YtlpngibdplnieaaGreatDoor

/- A range over a function whose iterator makes boxes of its own on its way: the law of the walk for such a loop. What the loop has for its own is the box of what it gathers, and that row. -/
namespace Go.Proofs.YtlpngibdplnieaaGreatDoor
open Go Go.RowKit
variable {F : Fence} {n : Nat} {P : Program}

/-- The loop's own blocks: the box, and the row that lies in it. -/
def OwnB (bo : Nat) (W : World) (r : Nat) : Prop := r = bo ∨ ∃ p n c, W.cell? ⟨bo, 0, none⟩ = some (.slice (some p) n c) ∧ p.block = r
/-- J stands through the iterator's own steps: new blocks, and what it does to blocks from B on that are not the loop's. -/
def AbidesF {β : Type} (B bo : Nat) (J : β → World → Prop) : Prop :=
  ∀ s W W' row, J s W → W.grownBy W' row → (∀ r, row = some r → B ≤ r ∧ ¬ OwnB bo W r) → J s W'
def OwnF {β : Type} (B bo : Nat) (I : β → World → Prop) : Prop :=
  ∀ s W W' row, I s W → W.grownBy W' row → (∀ r, row = some r → B ≤ r ∧ (¬ OwnB bo W r ∨ ∃ o : Obj, W.heap[r]? = some o ∧ o.isCells = false)) → I s W'
/-- What a round keeps: each block of cells that is not the loop's. -/
def KeepsF (bo : Nat) (W W' : World) : Prop := W.heap.size ≤ W'.heap.size ∧ ∀ r o, W.heap[r]? = some o → o.isCells = true → ¬ OwnB bo W r → W'.heap[r]? = some o ∧ ¬ OwnB bo W' r
theorem KeepsF.trans {bo : Nat} {A B C : World} (h : KeepsF bo A B) (k : KeepsF bo B C) : KeepsF bo A C :=
  ⟨Nat.le_trans h.1 k.1, fun r o hr ho hn => k.2 r o (h.2 r o hr ho hn).1 ho (h.2 r o hr ho hn).2⟩
theorem KeepsF.refl (bo : Nat) (W : World) : KeepsF bo W W := ⟨Nat.le_refl _, fun _ _ hr _ hn => ⟨hr, hn⟩⟩
theorem ownB_of_cell {bo : Nat} {W W' : World} (h : W'.cell? ⟨bo, 0, none⟩ = W.cell? ⟨bo, 0, none⟩) {r : Nat} : OwnB bo W' r ↔ OwnB bo W r := by unfold OwnB; rw [h]
theorem ownB_block {bo : Nat} {W W' : World} (h : W'.heap[bo]? = W.heap[bo]?) {r : Nat} : OwnB bo W' r ↔ OwnB bo W r :=
  ownB_of_cell (by unfold World.cell?; rw [h])
theorem OwnF.putObj {β : Type} {B bo : Nat} {I : β → World → Prop} (h : OwnF B bo I) {s : β} {W : World} {l : Nat} {o : Obj} (o' : Obj) (hs : I s W) (hB : B ≤ l) (hl : W.heap[l]? = some o) (ho : o.isCells = false) : I s (W.putObj l o') :=
  h s W _ (some l) hs (grownBy_putObj' W l o') (fun r e => by cases e; exact ⟨hB, .inr ⟨o, hl, ho⟩⟩)
theorem OwnF.alloc {β : Type} {B bo : Nat} {I : β → World → Prop} (h : OwnF B bo I) {s : β} {W : World} (o : Obj) (hs : I s W) : I s (W.alloc o) :=
  h s W _ none hs (World.grownBy_alloc W o none) (fun r e => by cases e)
theorem OwnF.and {β : Type} {B bo : Nat} {I I' : β → World → Prop} (h : OwnF B bo I) (h' : OwnF B bo I') : OwnF B bo (fun s W => I s W ∧ I' s W) := fun s W W' row hs hg hr => ⟨h s W W' row hs.1 hg hr, h' s W W' row hs.2 hg hr⟩
theorem ownF_pure {β : Type} (B bo : Nat) (p : β → Prop) : OwnF B bo (fun s (_ : World) => p s) := fun _ _ _ _ hs _ _ => hs
theorem ownF_below {β : Type} {B n₀ bo : Nat} {w₀ : World} (h0 : n₀ ≤ w₀.heap.size) (hB : n₀ ≤ B) : OwnF B bo (fun (_ : β) W => Below n₀ w₀ W) :=
  fun _ _ _ _ hs hg hr => hs.grown hg (Nat.le_trans h0 hs.size) (fun k e => Nat.le_trans hB (hr k e).1)
theorem ownF_size {β : Type} {B n₀ bo : Nat} : OwnF B bo (fun (_ : β) W => n₀ ≤ W.heap.size) :=
  fun _ _ _ _ hs hg _ => Nat.le_trans hs hg.size
/-- A block below B stands. -/
theorem ownF_low {β : Type} {B b bo : Nat} (hb : b < B) {cs : β → Array Value} {t : TypeId} : OwnF B bo (fun s W => W.heap[b]? = some (.cells (cs s) t (0, 0))) :=
  fun _ _ _ _ hs hg hr => (hg.block b (Array.getElem?_eq_some_iff.1 hs).1 (fun e => by have := (hr b e.symm).1; omega)).trans hs
theorem keepsF_b {bo B : Nat} (hbo : bo < B) (W : World) (l : Nat) (o o' : Obj) (hl : B ≤ l) (h : W.heap[l]? = some o) (hc : o.isCells = false) : KeepsF bo W (W.putObj l o') :=
  ⟨by simp, fun r c hr hcc hn => by
    have hne : r ≠ l := fun e => by
      subst e
      rw [h] at hr
      cases hr
      rw [hc] at hcc
      cases hcc
    exact ⟨(World.putObj_heap_other hne).trans hr, fun hk => hn ((ownB_block (World.putObj_heap_other (by omega))).1 hk)⟩⟩
/-- What belongs to whoever made the iterator: blocks that the loop must not have for its own. -/
def SeqFree {α : Type} (F : Fence) (n : Nat) (P : Program) (g : Nat) (lb : Array Value) (encs : α → Array Value) (bo : Nat) (Cap : Nat → Prop) (S : List α → Prop) (Y : List α → α → Prop) (w : World) : Prop :=
  ∀ (l : Nat) (J : List α → World → Prop) (W : World), Below w.heap.size w W → AbidesF W.heap.size bo J → (∀ pre W1, J pre W1 → (∃ o, W1.heap[bo]? = some o ∧ o.isCells = true) ∧ ∀ r, OwnB bo W1 r → r < W1.heap.size) →
    (∀ pre x W1, J pre W1 → Y pre x → YieldAt F (n - 1) P l (encs x) W1 fun e W' => e = .returned (.bool true) ∧ J (pre ++ [x]) W' ∧ KeepsF bo W1 W') →
    J [] W → (∀ r, Cap r → ¬ OwnB bo W r) →
    CallsIn F n P g (#[.func (.yield l) #[] #[]] ++ lb) W fun e W' => (∃ v, e = .returned v) ∧ ∃ xs, S xs ∧ J xs W'

theorem wpIn_rangeFunc_F {α : Type} {g : Operand} {ps : Array Tmp} {assign body : Code} {Q : Exit → Act → World → Prop} {a : Act} {w : World}
    (hro : F.round = none) (h1 : 1 ≤ n) {gf : Nat} {lb : Array Value} (hg : a.eval g = .func (.func gf) #[] lb) (hFg : F.fn gf) (eg : ∀ args w, (callFunc gf args).run P w = .ok (.enter gf args) w)
    {encs : α → Array Value} {bo : Nat} {Cap : Nat → Prop} {S : List α → Prop} {Y : List α → α → Prop} {w0 : World} (hseq : SeqFree F (n - 1) P gf lb encs bo Cap S Y w0)
    (hb0 : Below w0.heap.size w0 w) (hps : ∀ x, (encs x).size = ps.size) (hbo : bo < w.heap.size) (hno : ∀ r, Cap r → ¬ OwnB bo w r)
    (I : List α → World → Prop) (hI : OwnF w.heap.size bo I) (hIo : ∀ pre W, I pre W → (∃ o, W.heap[bo]? = some o ∧ o.isCells = true) ∧ ∀ r, OwnB bo W r → ∃ o, W.heap[r]? = some o ∧ o.isCells = true) (h0 : I [] w)
    (Ax : α → Act → World → Prop) (hAx : ∀ x a' (W : World) (l : Nat) (o o' : Obj), Ax x a' W → w.heap.size ≤ l → W.heap[l]? = some o → o.isCells = false → Ax x a' (W.putObj l o'))
    (hassign : ∀ (l : Nat) (pre : List α) (x : α) (W : World) (K : Act → World → Prop), I pre W → (∀ a' W', KeepsFrom w.heap.size W W' → KeepsF bo W W' → I pre W' → Ax x a' W' → K a' W') →
      assign.wpIn (F.inRound l) (n - 1 - 1) P (Exit.then K (fun _ _ _ => False)) { tmps := (ps.zip (encs x)).foldl (fun t (p, v) => t.setIfInBounds p v) a.tmps, defers := [] } W)
    (hbody : ∀ (l : Nat) (pre : List α) (x : α) (a' : Act) (W : World), w.heap.size ≤ l → (∃ r, W.heap[l]? = some (.loop r)) → I pre W → Ax x a' W → Y pre x → body.wpIn (F.inRound l) (n - 1 - 1) P (ownPostG w.heap.size (KeepsF bo) I (fun _ _ _ => False) (pre ++ [x]) W) a' W)
    (hdone : ∀ (D : Nat) (xs : List α) (W : World), w.heap.size ≤ D → S xs → I xs W → W.heap[D]? = some (.deferred (some [])) → Q .normal { a with defers := { target := .collected D, args := #[] } :: a.defers } W) :
    (Code.rangeFunc g ps assign body).wpIn F n P Q a w := by
  refine wpIn_rangeFunc ?_
  intro fn hfn
  rw [hro]
  obtain ⟨rec, hrec⟩ : ∃ rec : LoopState → Option Code → Loop, rec = fun st pe => { state := st, pending := pe, fn, tmps := a.tmps, params := ps, assign, body, defers := w.heap.size } := ⟨_, rfl⟩
  obtain ⟨W1, hW1⟩ : ∃ W1, (w.alloc (.deferred (some []))).alloc (.loop (rec .ready none)) = W1 := ⟨_, rfl⟩
  have hL1 : W1.heap[w.heap.size + 1]? = some (.loop (rec .ready none)) := by
    rw [← hW1]; have := World.alloc_heap_new (w.alloc (.deferred (some []))) (.loop (rec .ready none)); rwa [World.size_alloc] at this
  have hK1 : W1.heap[w.heap.size]? = some (.deferred (some [])) := by
    rw [← hW1]; exact (Below.heap_alloc _ _ _ (by simp)).trans (World.alloc_heap_new w _)
  have hI1 : I [] W1 := by rw [← hW1]; exact hI.alloc _ (hI.alloc _ h0)
  have hb1 : Below w0.heap.size w0 W1 := by
    rw [← hW1]; exact hb0.trans ((((Below.refl _ w).alloc (Nat.le_refl _) _).alloc (by simp) _).mono hb0.size)
  have hkeep : ∀ {A B : World} {row : Option Nat} {k : Nat} {o : Obj}, A.grownBy B row → (∀ r, row = some r → W1.heap.size ≤ r ∧ ¬ OwnB bo A r) → k < W1.heap.size → A.heap[k]? = some o → B.heap[k]? = some o :=
    fun {A B row k o} hg' hr hk ho => (hg'.block k (Array.getElem?_eq_some_iff.1 ho).1 (fun e => by have := (hr k e.symm).1; omega)).trans ho
  have hW1s : W1.heap.size = w.heap.size + 2 := by rw [← hW1]; simp
  have hown1 : ∀ r, Cap r → ¬ OwnB bo W1 r := fun r hr hk => hno r hr ((ownB_block (by rw [← hW1]; exact (Below.heap_alloc _ _ _ (by simp; omega)).trans (Below.heap_alloc _ _ _ (by omega)))).1 hk)
  refine ⟨w.heap.size + 1, [{ target := .collected w.heap.size, args := #[] }], W1, { target := .fn (.func gf) lb, args := #[.func (.yield (w.heap.size + 1)) #[] #[]] }, W1, gf,
    #[.func (.yield (w.heap.size + 1)) #[] #[]] ++ lb, W1, ?_, ?_, ?_, ?_, fun _ => h1, ?_⟩
  · rw [← hW1, hrec]; exact run_enterLoop_outer _ _ _ _ _
  · simp only [resolve, hg]
    simp [go_sem]
  · intro f' hf'; simp [Target.leads] at hf'; subst hf'; exact hFg
  · simp [invoke, go_sem, eg]
  · have hnw : ∀ {A : World} {row : Option Nat}, (∀ r, row = some r → W1.heap.size ≤ r ∧ ¬ OwnB bo A r) → (∀ r, row = some r → w.heap.size ≤ r ∧ (¬ OwnB bo A r ∨ ∃ o : Obj, A.heap[r]? = some o ∧ o.isCells = false)) :=
      fun hr r e => by
        have h := hr r e
        exact ⟨by omega, .inl h.2⟩
    refine (hseq (w.heap.size + 1)
      (fun pre W => I pre W ∧ W.heap[w.heap.size + 1]? = some (.loop (rec .ready none)) ∧ W.heap[w.heap.size]? = some (.deferred (some [])))
      W1 hb1
      (fun s A B row hs hg' hr => ⟨hI s A B row hs.1 hg' (hnw hr), hkeep hg' hr (by omega) hs.2.1, hkeep hg' hr (by omega) hs.2.2⟩)
      (fun pre W hs => ⟨(hIo pre W hs.1).1, fun r hr => by obtain ⟨o, ho, _⟩ := (hIo pre W hs.1).2 r hr; exact (Array.getElem?_eq_some_iff.1 ho).1⟩)
      ?_ ⟨hI1, hL1, hK1⟩ hown1).mono ?_
    · rintro pre x W ⟨hi, hl, hk⟩ hlen
      have hlt : w.heap.size + 1 < W.heap.size := (Array.getElem?_eq_some_iff.1 hl).1
      have hy := run_yield (P := P) (args := encs x) hl (by rw [hrec]; exact hps x)
      rw [hrec] at hy
      refine ⟨fn, _, assign, body, hy, roundIn_of_wpIn hfn (hassign _ pre x W _ hi ?_)⟩
      clear hy
      intro a' Wa hkfa hkpa hia hax
      replace hl := hkfa.same _ _ (by omega) hl rfl
      replace hk := hkfa.same _ _ (Nat.le_refl _) hk rfl
      replace hlt : w.heap.size + 1 < Wa.heap.size := (Array.getElem?_eq_some_iff.1 hl).1
      replace hi := hia
      clear hia
      revert hkpa hkfa
      generalize W = Wb
      intro hkfa hkpa
      obtain ⟨W, rfl⟩ : ∃ W, W = Wa := ⟨_, rfl⟩
      refine ⟨_, run_beginRound hl (by rw [hrec]), ?_⟩
      have hl2 : (W.putObj (w.heap.size + 1) (.loop { rec .ready none with state := .busy })).heap[w.heap.size + 1]? = some (.loop { rec .ready none with state := .busy }) := World.putObj_heap_same hlt
      have hk2 : (W.putObj (w.heap.size + 1) (.loop { rec .ready none with state := .busy })).heap[w.heap.size]? = some (.deferred (some [])) := (World.putObj_heap_other (by omega)).trans hk
      have hw2 : KeepsF bo W (W.putObj (w.heap.size + 1) (.loop { rec .ready none with state := .busy })) := keepsF_b hbo _ _ _ _ (by omega) hl rfl
      refine wpIn_mono (hbody _ pre x a' _ (by omega) ⟨_, hl2⟩ (hI.putObj _ hi (by omega) hl rfl) (hAx x a' _ _ _ _ hax (by omega) hl rfl) hlen) ?_
      have fin : ∀ (W3 : World), KeepsFrom w.heap.size (W.putObj (w.heap.size + 1) (.loop { rec .ready none with state := .busy })) W3 →
          (Instr.endRound (w.heap.size + 1) none).run P W3 = .ok (.bool true) (W3.putObj (w.heap.size + 1) (.loop (rec .ready none))) ∧
          W3.heap[w.heap.size + 1]? = some (.loop { rec .ready none with state := .busy }) ∧
          (W3.putObj (w.heap.size + 1) (.loop (rec .ready none))).heap[w.heap.size + 1]? = some (.loop (rec .ready none)) ∧
          (W3.putObj (w.heap.size + 1) (.loop (rec .ready none))).heap[w.heap.size]? = some (.deferred (some [])) := fun W3 hk3 => by
        have hl3 := hk3.same _ _ (by omega) hl2 rfl
        have := run_endRound (P := P) none hl3
        rw [hrec] at this ⊢
        exact ⟨this, by rw [hrec] at hl3; exact hl3, World.putObj_heap_same (Array.getElem?_eq_some_iff.1 hl3).1, (World.putObj_heap_other (by omega)).trans (hk3.same _ _ (Nat.le_refl _) hk2 rfl)⟩
      rintro e a3 W3 hp
      cases e with
      | normal =>
        obtain ⟨hk3, hkp3, hi3⟩ := hp
        obtain ⟨hr, hl3, hl4, hk4⟩ := fin W3 hk3
        exact ⟨_, _, hr, rfl, ⟨hI.putObj _ hi3 (by omega) hl3 rfl, hl4, hk4⟩, hkpa.trans ((hw2.trans hkp3).trans (keepsF_b hbo _ _ _ _ (by omega) hl3 rfl))⟩
      | ret => exact hp.2.elim
      | exit id => exact hp.2.elim
      | goto t => exact hp.2.elim
      | panic ch => exact hp.elim
      | outgrown => exact hp.elim
    · rintro e W2 ⟨⟨v, rfl⟩, xs, hS, hi, hl, hk⟩
      exact ⟨none, _, by have := run_endLoop (P := P) hl (by rw [hrec]; simp); rw [hrec] at this; exact this, hdone _ xs _ (Nat.le_refl _) hS (hI.putObj _ hi (by omega) hl rfl) ((World.putObj_heap_other (by omega)).trans hk)⟩
end Go.Proofs.YtlpngibdplnieaaGreatDoor

/- head.fields: its iterator. -/
namespace Go.Proofs.YtlpngibdplnieaaGreatDoor
open Go Go.RowKit Go.Shelf Go.Sort
attribute [local go_sem] bneI Oper.semAt_some

theorem fnWide (f : FuncId) : Fence.wide.fn f = True := rfl
attribute [local go_sem] fnWide

theorem trim_any (s : Bytes) (w : World) (hs : s.length ≤ 9223372036854775807) : Calls Tryz.prog 144 #[.string ⟨s.toArray⟩, .string ⟨#[32, 9]⟩] w fun e w' => e = .returned (.string ⟨(trimB s).toArray⟩) ∧ Below w.heap.size w w' := by
  have h := Any.strings_Trim_laid Tryz.lays160 (by kernel_rfl) ⟨s.toArray⟩ ⟨#[32, 9]⟩ w hs (by decide) (ascii_of_all (by decide))
  have e : Lib.trimS s [32, 9] = trimB s := by
    unfold Lib.trimS Lib.trimLeftS Lib.trimRightS trimB
    have : (fun x : UInt8 => [32, 9].contains x) = blankB := by funext c; simp [blankB]; rfl
    rw [this]
  refine h.mono fun e' w' hh => ⟨?_, hh.2⟩
  rw [← e]
  exact hh.1
theorem roundIn_wide {m m' : Nat} {P : Program} {l : Nat} {f : FuncId} {tmps : Array Value} {assign body : Code} {w : World} {R : Ending → World → Prop} (h : RoundIn Fence.wide m P l f tmps assign body w R) : RoundIn Fence.wide m' P l f tmps assign body w R :=
  ⟨h.1, fun c cs _ => h.2 c cs (room_wide _)⟩
theorem yieldAt_wide {m m' : Nat} {P : Program} {l : Nat} {args : Array Value} {w : World} {R : Ending → World → Prop} (h : YieldAt Fence.wide m P l args w R) : YieldAt Fence.wide m' P l args w R := by
  obtain ⟨fn, t, a, b, h1, h2⟩ := h
  exact ⟨fn, t, a, b, h1, roundIn_wide h2⟩
def fiE (x : Bytes × Bytes) : Array Value := #[.agg #[.string ⟨x.1.toArray⟩, .string ⟨x.2.toArray⟩]]

set_option maxRecDepth 100000 in
set_option maxHeartbeats 1000000 in
theorem tell_nil (n bn bY : Nat) (W : World) (hn : W.heap[bn]? = some (.cells #[.pointer none] 266 (0, 0))) :
    CallsIn Fence.wide n Tryz.prog 253 #[.pointer (some ⟨bn, 0, none⟩), .pointer (some ⟨bY, 0, none⟩)] W fun e W' => e = .returned (.bool true) ∧ Below W.heap.size W W' := by
  refine callsIn_wide.2 ?_
  have c0 : W.cell? ⟨bn, 0, none⟩ = some (.pointer none) := by simp [World.cell?, hn]
  have hc := BW.cell c0
  clear hn
  go_enter Tryz.func253, Tryz.ntmps253
  go_upto_region 1 with (fail)
  refine wp_region_quiet_below (by kernel_rfl) (by kernel_rfl) ?_
  repeat (go_big_quiet_step (fail))
  refine wpQuiet_nil ?_
  intro w5 hw'
  have H5 : Hid (Below W.heap.size W w5) := by
    obtain ⟨p, rfl⟩ := hw'
    exact Lib.hid p.h
  clear hw' hc c0
  go_wp2
  refine bodyPost_ret (v := .bool true) (by simp [results, Tryz.results253, go_sem]) rfl ⟨rfl, H5.out⟩

set_option maxRecDepth 100000 in
set_option maxHeartbeats 1000000 in
theorem tell_some (n l bn bY bf : Nat) (nm v : Bytes) (W : World) (R : World → Prop) (hv : v.length ≤ 9223372036854775807)
    (hn : W.cell? ⟨bn, 0, none⟩ = some (.pointer (some ⟨bf, 0, none⟩))) (hy : W.cell? ⟨bY, 0, none⟩ = some (.func (.yield l) #[] #[]))
    (hf0 : W.cell? ⟨bf, 0, none⟩ = some (.string ⟨nm.toArray⟩)) (hf1 : W.cell? ⟨bf, 1, none⟩ = some (.string ⟨v.toArray⟩))
    (hY : ∀ W1, Below W.heap.size W W1 → YieldAt Fence.wide (n - 1) Tryz.prog l (fiE (nm, trimB v)) W1 fun e W' => e = .returned (.bool true) ∧ R W') :
    CallsIn Fence.wide n Tryz.prog 253 #[.pointer (some ⟨bn, 0, none⟩), .pointer (some ⟨bY, 0, none⟩)] W fun e W' => e = .returned (.bool true) ∧ R W' := by
  have c0 := BW.cell hn
  have c1 := BW.cell hy
  have c2 := BW.cell hf0
  have c3 := BW.cell hf1
  have hT := BW.calls (w := W) (fun W1 _ => trim_any v W1 hv)
  have hTi := fun q => callsIn_wide (n := n - 1).2 (hT q)
  clear hn hy hf0 hf1 hv hT
  refine callsIn_of_wp Tryz.func253 rfl trivial ?_ rfl
  simp only [Tryz.ntmps253, List.size_toArray, List.length_cons, List.length_nil, Nat.reduceAdd, Nat.reduceSub, Array.replicate_succ, Array.replicate_zero, List.push_toArray, List.append_toArray, List.nil_append, List.cons_append]
  gi_wp2_with fail
  refine wpIn_region_quiet_tail (C := fun w' => ∃ p : BW W, w' = p.v) 14 rfl (by kernel_rfl) (by kernel_rfl) ⟨⟨W.drew, ⟨rfl, rfl, rfl, Nat.le_refl _, fun _ _ => rfl⟩⟩, rfl⟩ ?_
  simp only [List.take_succ_cons, List.take_zero, List.drop_succ_cons, List.drop_zero]
  repeat (gi_big_quiet_step (exact ⟨fun h => (by cases h), hTi _⟩))
  refine wpQuietIn_nil ?_
  rintro W1 ⟨⟨W1, hB1⟩, rfl⟩
  obtain ⟨fn, tmps, assign, body, hyy, hR⟩ := hY W1 hB1
  unfold fiE at hyy
  dsimp only at hyy
  clear c0 c1 c2 c3 hTi hY
  gi_wp2_with fail
  refine ⟨(fun h => by cases h), hR.mono ?_⟩
  rintro e W3 ⟨rfl, hR3⟩
  clear hyy hR
  gi_wp2
  refine bodyPost_ret (v := .bool true) (by simp [results, Tryz.results253, go_sem]) rfl ⟨rfl, hR3⟩

/-! ### The iterator -/
/-- What lies in the box of the field that is under way. -/
def NowAt (bo B bn bY : Nat) (lv : Value) (now : Option (Bytes × Bytes)) (W : World) : Prop := match now with
  | none => W.heap[bn]? = some (.cells #[.pointer none] 266 (0, 0))
  | some p => ∃ bf, W.heap[bn]? = some (.cells #[.pointer (some ⟨bf, 0, none⟩)] 266 (0, 0)) ∧ W.heap[bf]? = some (.cells #[.string ⟨p.1.toArray⟩, .string ⟨p.2.toArray⟩] 220 (0, 0)) ∧ B ≤ bf ∧ ¬ OwnB bo W bf ∧ bf ≠ bn ∧ bf ≠ bY ∧ lv.ownBlock ≠ some bf
structure FI (bo B : Nat) (Wc : World) (bn bY : Nat) (lv : Value) (now : Option (Bytes × Bytes)) (W : World) : Prop where
  size : Wc.heap.size ≤ W.heap.size
  glob : Glob W
  yb : W.heap[bY]? = Wc.heap[bY]?
  lb : ∀ g, lv.ownBlock = some g → W.heap[g]? = Wc.heap[g]?
  nowb : NowAt bo B bn bY lv now W
  o1 : ¬ OwnB bo W bn
  o2 : ¬ OwnB bo W bY
  o3 : ¬ OwnB bo W 1
  o4 : ∀ g, lv.ownBlock = some g → ¬ OwnB bo W g
/-- What stands of the world in which the lines were cut. -/
structure FC (B : Nat) (Wc : World) (bn bY : Nat) (lv : Value) (l : Nat) (L : List Bytes) : Prop where
  yb : Wc.heap[bY]? = some (.cells #[.func (.yield l) #[] #[]] 221 (0, 0))
  row : Wc.ownsRow B 9 1 lv L.length (L.map str)
  ne : bn ≠ bY
  ly : lv.ownBlock ≠ some bY
  ln : lv.ownBlock ≠ some bn
  bB : B ≤ bn
theorem lt_of_cells {W : World} {b : Nat} {o : Obj} (h : W.heap[b]? = some o) : b < W.heap.size := (Array.getElem?_eq_some_iff.1 h).1
section
variable {p : Bytes × Bytes} {bo B bn bY l : Nat} {Wc W W' : World} {lv : Value} {now : Option (Bytes × Bytes)} {L : List Bytes}
theorem FC.lb (h : FC B Wc bn bY lv l L) {g : Nat} (hg : lv.ownBlock = some g) : ∃ o, Wc.heap[g]? = some o ∧ o.isCells = true := by
  rcases h.row.2 with ⟨rfl, _⟩ | ⟨k, cap, cur, rfl, _, hgb, _⟩
  · simp [Value.ownBlock] at hg
  · have : k = g := by simpa [Value.ownBlock] using hg
    subst this; exact ⟨_, hgb, rfl⟩
theorem NowAt.lt (h : NowAt bo B bn bY lv now W) : bn < W.heap.size := by
  cases now with
  | none => exact lt_of_cells h
  | some p => obtain ⟨bf, h, -⟩ := h; exact lt_of_cells h
theorem NowAt.kept (h : NowAt bo B bn bY lv now W) (hn : W'.heap[bn]? = W.heap[bn]?) (hb : ∀ r, r ≠ bn → B ≤ r → ¬ OwnB bo W r → ∀ o, W.heap[r]? = some o → o.isCells = true → W'.heap[r]? = some o ∧ ¬ OwnB bo W' r) : NowAt bo B bn bY lv now W' := by
  cases now with
  | none => exact hn.trans h
  | some p =>
    obtain ⟨bf, h1, h2, h3, h4, h5, h6, h7⟩ := h
    have := hb bf h5 h3 h4 _ h2 rfl
    exact ⟨bf, hn.trans h1, this.1, h3, this.2, h5, h6, h7⟩
theorem Glob.cells {w : World} (h : Glob w) : ∃ o, w.heap[1]? = some o ∧ o.isCells = true := by
  obtain ⟨m, hm⟩ := h
  obtain ⟨o, ho, hc⟩ := cells_of_cell hm
  exact ⟨o, ho, hc⟩
theorem Glob.of_block {w w' : World} (h : Glob w) (hb : w'.heap[1]? = w.heap[1]?) : Glob w' := by
  obtain ⟨m, hm⟩ := h
  exact ⟨m, (World.cell?_of_block hb).trans hm⟩
theorem FI.below (h : FI bo B Wc bn bY lv now W) (hC : FC B Wc bn bY lv l L) (hB : Below W.heap.size W W') (hbo : bo < W.heap.size) : FI bo B Wc bn bY lv now W' := by
  have ho : ∀ r, OwnB bo W' r ↔ OwnB bo W r := fun r => ownB_block (hB.block bo hbo)
  have hyl : bY < W.heap.size := lt_of_cells (h.yb.trans hC.yb)
  obtain ⟨og, hog, _⟩ := h.glob.cells
  refine ⟨Nat.le_trans h.size hB.size, h.glob.of_block (hB.block _ (lt_of_cells hog)), (hB.block _ hyl).trans h.yb, fun g hg => ?_, h.nowb.kept (hB.block _ h.nowb.lt) (fun r _ _ hr o hr2 _ => ⟨(hB.block r (lt_of_cells hr2)).trans hr2, fun k => hr ((ho r).1 k)⟩), fun k => h.o1 ((ho _).1 k), fun k => h.o2 ((ho _).1 k), fun k => h.o3 ((ho _).1 k), fun g hg k => h.o4 g hg ((ho _).1 k)⟩
  obtain ⟨o, ho', _⟩ := hC.lb hg
  exact (hB.block g (lt_of_cells ((h.lb g hg).trans ho'))).trans (h.lb g hg)
theorem FI.keeps (h : FI bo B Wc bn bY lv now W) (hC : FC B Wc bn bY lv l L) (hK : KeepsF bo W W') : FI bo B Wc bn bY lv now W' := by
  obtain ⟨og, hog, hcg⟩ := h.glob.cells
  have hy := hK.2 bY _ (h.yb.trans hC.yb) rfl h.o2
  have hg := hK.2 _ _ hog hcg h.o3
  have hn : ∃ o, W.heap[bn]? = some o ∧ o.isCells = true := by
    have := h.nowb
    cases now with
    | none => exact ⟨_, this, rfl⟩
    | some p => obtain ⟨bf, h1, -⟩ := this; exact ⟨_, h1, rfl⟩
  obtain ⟨on, hon, hcn⟩ := hn
  have hnn := hK.2 bn _ hon hcn h.o1
  refine ⟨Nat.le_trans h.size hK.1, h.glob.of_block (hg.1.trans hog.symm), hy.1.trans hC.yb.symm, fun g hg' => ?_, h.nowb.kept (hnn.1.trans hon.symm) (fun r _ _ hr o hr2 hr3 => hK.2 r o hr2 hr3 hr), hnn.2, hy.2, hg.2, fun g hg' => ?_⟩
  · obtain ⟨o, ho, hc⟩ := hC.lb hg'
    exact (hK.2 g o ((h.lb g hg').trans ho) hc (h.o4 g hg')).1.trans ho.symm
  · obtain ⟨o, ho, hc⟩ := hC.lb hg'
    exact (hK.2 g o ((h.lb g hg').trans ho) hc (h.o4 g hg')).2
/-- A store into the box of the field under way. -/
theorem FI.setNow (h : FI bo B Wc bn bY lv now W) (hC : FC B Wc bn bY lv l L) (hg : 1 < B) (v : Value) (now' : Option (Bytes × Bytes)) (hn : NowAt bo B bn bY lv now' (W.setCell ⟨bn, 0, none⟩ v)) : FI bo B Wc bn bY lv now' (W.setCell ⟨bn, 0, none⟩ v) := by
  have hne : ∀ r, r ≠ bn → (W.setCell ⟨bn, 0, none⟩ v).heap[r]? = W.heap[r]? := fun r hr => Below.heap_setCell W ⟨bn, 0, none⟩ v r hr
  have hbo : bo ≠ bn := fun e => h.o1 (.inl e.symm)
  have ho : ∀ r, OwnB bo (W.setCell ⟨bn, 0, none⟩ v) r ↔ OwnB bo W r := fun r => ownB_block (hne bo hbo)
  have hbB := hC.bB
  refine ⟨by simpa [World.setCell] using h.size, h.glob.of_block (hne _ (by omega)), (hne _ (fun e => hC.ne e.symm)).trans h.yb, fun g hg' => (hne g (fun e => hC.ln (by rw [← e]; exact hg'))).trans (h.lb g hg'), hn, fun k => h.o1 ((ho _).1 k), fun k => h.o2 ((ho _).1 k), fun k => h.o3 ((ho _).1 k), fun g hg' k => h.o4 g hg' ((ho _).1 k)⟩
/-- A store into the field under way itself. -/
theorem FI.setField (h : FI bo B Wc bn bY lv (some p) W) (hg : 1 < B) (bf : Nat) (q : Bytes) (h1 : W.heap[bn]? = some (.cells #[.pointer (some ⟨bf, 0, none⟩)] 266 (0, 0))) (h2 : W.heap[bf]? = some (.cells #[.string ⟨p.1.toArray⟩, .string ⟨p.2.toArray⟩] 220 (0, 0))) (h3 : B ≤ bf) (h4 : ¬ OwnB bo W bf) (h5 : bf ≠ bn) (h6 : bf ≠ bY) (h7 : lv.ownBlock ≠ some bf) :
    FI bo B Wc bn bY lv (some (p.1, q)) (W.setCell ⟨bf, 1, none⟩ (.string ⟨q.toArray⟩)) := by
  have hne : ∀ r, r ≠ bf → (W.setCell ⟨bf, 1, none⟩ (.string ⟨q.toArray⟩)).heap[r]? = W.heap[r]? := fun r hr => Below.heap_setCell W ⟨bf, 1, none⟩ _ r hr
  have hbo : bo ≠ bf := fun e => h4 (.inl e.symm)
  have ho : ∀ r, OwnB bo (W.setCell ⟨bf, 1, none⟩ (.string ⟨q.toArray⟩)) r ↔ OwnB bo W r := fun r => ownB_block (hne bo hbo)
  refine ⟨by simpa [World.setCell] using h.size, h.glob.of_block (hne _ (by omega)), (hne _ (fun e => h6 e.symm)).trans h.yb, fun g hg' => (hne g (fun e => h7 (by rw [← e]; exact hg'))).trans (h.lb g hg'), ⟨bf, (hne _ (fun e => h5 e.symm)).trans h1, ?_, h3, fun k => h4 ((ho _).1 k), h5, h6, h7⟩, fun k => h.o1 ((ho _).1 k), fun k => h.o2 ((ho _).1 k), fun k => h.o3 ((ho _).1 k), fun g hg' k => h.o4 g hg' ((ho _).1 k)⟩
  simp [World.setCell, Array.getElem?_modify, h2]
end
end Go.Proofs.YtlpngibdplnieaaGreatDoor
