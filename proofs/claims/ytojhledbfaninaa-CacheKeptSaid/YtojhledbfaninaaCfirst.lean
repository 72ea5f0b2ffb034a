/- DeleteFunc, MinFunc over entries; first. -/
import Derived.Test.YtojhledbfaninaaCseq
namespace Go.Proofs.Ytojhledbfaninaa
open Go Go.RowKit Go.Shelf Go.Sort
attribute [local go_sem] bneI

/-! ### What counts -/
set_option maxRecDepth 100000 in
theorem expired_any (x : EM) (now : Int) (cb : Nat) (w : World) (hc : w.cell? ⟨cb, 0, none⟩ = some (.int .i64 now)) :
    Calls Try.prog 26 #[evp x, .pointer (some ⟨cb, 0, none⟩)] w fun e w' => e = .returned (.bool (decide (x.1.unt ≤ now))) ∧ Below w.heap.size w w' := by
  obtain ⟨⟨d, i, m, mx, age, unt⟩, p, n, c⟩ := x
  dsimp only
  rw [lit_ev]
  have hlt : cb < w.heap.size := cell_lt hc
  have hne : cb ≠ w.heap.size := Nat.ne_of_lt hlt
  by_cases h : unt ≤ now
  · go_enter Try.func26, Try.ntmps26
    go_wp2
    refine bodyPost_ret (v := .bool true) (by simp [results, Try.results26, go_sem]) rfl ⟨by simp [h], (Below.refl _ _).alloc (Nat.le_refl _) _⟩
  · go_enter Try.func26, Try.ntmps26
    go_wp2
    refine bodyPost_ret (v := .bool false) (by simp [results, Try.results26, go_sem]) rfl ⟨by simp; omega, (Below.refl _ _).alloc (Nat.le_refl _) _⟩
set_option maxRecDepth 100000 in
theorem soft_any (x : EM) (w : World) :
    Calls Try.prog 27 #[evp x] w fun e w' => e = .returned (.bool (decide (x.1.mode ≠ 3))) ∧ Below w.heap.size w w' := by
  obtain ⟨⟨d, i, m, mx, age, unt⟩, p, n, c⟩ := x
  dsimp only
  rw [lit_ev]
  by_cases h : m = 3
  · have hi : decide ((m : Int) = 3) = true := by simp; omega
    have H := Lib.hid h
    clear h
    go_enter Try.func27, Try.ntmps27
    go_wp2
    refine bodyPost_ret (v := .bool false) (by simp [results, Try.results27, go_sem]) rfl ⟨by simp [H.out], (Below.refl _ _).alloc (Nat.le_refl _) _⟩
  · have hi : decide ((m : Int) = 3) = false := by simp; omega
    have H := Lib.hid h
    clear h
    go_enter Try.func27, Try.ntmps27
    go_wp2
    refine bodyPost_ret (v := .bool true) (by simp [results, Try.results27, go_sem]) rfl ⟨by simp [H.out], (Below.refl _ _).alloc (Nat.le_refl _) _⟩

/-- A function value that says f of entries, in whatever world that comes of w1 and keeps what lay below n1. -/
def Counts (n1 : Nat) (w1 : World) (g : Nat) (lb : Array Value) (f : PE → Bool) : Prop :=
  ∀ (W : World) (x : EM), Below n1 w1 W → Calls Try.prog g (#[evp x] ++ lb) W fun e w' => e = .returned (.bool (f x.1)) ∧ Below W.heap.size W w'

set_option maxRecDepth 100000 in
theorem notCounts_any (n1 : Nat) (w1 : World) (g : Nat) (lb : Array Value) (f : PE → Bool) (cb : Nat) (eg : ∀ args w, (callFunc g args).run Try.prog w = .ok (.enter g args) w) (hn1 : n1 ≤ w1.heap.size) (hf : Counts n1 w1 g lb f) (hcb : cb < n1) (hc : w1.cell? ⟨cb, 0, none⟩ = some (.func (.func g) #[] lb)) :
    Counts n1 w1 44 #[.pointer (some ⟨cb, 0, none⟩)] (fun p => !f p) := by
  intro W x hb
  obtain ⟨⟨d, i, m, mx, age, unt⟩, p, n, c⟩ := x
  have hcW : W.cell? ⟨cb, 0, none⟩ = some (.func (.func g) #[] lb) := (hb.cell (p := ⟨cb, 0, none⟩) hcb).trans hc
  have hne : cb ≠ W.heap.size := Nat.ne_of_lt (cell_lt hcW)
  rw [lit_ev]
  obtain ⟨W1, hW⟩ : ∃ W1, W1 = W.alloc (.cells #[.string ⟨d.toArray⟩, .string ⟨i.toArray⟩, .int .u8 (m : Int), .slice p n c, .int .i64 age, .int .i64 unt] 27) := ⟨_, rfl⟩
  have hB : Below W.heap.size W W1 := by rw [hW]; exact (Below.refl _ _).alloc (Nat.le_refl _) _
  have hcall := hf W1 (⟨d, i, m, mx, age, unt⟩, p, n, c) (hb.trans (hB.mono (Nat.le_trans hn1 hb.size)))
  rw [lit_ev] at hcall
  have hbox : W1.heap[W.heap.size]? = some (.cells #[.string ⟨d.toArray⟩, .string ⟨i.toArray⟩, .int .u8 (m : Int), .slice p n c, .int .i64 age, .int .i64 unt] 27 (0, 0)) := by rw [hW]; exact ha_eq rfl
  have hc1 : W1.cell? ⟨cb, 0, none⟩ = some (.func (.func g) #[] lb) := (hB.cell (p := ⟨cb, 0, none⟩) (cell_lt hcW)).trans hcW
  obtain ⟨c0, c1, c2, c3, c4, c5⟩ := box6 hbox
  dsimp only at hcall ⊢
  generalize f ⟨d, i, m, mx, age, unt⟩ = r at hcall ⊢
  have HB := Lib.hid hB
  clear hf hb hc hbox hB
  subst hW
  show Calls Try.prog 44 #[.agg #[.string ⟨d.toArray⟩, .string ⟨i.toArray⟩, .int .u8 (m : Int), .slice p n c, .int .i64 age, .int .i64 unt], .pointer (some ⟨cb, 0, none⟩)] W _
  go_enter Try.func44, Try.ntmps44
  go_wp2_with (go_at_fn g; refine hcall.mono ?_; rintro e w' ⟨rfl, hb'⟩)
  refine bodyPost_ret (v := .bool !r) (by simp [results, Try.results44, go_sem]) rfl ⟨rfl, HB.out.trans (hb'.mono HB.out.size)⟩

/-! ### DeleteFunc -/
theorem ERow.six {w : World} {g : Nat} {ps : List EM} (h : ERow w g ps) {i : Nat} (hi : i < ps.length) :
    w.cell? ⟨g, i * 6, none⟩ = some (.string ⟨ps[i].1.dom.toArray⟩) ∧ w.cell? ⟨g, i * 6 + 1, none⟩ = some (.string ⟨ps[i].1.id.toArray⟩) ∧ w.cell? ⟨g, i * 6 + 2, none⟩ = some (.int .u8 (ps[i].1.mode : Int)) ∧
    w.cell? ⟨g, i * 6 + 3, none⟩ = some (.slice ps[i].2.1 ps[i].2.2.1 ps[i].2.2.2) ∧ w.cell? ⟨g, i * 6 + 4, none⟩ = some (.int .i64 ps[i].1.age) ∧ w.cell? ⟨g, i * 6 + 5, none⟩ = some (.int .i64 ps[i].1.unt) :=
  ⟨by have := (h.cell hi (k := 0) rfl).1; exact this, (h.cell hi (k := 1) rfl).1, (h.cell hi (k := 2) rfl).1, (h.cell hi (k := 3) rfl).1, (h.cell hi (k := 4) rfl).1, (h.cell hi (k := 5) rfl).1⟩
theorem ERow.lt {w : World} {g : Nat} {ps : List EM} (h : ERow w g ps) (hn : 0 < ps.length) : g < w.heap.size := cell_lt (h.six hn).1
theorem ERow.take {w : World} {g : Nat} {ps : List EM} (h : ERow w g ps) (k : Nat) : ERow w g (ps.take k) := by
  intro j hj
  rw [flatK_ec] at hj ⊢
  have hj' : j < (ps.take k).length * 6 := by simpa [ec_length] using hj
  have hl : (ps.take k).length ≤ ps.length := by simp; omega
  have := h j (by rw [size_flatK]; simp only [List.size_toArray]; omega)
  rw [flatK_ec] at this
  have e1 := ec_get (ps.take k) j hj'
  have e2 := ec_get ps j (by omega)
  have hd : j / 6 < (ps.take k).length := by omega
  have e3 : (ps.take k)[j / 6]! = ps[j / 6]! := by
    rw [getElem!_pos (ps.take k) _ hd, getElem!_pos ps _ (show j / 6 < ps.length by omega), List.getElem_take]
  rw [e3, ← e2] at e1
  have h1 : j < (ec (ps.take k)).length := by rw [ec_length]; exact hj'
  have h2 : j < (ec ps).length := by rw [ec_length]; omega
  rw [List.getElem?_eq_getElem h1, List.getElem?_eq_getElem h2] at e1
  have g1 : (ec (ps.take k)).toArray[j]! = (ec ps).toArray[j]! := by
    rw [getElem!_pos (ec (ps.take k)).toArray j (by simpa using h1), getElem!_pos (ec ps).toArray j (by simpa using h2)]
    simpa using Option.some.inj e1
  rw [g1]
  exact this
theorem ERow.below {w w' : World} {g n : Nat} {ps : List EM} (h : ERow w g ps) (hb : Below n w w') (hg : g < n) : ERow w' g ps := h.keep (hb.block g hg)

/-- What IndexFunc hands back: the first that does not count. -/
def FirstNo (f : PE → Bool) (ps : List EM) (e : Ending) : Prop :=
  (e = .returned (.int .i64 (-1)) ∧ ∀ x ∈ ps, f x.1 = true) ∨ ∃ (i : Nat) (hi : i < ps.length), e = .returned (.int .i64 (i : Int)) ∧ (∀ x ∈ ps.take i, f x.1 = true) ∧ f ps[i].1 = false
set_option maxRecDepth 100000 in
set_option maxHeartbeats 1000000 in
theorem indexE_any (n1 : Nat) (w1 : World) (f : PE → Bool) (cb : Nat) (hd : Counts n1 w1 44 #[.pointer (some ⟨cb, 0, none⟩)] (fun p => !f p)) (hn1 : n1 ≤ w1.heap.size)
    (ps : List EM) (g cap : Nat) (w : World) (hw : Below n1 w1 w) (hr : ERow w g ps) (hg : g < w.heap.size) (hn : ps.length ≤ 1000000) :
    Calls Try.prog 64 #[.slice (some ⟨g, 0, none⟩) ps.length cap, .func (.func 44) #[] #[.pointer (some ⟨cb, 0, none⟩)]] w fun e w' => FirstNo f ps e ∧ Below w.heap.size w w' := by
  have HH := Lib.hid (And.intro hw (And.intro hr (And.intro hd hn1)))
  clear hw hr hd hn1
  go_enter Try.func64, Try.ntmps64
  go_wp2
  go_loopw [5, 8] (fun _ s8 wr => ∃ i : Nat, s8 = .int .i64 (i : Int) ∧ i ≤ ps.length ∧ (∀ x ∈ ps.take i, f x.1 = true) ∧ Below w.heap.size w wr) (fun _ s8 _ => ps.length - natI s8)
  case atStart => exact ⟨0, rfl, Nat.zero_le _, by simp, Below.refl _ _⟩
  case round =>
    obtain ⟨i, rfl, hi, hall, hB⟩ := hrel
    by_cases hlast : i < ps.length
    · have hli : (i : Int) < (ps.length : Int) := by omega
      obtain ⟨c0, c1, c2, c3, c4, c5⟩ := (HH.out.2.1.below hB hg).six hlast
      have hcall := HH.out.2.2.1 wr ps[i] (HH.out.1.trans (hB.mono (Nat.le_trans HH.out.2.2.2 HH.out.1.size)))
      have hst : f ps[i].1 = true → ∀ x ∈ ps.take (i + 1), f x.1 = true := fun h x hx => by
        rw [List.take_succ_eq_append_getElem hlast, List.mem_append] at hx
        rcases hx with hx | hx
        · exact hall x hx
        · simp at hx; rw [hx]; exact h
      have hno : f ps[i].1 = false → FirstNo f ps (.returned (.int .i64 (i : Int))) := fun h => .inr ⟨i, hlast, rfl, hall, h⟩
      have HB := Lib.hid (And.intro hB (And.intro hst hno))
      clear hB hst hno hall
      obtain ⟨x, hx⟩ : ∃ x, x = ps[i] := ⟨_, rfl⟩
      rw [← hx] at c0 c1 c2 c3 c4 c5 hcall HB
      clear hx
      obtain ⟨⟨d, ii, m, mx, age, unt⟩, p, n, c⟩ := x
      rw [lit_ev] at hcall
      dsimp only at c0 c1 c2 c3 c4 c5 hcall HB
      replace hcall : Calls Try.prog 44 #[.agg #[.string ⟨d.toArray⟩, .string ⟨ii.toArray⟩, .int .u8 (m : Int), .slice p n c, .int .i64 age, .int .i64 unt], .pointer (some ⟨cb, 0, none⟩)] wr _ := hcall
      generalize f ⟨d, ii, m, mx, age, unt⟩ = r at hcall HB
      go_wp2_with fail
      refine hcall.mono ?_
      rintro e w2 ⟨rfl, hb2⟩
      cases r
      · go_wp2
        refine bodyPost_ret (v := .int .i64 (i : Int)) (by simp [results, Try.results64, go_sem]) rfl ⟨HB.out.2.2 (by simp), HB.out.1.trans (hb2.mono HB.out.1.size)⟩
      · go_wp2
        go_roundw
        case rel => exact ⟨i + 1, by simp, by omega, HB.out.2.1 (by simp), HB.out.1.trans (hb2.mono HB.out.1.size)⟩
        case measure => simp [natI]; omega
    · have hli : ¬ (i : Int) < (ps.length : Int) := by omega
      obtain rfl : i = ps.length := by omega
      rw [List.take_length] at hall
      have HB := Lib.hid (And.intro hB hall)
      clear hB hall
      go_wp2
      refine bodyPost_ret (v := .int .i64 (-1)) (by simp [results, Try.results64, go_sem]) rfl ⟨.inl ⟨rfl, HB.out.2⟩, HB.out.1⟩

/-- DeleteFunc under way: i are kept of the first j. -/
structure DInv (f : PE → Bool) (ps : List EM) (j i : Nat) (zs : List EM) : Prop where
  len : zs.length = ps.length
  lt : i < j
  fil : zs.take i = (ps.take j).filter fun x => f x.1
  high : zs.drop j = ps.drop j
theorem DInv.start {f : PE → Bool} {ps : List EM} {k : Nat} (hk : k < ps.length) (ha : ∀ x ∈ ps.take k, f x.1 = true) (hn : f ps[k].1 = false) : DInv f ps (k + 1) k ps := by
  refine ⟨rfl, Nat.lt_succ_self _, ?_, rfl⟩
  rw [List.take_succ_eq_append_getElem hk, List.filter_append, List.filter_eq_self.2 ha]
  simp [hn]
theorem DInv.get {f : PE → Bool} {ps zs : List EM} {i j : Nat} (h : DInv f ps j i zs) (hj : j < ps.length) : zs[j]'(by rw [h.len]; exact hj) = ps[j] := by
  have := congrArg (fun l => l[0]?) h.high
  simpa [List.getElem?_drop, h.len, hj] using this
theorem DInv.keep {f : PE → Bool} {ps zs : List EM} {i j : Nat} (h : DInv f ps j i zs) (hj : j < ps.length) (hf : f ps[j].1 = true) : DInv f ps (j + 1) (i + 1) (zs.set i ps[j]) := by
  have hl := h.len
  have hlt := h.lt
  refine ⟨by simp [hl], by omega, ?_, ?_⟩
  · rw [List.take_succ_eq_append_getElem hj, List.filter_append, ← h.fil]
    rw [List.take_succ_eq_append_getElem (by simp; omega), List.getElem_set_self, List.take_set_of_le (Nat.le_refl _)]
    simp [hf]
  · have e := congrArg (List.drop 1) h.high
    rw [List.drop_drop, List.drop_drop] at e
    rw [List.drop_set_of_lt (by omega), e]
theorem DInv.skip {f : PE → Bool} {ps zs : List EM} {i j : Nat} (h : DInv f ps j i zs) (hj : j < ps.length) (hf : f ps[j].1 = false) : DInv f ps (j + 1) i zs := by
  refine ⟨h.len, by have := h.lt; omega, ?_, ?_⟩
  · rw [List.take_succ_eq_append_getElem hj, List.filter_append, ← h.fil]
    simp [hf]
  · have e := congrArg (List.drop 1) h.high
    rwa [List.drop_drop, List.drop_drop] at e
end Go.Proofs.Ytojhledbfaninaa
