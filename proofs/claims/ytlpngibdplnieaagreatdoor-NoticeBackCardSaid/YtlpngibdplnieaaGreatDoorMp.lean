/- Parts of the proof, joined: Nra, Nrc, Nrb, Nrf, Nrp. -/
import Derived.Test.YtlpngibdplnieaaGreatDoorMh
import Derived.WalkLawsBesides
import Derived.Test.YtlpngibdplnieaaGreatDoorMi
import Derived.Deep.CutRange
import Derived.Test.YtlpngibdplnieaaGreatDoorMk
import Derived.Test.YtlpngibdplnieaaGreatDoorMl
/- notice.read: its functions that take a line off a text. -/
namespace Go.Proofs.YtlpngibdplnieaaGreatDoor
open Go Go.RowKit Go.Shelf Go.Sort
attribute [local go_sem] bneI

/-- One line taken off a text: what it tells, and what is left. -/
def lineR (a b s : Bytes) : Option (Bytes × Bytes) :=
  if (Lib.cut s [13, 10]).2.2 = true ∧ Lib.hasPrefix (Lib.cut s [13, 10]).1 a = true ∧ Lib.hasSuffix (Lib.trimPrefix (Lib.cut s [13, 10]).1 a) b = true
  then some (Lib.trimSuffix (Lib.trimPrefix (Lib.cut s [13, 10]).1 a) b, (Lib.cut s [13, 10]).2.1) else none
def barR (a s : Bytes) : Option Bytes := match lineR a [] s with
  | some ([], r) => some r
  | _ => none
def barsR : List Bytes → Bytes → Option Bytes
  | [], s => some s
  | a :: l, s => match barR a s with
    | some r => barsR l r
    | none => none
def moreR (next s : Bytes) : Bool := Lib.hasPrefix s (if next = [] then [13, 10] else next)
theorem trimPrefix_le (s p : Bytes) : (Lib.trimPrefix s p).length ≤ s.length := by
  unfold Lib.trimPrefix
  split
  · rw [List.length_drop]; omega
  · exact Nat.le_refl _
theorem trimSuffix_le (s p : Bytes) : (Lib.trimSuffix s p).length ≤ s.length := by
  unfold Lib.trimSuffix
  split
  · rw [List.length_take]; omega
  · exact Nat.le_refl _
theorem cutL_le (s p : Bytes) : (Lib.cut s p).1.length ≤ s.length := by
  unfold Lib.cut
  split
  · dsimp only; rw [List.length_take]; omega
  · exact Nat.le_refl _
theorem lineR_len {a b s t r : Bytes} (h : lineR a b s = some (t, r)) : t.length ≤ s.length ∧ r.length + 2 ≤ s.length := by
  unfold lineR at h
  split at h
  · rename_i hc
    injection h with h
    injection h with h1 h2
    have hy := cut_yes hc.1
    subst h1 h2
    have h1 := trimPrefix_le (Lib.cut s [13, 10]).1 a
    have h2 := trimSuffix_le (Lib.trimPrefix (Lib.cut s [13, 10]).1 a) b
    omega
  · cases h
theorem barR_len {a s r : Bytes} (h : barR a s = some r) : r.length + 2 ≤ s.length := by
  unfold barR at h
  split at h
  · rename_i r' he
    injection h with h
    subst h
    exact (lineR_len he).2
  · cases h
/-- What leaves a text that is no notice's. -/
def PC : List PanicEntry := [{ v := .iface 181 (.agg #[]), recovered := false }]
theorem mkOdd : ∀ (w : World), (Instr.makeInterface 181 (.agg #[])).run Tryz.prog w = .ok (.iface 181 (.agg #[])) w := fun _ => by kernel_rfl
def LinePost (W : World) (z : Nat) (ad : Option Addr) (o : Option (Bytes × Bytes)) (e : Ending) (w' : World) : Prop := ∃ k, match o with
  | some (t, r) => e = .returned (.tuple #[]) ∧ w' = (match ad with
    | some p => ((W.drewN k).setCell p (.string ⟨t.toArray⟩)).setCell ⟨z, 0, none⟩ (.string ⟨r.toArray⟩)
    | none => (W.drewN k).setCell ⟨z, 0, none⟩ (.string ⟨r.toArray⟩))
  | none => e = .panicked PC ∧ w' = W.drewN k
set_option linter.unusedSimpArgs false in
set_option maxRecDepth 100000 in
set_option maxHeartbeats 8000000 in
theorem sheetR_any (z : Nat) (a b s : Bytes) (ad : Addr) (u0 : Value) (W : World) (hz : W.heap[z]? = some (.cells #[.string ⟨s.toArray⟩] 9 (0, 0))) (hc : W.cell? ad = some u0) (hf : W.frozen? ad = false) (hne : ad.block ≠ z) (hs : s.length ≤ 1000000) (hg : Glob W) :
    Calls Tryz.prog 140 (#[.string ⟨a.toArray⟩, .pointer (some ad), .string ⟨b.toArray⟩] ++ #[.pointer (some ⟨z, 0, none⟩)]) W fun e w' => LinePost W z (some ad) (lineR a b s) e w' := by
  show Calls Tryz.prog 140 #[.string ⟨a.toArray⟩, .pointer (some ad), .string ⟨b.toArray⟩, .pointer (some ⟨z, 0, none⟩)] W _
  obtain ⟨m, hm⟩ := hg
  have hC := Tryz.strings_Cut ⟨s.toArray⟩ ⟨#[13, 10]⟩ m W (by show s.length < _; omega) hm
  have hC' : Calls Tryz.prog 120 #[.string ⟨s.toArray⟩, .string ⟨#[13, 10]⟩] W fun e w' => e = .returned (.tuple #[.string ⟨(Lib.cut s [13, 10]).1.toArray⟩, .string ⟨(Lib.cut s [13, 10]).2.1.toArray⟩, .bool (Lib.cut s [13, 10]).2.2]) ∧ ∃ n, w' = W.drewN n := hC
  have hcl := cutL_le s [13, 10]
  obtain ⟨l, hl⟩ : ∃ l, l = (Lib.cut s [13, 10]).1 := ⟨_, rfl⟩
  obtain ⟨r, hr⟩ : ∃ r, r = (Lib.cut s [13, 10]).2.1 := ⟨_, rfl⟩
  obtain ⟨ended, hen⟩ : ∃ x, x = (Lib.cut s [13, 10]).2.2 := ⟨_, rfl⟩
  have hlr : lineR a b s = if ended = true ∧ Lib.hasPrefix l a = true ∧ Lib.hasSuffix (Lib.trimPrefix l a) b = true then some (Lib.trimSuffix (Lib.trimPrefix l a) b, r) else none := by rw [hl, hr, hen]; rfl
  rw [← hl, ← hr, ← hen] at hC'
  rw [← hl] at hcl
  have hP : ∀ W', Calls Tryz.prog 141 #[.string ⟨l.toArray⟩, .string ⟨a.toArray⟩] W' fun e w' => e = .returned (.tuple #[.string ⟨(Lib.trimPrefix l a).toArray⟩, .bool (Lib.hasPrefix l a)]) ∧ w' = W' := fun W' => Tryz.strings_CutPrefix ⟨l.toArray⟩ ⟨a.toArray⟩ W'
  have hQ : ∀ W', Calls Tryz.prog 142 #[.string ⟨(Lib.trimPrefix l a).toArray⟩, .string ⟨b.toArray⟩] W' fun e w' => e = .returned (.tuple #[.string ⟨(Lib.trimSuffix (Lib.trimPrefix l a) b).toArray⟩, .bool (Lib.hasSuffix (Lib.trimPrefix l a) b)]) ∧ w' = W' := fun W' => Tryz.strings_CutSuffix ⟨(Lib.trimPrefix l a).toArray⟩ ⟨b.toArray⟩ W' (by have := trimPrefix_le l a; show (Lib.trimPrefix l a).length ≤ _; omega)
  generalize Lib.hasSuffix (Lib.trimPrefix l a) b = last at hlr hQ
  generalize Lib.trimSuffix (Lib.trimPrefix l a) b = t at hlr hQ
  generalize Lib.trimPrefix l a = t1 at hP hQ
  generalize Lib.hasPrefix l a = first at hlr hP
  have c0 : W.cell? ⟨z, 0, none⟩ = some (.string ⟨s.toArray⟩) := by simp [World.cell?, hz]
  have HLR := Lib.hid hlr
  have HZ := Lib.hid (And.intro hz (And.intro hc (And.intro hf hne)))
  have hmk := mkOdd
  clear hC hl hr hen hlr hz hc hf hne hm hcl hs
  go_enter Tryz.func140, Tryz.ntmps140
  go_wp2_with fail
  refine hC'.mono ?_
  rintro e w2 ⟨rfl, k, rfl⟩
  clear hC' c0
  have hP2 := hP (W.drewN k)
  have hQ2 := hQ (W.drewN k)
  clear hP hQ
  go_wp2_with fail
  refine hP2.mono ?_
  rintro e w3 ⟨rfl, rfl⟩
  clear hP2
  go_wp2_with fail
  refine hQ2.mono ?_
  rintro e w4 ⟨rfl, rfl⟩
  clear hQ2
  have hbad : lineR a b s = none → LinePost W z (some ad) (lineR a b s) (.panicked PC) (W.drewN k) := fun h => ⟨k, by rw [h]; exact ⟨rfl, rfl⟩⟩
  cases ended with
  | false =>
    have h := hbad (by rw [HLR.out, if_neg (by rintro ⟨h, -⟩; cases h)])
    have HB := Lib.hid h
    clear hbad h
    go_wp2
    exact ⟨rfl, HB.out⟩
  | true =>
    cases first with
    | false =>
      have h := hbad (by rw [HLR.out, if_neg (by rintro ⟨-, h, -⟩; cases h)])
      have HB := Lib.hid h
      clear hbad h
      go_wp2
      exact ⟨rfl, HB.out⟩
    | true =>
      cases last with
      | false =>
        have h := hbad (by rw [HLR.out, if_neg (by rintro ⟨-, -, h⟩; cases h)])
        have HB := Lib.hid h
        clear hbad h
        go_wp2
        exact ⟨rfl, HB.out⟩
      | true =>
        have hyes : lineR a b s = some (t, r) := by rw [HLR.out, if_pos ⟨rfl, rfl, rfl⟩]
        have HY := Lib.hid hyes
        clear hbad hyes
        have c1 : (W.drewN k).cell? ad = some u0 := HZ.out.2.1
        have f1 : (W.drewN k).frozen? ad = false := HZ.out.2.2.1
        have c2 : ((W.drewN k).setCell ad (.string ⟨t.toArray⟩)).cell? ⟨z, 0, none⟩ = some (.string ⟨s.toArray⟩) := by
          rw [World.cell?_setCell_other (h := fun e => HZ.out.2.2.2 (by rw [e]))]
          have h := HZ.out.1
          have e : (W.drewN k).heap = W.heap := rfl
          simp [World.cell?, e, h]
        have f2 : ((W.drewN k).setCell ad (.string ⟨t.toArray⟩)).frozen? ⟨z, 0, none⟩ = false := by
          rw [World.frozen?_setCell]
          have h := HZ.out.1
          have e : (W.drewN k).heap = W.heap := rfl
          simp [World.frozen?, e, h]
        go_wp2
        go_end0
        exact ⟨k, by rw [HY.out]; exact ⟨rfl, rfl⟩⟩
end Go.Proofs.YtlpngibdplnieaaGreatDoor

/- notice.read: plain lines; whether there is more. -/
namespace Go.Proofs.YtlpngibdplnieaaGreatDoor
open Go Go.RowKit Go.Shelf Go.Sort
attribute [local go_sem] bneI

set_option linter.unusedSimpArgs false in
set_option maxRecDepth 100000 in
set_option maxHeartbeats 8000000 in
theorem barR_any (z : Nat) (a s : Bytes) (W : World) (hz : W.heap[z]? = some (.cells #[.string ⟨s.toArray⟩] 9 (0, 0))) (hs : s.length ≤ 1000000) (hg : Glob W) :
    Calls Tryz.prog 140 (#[.string ⟨a.toArray⟩, .pointer none, .string ⟨#[]⟩] ++ #[.pointer (some ⟨z, 0, none⟩)]) W fun e w' => LinePost W z none ((barR a s).map fun r => ([], r)) e w' := by
  show Calls Tryz.prog 140 #[.string ⟨a.toArray⟩, .pointer none, .string ⟨#[]⟩, .pointer (some ⟨z, 0, none⟩)] W _
  obtain ⟨m, hm⟩ := hg
  have hC := Tryz.strings_Cut ⟨s.toArray⟩ ⟨#[13, 10]⟩ m W (by show s.length < _; omega) hm
  have hC' : Calls Tryz.prog 120 #[.string ⟨s.toArray⟩, .string ⟨#[13, 10]⟩] W fun e w' => e = .returned (.tuple #[.string ⟨(Lib.cut s [13, 10]).1.toArray⟩, .string ⟨(Lib.cut s [13, 10]).2.1.toArray⟩, .bool (Lib.cut s [13, 10]).2.2]) ∧ ∃ n, w' = W.drewN n := hC
  have hcl := cutL_le s [13, 10]
  obtain ⟨l, hl⟩ : ∃ l, l = (Lib.cut s [13, 10]).1 := ⟨_, rfl⟩
  obtain ⟨r, hr⟩ : ∃ r, r = (Lib.cut s [13, 10]).2.1 := ⟨_, rfl⟩
  obtain ⟨ended, hen⟩ : ∃ x, x = (Lib.cut s [13, 10]).2.2 := ⟨_, rfl⟩
  have hlr : lineR a [] s = if ended = true ∧ Lib.hasPrefix l a = true ∧ Lib.hasSuffix (Lib.trimPrefix l a) [] = true then some (Lib.trimSuffix (Lib.trimPrefix l a) [], r) else none := by rw [hl, hr, hen]; rfl
  rw [← hl, ← hr, ← hen] at hC'
  rw [← hl] at hcl
  have hP : ∀ W', Calls Tryz.prog 141 #[.string ⟨l.toArray⟩, .string ⟨a.toArray⟩] W' fun e w' => e = .returned (.tuple #[.string ⟨(Lib.trimPrefix l a).toArray⟩, .bool (Lib.hasPrefix l a)]) ∧ w' = W' := fun W' => Tryz.strings_CutPrefix ⟨l.toArray⟩ ⟨a.toArray⟩ W'
  have hQ : ∀ W', Calls Tryz.prog 142 #[.string ⟨(Lib.trimPrefix l a).toArray⟩, .string ⟨#[]⟩] W' fun e w' => e = .returned (.tuple #[.string ⟨(Lib.trimSuffix (Lib.trimPrefix l a) []).toArray⟩, .bool (Lib.hasSuffix (Lib.trimPrefix l a) [])]) ∧ w' = W' := fun W' => Tryz.strings_CutSuffix ⟨(Lib.trimPrefix l a).toArray⟩ ⟨#[]⟩ W' (by have := trimPrefix_le l a; show (Lib.trimPrefix l a).length ≤ _; omega)
  generalize Lib.hasSuffix (Lib.trimPrefix l a) [] = last at hlr hQ
  generalize Lib.trimSuffix (Lib.trimPrefix l a) [] = t at hlr hQ
  generalize Lib.trimPrefix l a = t1 at hP hQ
  generalize Lib.hasPrefix l a = first at hlr hP
  have c0 : W.cell? ⟨z, 0, none⟩ = some (.string ⟨s.toArray⟩) := by simp [World.cell?, hz]
  have HLR := Lib.hid hlr
  have HZ := Lib.hid hz
  have hmk := mkOdd
  clear hC hl hr hen hlr hz hm hcl hs
  go_enter Tryz.func140, Tryz.ntmps140
  go_wp2_with fail
  refine hC'.mono ?_
  rintro e w2 ⟨rfl, k, rfl⟩
  clear hC' c0
  have hP2 := hP (W.drewN k)
  have hQ2 := hQ (W.drewN k)
  clear hP hQ
  go_wp2_with fail
  refine hP2.mono ?_
  rintro e w3 ⟨rfl, rfl⟩
  clear hP2
  go_wp2_with fail
  refine hQ2.mono ?_
  rintro e w4 ⟨rfl, rfl⟩
  clear hQ2
  have hbad : lineR a [] s = none → LinePost W z none ((barR a s).map fun r => ([], r)) (.panicked PC) (W.drewN k) := fun h => ⟨k, by unfold barR; rw [h]; exact ⟨rfl, rfl⟩⟩
  cases ended with
  | false =>
    have h := hbad (by rw [HLR.out, if_neg (by rintro ⟨h, -⟩; cases h)])
    have HB := Lib.hid h
    clear hbad h
    go_wp2
    exact ⟨rfl, HB.out⟩
  | true =>
    cases first with
    | false =>
      have h := hbad (by rw [HLR.out, if_neg (by rintro ⟨-, h, -⟩; cases h)])
      have HB := Lib.hid h
      clear hbad h
      go_wp2
      exact ⟨rfl, HB.out⟩
    | true =>
      cases last with
      | false =>
        have h := hbad (by rw [HLR.out, if_neg (by rintro ⟨-, -, h⟩; cases h)])
        have HB := Lib.hid h
        clear hbad h
        go_wp2
        exact ⟨rfl, HB.out⟩
      | true =>
        have hyes : lineR a [] s = some (t, r) := by rw [HLR.out, if_pos ⟨rfl, rfl, rfl⟩]
        have HY := Lib.hid hyes
        clear hbad hyes
        have c2 : (W.drewN k).cell? ⟨z, 0, none⟩ = some (.string ⟨s.toArray⟩) := by
          have h := HZ.out
          have e : (W.drewN k).heap = W.heap := rfl
          simp [World.cell?, e, h]
        have f2 : (W.drewN k).frozen? ⟨z, 0, none⟩ = false := by
          have h := HZ.out
          have e : (W.drewN k).heap = W.heap := rfl
          simp [World.frozen?, e, h]
        by_cases ht : t = []
        · have hbr : barR a s = some r := by unfold barR; rw [HY.out, ht]
          have HBR := Lib.hid hbr
          subst ht
          clear hbr
          go_wp2
          go_end0
          exact ⟨k, by rw [HBR.out]; exact ⟨rfl, rfl⟩⟩
        · have hbr : barR a s = none := by
            unfold barR
            rw [HY.out]
            cases t with
            | nil => exact absurd rfl ht
            | cons x y => rfl
          have HB : Hid (LinePost W z none ((barR a s).map fun r => ([], r)) (.panicked PC) (W.drewN k)) := Lib.hid ⟨k, by rw [hbr]; exact ⟨rfl, rfl⟩⟩
          have e5 : (t == []) = false := by simpa using ht
          have e6 : t.isEmpty = false := by simpa using ht
          have e7 : decide (t = []) = false := by simpa using ht
          clear hbr ht
          go_wp2
          exact ⟨rfl, HB.out⟩

set_option maxRecDepth 100000 in
set_option maxHeartbeats 4000000 in
theorem moreR_any (z : Nat) (next s : Bytes) (W : World) (hz : W.heap[z]? = some (.cells #[.string ⟨s.toArray⟩] 9 (0, 0))) :
    Calls Tryz.prog 143 (#[.string ⟨next.toArray⟩] ++ #[.pointer (some ⟨z, 0, none⟩)]) W fun e w' => e = .returned (.bool (moreR next s)) ∧ w' = W := by
  show Calls Tryz.prog 143 #[.string ⟨next.toArray⟩, .pointer (some ⟨z, 0, none⟩)] W _
  have c0 : W.cell? ⟨z, 0, none⟩ = some (.string ⟨s.toArray⟩) := by simp [World.cell?, hz]
  have hP1 : Calls Tryz.prog 110 #[.string ⟨s.toArray⟩, .string ⟨next.toArray⟩] W fun e w' => e = .returned (.bool (Lib.hasPrefix s next)) ∧ w' = W := Tryz.strings_HasPrefix ⟨s.toArray⟩ ⟨next.toArray⟩ W
  have hP2 : Calls Tryz.prog 110 #[.string ⟨s.toArray⟩, .string ⟨#[13, 10]⟩] W fun e w' => e = .returned (.bool (Lib.hasPrefix s [13, 10])) ∧ w' = W := Tryz.strings_HasPrefix ⟨s.toArray⟩ ⟨#[13, 10]⟩ W
  clear hz
  by_cases hn : next = []
  · have e1 : moreR next s = Lib.hasPrefix s [13, 10] := by unfold moreR; rw [if_pos hn]
    have HE := Lib.hid e1
    subst hn
    clear hP1 e1
    go_enter Tryz.func143, Tryz.ntmps143
    go_wp2_with fail
    refine hP2.mono ?_
    rintro e w2 ⟨rfl, rfl⟩
    clear hP2
    go_wp2
    refine bodyPost_ret (v := .bool (Lib.hasPrefix s [13, 10])) (by simp [results, Tryz.results143, go_sem]) rfl ⟨by rw [HE.out], rfl⟩
  · have e1 : moreR next s = Lib.hasPrefix s next := by unfold moreR; rw [if_neg hn]
    have HE := Lib.hid e1
    have e5 : (next == []) = false := by simpa using hn
    have e6 : next.isEmpty = false := by simpa using hn
    have e7 : decide (next = []) = false := by simpa using hn
    clear hP2 e1 hn
    go_enter Tryz.func143, Tryz.ntmps143
    go_wp2_with fail
    refine hP1.mono ?_
    rintro e w2 ⟨rfl, rfl⟩
    clear hP1
    go_wp2
    refine bodyPost_ret (v := .bool (Lib.hasPrefix s next)) (by simp [results, Tryz.results143, go_sem]) rfl ⟨by rw [HE.out], rfl⟩
theorem enterSheetR : ∀ args w, (callFunc 140 args).run Tryz.prog w = .ok (.enter 140 args) w := enters_of Tryz.func140 (by kernel_rfl) rfl
theorem enterMoreR : ∀ args w, (callFunc 143 args).run Tryz.prog w = .ok (.enter 143 args) w := enters_of Tryz.func143 (by kernel_rfl) rfl
end Go.Proofs.YtlpngibdplnieaaGreatDoor

/- notice.read: the state between two lines, and its steps. -/
namespace Go.Proofs.YtlpngibdplnieaaGreatDoor
open Go Go.RowKit Go.Shelf Go.Sort
attribute [local go_sem] bneI

/-- What was read. -/
structure RdS where
  n : NotP
  id : Bytes
  at_ : Bytes
  rest : Bytes
structure RdOk (st : RdS) : Prop where
  sh : ShortN st.n
  id : st.id.length ≤ 1000000
  at_ : st.at_.length ≤ 1000000
  rest : st.rest.length ≤ 1000000
  cnt : st.n.failed.length * 2 + st.rest.length ≤ 1000002
def sheetRV (z : Nat) : Value := .func (.func 140) #[] #[.pointer (some ⟨z, 0, none⟩)]
/-- Between two lines. -/
structure RdL (w0 : World) (z : Nat) (fv : Value) (st : RdS) (W : World) : Prop where
  ze : z = w0.heap.size
  below : Below w0.heap.size w0 W
  bs : W.heap[z]? = some (.cells #[.string ⟨st.rest.toArray⟩] 9 (0, 0))
  no : W.heap[z + 1]? = some (.cells (notC st.n fv).toArray 34 (0, 0))
  own : W.ownsRow (z + 6) 55 3 fv st.n.failed.length (st.n.failed.flatMap flE)
  bi : W.heap[z + 2]? = some (.cells #[.string ⟨st.id.toArray⟩] 9 (0, 0))
  ba : W.heap[z + 3]? = some (.cells #[.string ⟨st.at_.toArray⟩] 9 (0, 0))
  b5 : W.heap[z + 4]? = some (.cells #[.bool false] 4 (0, 0))
  b8 : W.heap[z + 5]? = some (.cells #[sheetRV z] 172 (0, 0))
  glob : Glob W
  ok : RdOk st
theorem RdL.keep {w0 : World} {z : Nat} {fv : Value} {st : RdS} {W W' : World} (h : RdL w0 z fv st W) (hb : Below W.heap.size W W') : RdL w0 z fv st W' :=
  ⟨h.ze, h.below.trans (hb.mono h.below.size), (hb.block _ (lt_of_cells h.bs)).trans h.bs, (hb.block _ (lt_of_cells h.no)).trans h.no, h.own.kept (grownBy_of_below hb none) (Classical.em _), (hb.block _ (lt_of_cells h.bi)).trans h.bi, (hb.block _ (lt_of_cells h.ba)).trans h.ba, (hb.block _ (lt_of_cells h.b5)).trans h.b5, (hb.block _ (lt_of_cells h.b8)).trans h.b8, h.glob.keep hb, h.ok⟩
/-- What a line's taking leaves. -/
def RPost (w0 : World) (z : Nat) (fv : Value) (o : Option RdS) (e : Ending) (w' : World) : Prop := (∃ st, o = some st ∧ e = .returned (.tuple #[]) ∧ RdL w0 z fv st w') ∨ (o = none ∧ e = .panicked PC ∧ ∃ st, RdL w0 z fv st w')
theorem below_drewK (w : World) (k : Nat) : Below w.heap.size w (w.drewN k) := ⟨rfl, rfl, rfl, Nat.le_refl _, fun _ _ => rfl⟩
theorem two_other {W : World} {k : Nat} {p q : Addr} {u v : Value} {c : Nat} (h1 : c ≠ p.block) (h2 : c ≠ q.block) : (((W.drewN k).setCell p u).setCell q v).heap[c]? = W.heap[c]? := by
  rw [Below.heap_setCell _ _ _ _ h2, Below.heap_setCell _ _ _ _ h1]; rfl
theorem two_first {W : World} {k b j : Nat} {q : Addr} {u v : Value} {cs : Array Value} {T : TypeId} {f : Nat × Nat} (h : W.heap[b]? = some (.cells cs T f)) (h2 : b ≠ q.block) : (((W.drewN k).setCell ⟨b, j, none⟩ u).setCell q v).heap[b]? = some (.cells (cs.setIfInBounds j u) T f) := by
  rw [Below.heap_setCell _ _ _ _ h2]
  exact heap_setE (W := W.drewN k) h
theorem two_second {W : World} {k z : Nat} {p : Addr} {u v s0 : Value} {T : TypeId} {f : Nat × Nat} (h : W.heap[z]? = some (.cells #[s0] T f)) (h2 : z ≠ p.block) : (((W.drewN k).setCell p u).setCell ⟨z, 0, none⟩ v).heap[z]? = some (.cells #[v] T f) := by
  have h3 : ((W.drewN k).setCell p u).heap[z]? = some (.cells #[s0] T f) := by rw [Below.heap_setCell _ _ _ _ h2]; exact h
  exact heap_setE h3
theorem RdL.glob2 {w0 : World} {z : Nat} {fv : Value} {st : RdS} {W W' : World} (h : RdL w0 z fv st W) (h0 : ∀ c, c < w0.heap.size → W'.heap[c]? = W.heap[c]?) (hg : Glob w0) : Glob W' := by
  obtain ⟨m, hm⟩ := hg
  refine ⟨m, ?_⟩
  have h1 := cell_lt hm
  have e1 := h0 _ h1
  have e2 := h.below.block _ h1
  unfold World.cell? at hm ⊢
  rw [e1, e2]
  exact hm
theorem RdL.to_host {w0 : World} {z : Nat} {fv : Value} {st : RdS} {W : World} (h : RdL w0 z fv st W) (k : Nat) {t r : Bytes} (ht : t.length ≤ 1000000) (hr : r.length + 2 ≤ st.rest.length) (hg : Glob w0) : RdL w0 z fv { st with n := { st.n with host := t }, rest := r } (((W.drewN k).setCell ⟨z + 1, 1, none⟩ (.string ⟨t.toArray⟩)).setCell ⟨z, 0, none⟩ (.string ⟨r.toArray⟩)) := by
  have hrr := h.ok.rest
  have hcn := h.ok.cnt
  have hze := h.ze
  have hB : Below w0.heap.size w0 (((W.drewN k).setCell ⟨z + 1, 1, none⟩ (.string ⟨t.toArray⟩)).setCell ⟨z, 0, none⟩ (.string ⟨r.toArray⟩)) := ((h.below.trans ((below_drewK W k).mono h.below.size)).setCell (p := ⟨z + 1, 1, none⟩) (by show w0.heap.size ≤ z + 1; omega) _).setCell (p := ⟨z, 0, none⟩) (by show w0.heap.size ≤ z; omega) _
  have ho : ((W.drewN k).setCell ⟨z + 1, 1, none⟩ (.string ⟨t.toArray⟩)).ownsRow (z + 6) 55 3 fv st.n.failed.length (st.n.failed.flatMap flE) := own_set1 (W := W.drewN k) h.own h.no (by decide)
  have hb2 : ((W.drewN k).setCell ⟨z + 1, 1, none⟩ (.string ⟨t.toArray⟩)).heap[z]? = some (.cells #[.string ⟨st.rest.toArray⟩] 9 (0, 0)) := by rw [Below.heap_setCell _ _ _ _ (by show z ≠ z + 1; omega)]; exact h.bs
  exact ⟨h.ze, hB, two_second h.bs (by show z ≠ z + 1; omega), (two_first h.no (by show z + 1 ≠ z; omega)).trans (by simp [notC]), own_set1 ho hb2 (by decide), (two_other (by show z + 2 ≠ z + 1; omega) (by show z + 2 ≠ z; omega)).trans h.bi, (two_other (by show z + 3 ≠ z + 1; omega) (by show z + 3 ≠ z; omega)).trans h.ba, (two_other (by show z + 4 ≠ z + 1; omega) (by show z + 4 ≠ z; omega)).trans h.b5, (two_other (by show z + 5 ≠ z + 1; omega) (by show z + 5 ≠ z; omega)).trans h.b8, h.glob2 (fun c hc => two_other (by show c ≠ z + 1; omega) (by show c ≠ z; omega)) hg,
    ⟨⟨Nat.le_trans ht (by unfold maxLen; omega), h.ok.sh.dest, h.ok.sh.envid, h.ok.sh.failed, h.ok.sh.each⟩, h.ok.id, h.ok.at_, by show r.length ≤ _; omega, by show st.n.failed.length * 2 + r.length ≤ _; omega⟩⟩
theorem RdL.sheet_host {w0 : World} {z : Nat} {fv : Value} {st : RdS} {W : World} (h : RdL w0 z fv st W) (a b : Bytes) (hg : Glob w0) :
    Calls Tryz.prog 140 (#[.string ⟨a.toArray⟩, .pointer (some ⟨z + 1, 1, none⟩), .string ⟨b.toArray⟩] ++ #[.pointer (some ⟨z, 0, none⟩)]) W fun e w' => RPost w0 z fv ((lineR a b st.rest).map fun p => { st with n := { st.n with host := p.1 }, rest := p.2 }) e w' := by
  have hb := h.no
  unfold notC at hb
  refine (sheetR_any z a b st.rest ⟨z + 1, 1, none⟩ _ W h.bs (by simp [World.cell?, hb]; rfl) (by simp [World.frozen?, hb]) (by show z + 1 ≠ z; omega) h.ok.rest h.glob).mono ?_
  rintro e w' ⟨k, hp⟩
  cases hl : lineR a b st.rest with
  | none =>
    rw [hl] at hp
    obtain ⟨rfl, rfl⟩ := hp
    exact .inr ⟨rfl, rfl, _, h.keep (below_drewK W k)⟩
  | some p =>
    rw [hl] at hp
    obtain ⟨rfl, rfl⟩ := hp
    have hlen := lineR_len hl
    have hrr := h.ok.rest
    exact .inl ⟨_, rfl, rfl, h.to_host k (by omega) hlen.2 hg⟩
theorem RdL.to_dest {w0 : World} {z : Nat} {fv : Value} {st : RdS} {W : World} (h : RdL w0 z fv st W) (k : Nat) {t r : Bytes} (ht : t.length ≤ 1000000) (hr : r.length + 2 ≤ st.rest.length) (hg : Glob w0) : RdL w0 z fv { st with n := { st.n with dest := t }, rest := r } (((W.drewN k).setCell ⟨z + 1, 2, none⟩ (.string ⟨t.toArray⟩)).setCell ⟨z, 0, none⟩ (.string ⟨r.toArray⟩)) := by
  have hrr := h.ok.rest
  have hcn := h.ok.cnt
  have hze := h.ze
  have hB : Below w0.heap.size w0 (((W.drewN k).setCell ⟨z + 1, 2, none⟩ (.string ⟨t.toArray⟩)).setCell ⟨z, 0, none⟩ (.string ⟨r.toArray⟩)) := ((h.below.trans ((below_drewK W k).mono h.below.size)).setCell (p := ⟨z + 1, 2, none⟩) (by show w0.heap.size ≤ z + 1; omega) _).setCell (p := ⟨z, 0, none⟩) (by show w0.heap.size ≤ z; omega) _
  have ho : ((W.drewN k).setCell ⟨z + 1, 2, none⟩ (.string ⟨t.toArray⟩)).ownsRow (z + 6) 55 3 fv st.n.failed.length (st.n.failed.flatMap flE) := own_set1 (W := W.drewN k) h.own h.no (by decide)
  have hb2 : ((W.drewN k).setCell ⟨z + 1, 2, none⟩ (.string ⟨t.toArray⟩)).heap[z]? = some (.cells #[.string ⟨st.rest.toArray⟩] 9 (0, 0)) := by rw [Below.heap_setCell _ _ _ _ (by show z ≠ z + 1; omega)]; exact h.bs
  exact ⟨h.ze, hB, two_second h.bs (by show z ≠ z + 1; omega), (two_first h.no (by show z + 1 ≠ z; omega)).trans (by simp [notC]), own_set1 ho hb2 (by decide), (two_other (by show z + 2 ≠ z + 1; omega) (by show z + 2 ≠ z; omega)).trans h.bi, (two_other (by show z + 3 ≠ z + 1; omega) (by show z + 3 ≠ z; omega)).trans h.ba, (two_other (by show z + 4 ≠ z + 1; omega) (by show z + 4 ≠ z; omega)).trans h.b5, (two_other (by show z + 5 ≠ z + 1; omega) (by show z + 5 ≠ z; omega)).trans h.b8, h.glob2 (fun c hc => two_other (by show c ≠ z + 1; omega) (by show c ≠ z; omega)) hg,
    ⟨⟨h.ok.sh.host, ht, h.ok.sh.envid, h.ok.sh.failed, h.ok.sh.each⟩, h.ok.id, h.ok.at_, by show r.length ≤ _; omega, by show st.n.failed.length * 2 + r.length ≤ _; omega⟩⟩
theorem RdL.sheet_dest {w0 : World} {z : Nat} {fv : Value} {st : RdS} {W : World} (h : RdL w0 z fv st W) (a b : Bytes) (hg : Glob w0) :
    Calls Tryz.prog 140 (#[.string ⟨a.toArray⟩, .pointer (some ⟨z + 1, 2, none⟩), .string ⟨b.toArray⟩] ++ #[.pointer (some ⟨z, 0, none⟩)]) W fun e w' => RPost w0 z fv ((lineR a b st.rest).map fun p => { st with n := { st.n with dest := p.1 }, rest := p.2 }) e w' := by
  have hb := h.no
  unfold notC at hb
  refine (sheetR_any z a b st.rest ⟨z + 1, 2, none⟩ _ W h.bs (by simp [World.cell?, hb]; rfl) (by simp [World.frozen?, hb]) (by show z + 1 ≠ z; omega) h.ok.rest h.glob).mono ?_
  rintro e w' ⟨k, hp⟩
  cases hl : lineR a b st.rest with
  | none =>
    rw [hl] at hp
    obtain ⟨rfl, rfl⟩ := hp
    exact .inr ⟨rfl, rfl, _, h.keep (below_drewK W k)⟩
  | some p =>
    rw [hl] at hp
    obtain ⟨rfl, rfl⟩ := hp
    have hlen := lineR_len hl
    have hrr := h.ok.rest
    exact .inl ⟨_, rfl, rfl, h.to_dest k (by omega) hlen.2 hg⟩
theorem RdL.to_envid {w0 : World} {z : Nat} {fv : Value} {st : RdS} {W : World} (h : RdL w0 z fv st W) (k : Nat) {t r : Bytes} (ht : t.length ≤ 1000000) (hr : r.length + 2 ≤ st.rest.length) (hg : Glob w0) : RdL w0 z fv { st with n := { st.n with envid := t }, rest := r } (((W.drewN k).setCell ⟨z + 1, 3, none⟩ (.string ⟨t.toArray⟩)).setCell ⟨z, 0, none⟩ (.string ⟨r.toArray⟩)) := by
  have hrr := h.ok.rest
  have hcn := h.ok.cnt
  have hze := h.ze
  have hB : Below w0.heap.size w0 (((W.drewN k).setCell ⟨z + 1, 3, none⟩ (.string ⟨t.toArray⟩)).setCell ⟨z, 0, none⟩ (.string ⟨r.toArray⟩)) := ((h.below.trans ((below_drewK W k).mono h.below.size)).setCell (p := ⟨z + 1, 3, none⟩) (by show w0.heap.size ≤ z + 1; omega) _).setCell (p := ⟨z, 0, none⟩) (by show w0.heap.size ≤ z; omega) _
  have ho : ((W.drewN k).setCell ⟨z + 1, 3, none⟩ (.string ⟨t.toArray⟩)).ownsRow (z + 6) 55 3 fv st.n.failed.length (st.n.failed.flatMap flE) := own_set1 (W := W.drewN k) h.own h.no (by decide)
  have hb2 : ((W.drewN k).setCell ⟨z + 1, 3, none⟩ (.string ⟨t.toArray⟩)).heap[z]? = some (.cells #[.string ⟨st.rest.toArray⟩] 9 (0, 0)) := by rw [Below.heap_setCell _ _ _ _ (by show z ≠ z + 1; omega)]; exact h.bs
  exact ⟨h.ze, hB, two_second h.bs (by show z ≠ z + 1; omega), (two_first h.no (by show z + 1 ≠ z; omega)).trans (by simp [notC]), own_set1 ho hb2 (by decide), (two_other (by show z + 2 ≠ z + 1; omega) (by show z + 2 ≠ z; omega)).trans h.bi, (two_other (by show z + 3 ≠ z + 1; omega) (by show z + 3 ≠ z; omega)).trans h.ba, (two_other (by show z + 4 ≠ z + 1; omega) (by show z + 4 ≠ z; omega)).trans h.b5, (two_other (by show z + 5 ≠ z + 1; omega) (by show z + 5 ≠ z; omega)).trans h.b8, h.glob2 (fun c hc => two_other (by show c ≠ z + 1; omega) (by show c ≠ z; omega)) hg,
    ⟨⟨h.ok.sh.host, h.ok.sh.dest, ht, h.ok.sh.failed, h.ok.sh.each⟩, h.ok.id, h.ok.at_, by show r.length ≤ _; omega, by show st.n.failed.length * 2 + r.length ≤ _; omega⟩⟩
theorem RdL.sheet_envid {w0 : World} {z : Nat} {fv : Value} {st : RdS} {W : World} (h : RdL w0 z fv st W) (a b : Bytes) (hg : Glob w0) :
    Calls Tryz.prog 140 (#[.string ⟨a.toArray⟩, .pointer (some ⟨z + 1, 3, none⟩), .string ⟨b.toArray⟩] ++ #[.pointer (some ⟨z, 0, none⟩)]) W fun e w' => RPost w0 z fv ((lineR a b st.rest).map fun p => { st with n := { st.n with envid := p.1 }, rest := p.2 }) e w' := by
  have hb := h.no
  unfold notC at hb
  refine (sheetR_any z a b st.rest ⟨z + 1, 3, none⟩ _ W h.bs (by simp [World.cell?, hb]; rfl) (by simp [World.frozen?, hb]) (by show z + 1 ≠ z; omega) h.ok.rest h.glob).mono ?_
  rintro e w' ⟨k, hp⟩
  cases hl : lineR a b st.rest with
  | none =>
    rw [hl] at hp
    obtain ⟨rfl, rfl⟩ := hp
    exact .inr ⟨rfl, rfl, _, h.keep (below_drewK W k)⟩
  | some p =>
    rw [hl] at hp
    obtain ⟨rfl, rfl⟩ := hp
    have hlen := lineR_len hl
    have hrr := h.ok.rest
    exact .inl ⟨_, rfl, rfl, h.to_envid k (by omega) hlen.2 hg⟩
theorem RdL.to_id {w0 : World} {z : Nat} {fv : Value} {st : RdS} {W : World} (h : RdL w0 z fv st W) (k : Nat) {t r : Bytes} (ht : t.length ≤ 1000000) (hr : r.length + 2 ≤ st.rest.length) (hg : Glob w0) : RdL w0 z fv { st with id := t, rest := r } (((W.drewN k).setCell ⟨z + 2, 0, none⟩ (.string ⟨t.toArray⟩)).setCell ⟨z, 0, none⟩ (.string ⟨r.toArray⟩)) := by
  have hrr := h.ok.rest
  have hcn := h.ok.cnt
  have hze := h.ze
  have hB : Below w0.heap.size w0 (((W.drewN k).setCell ⟨z + 2, 0, none⟩ (.string ⟨t.toArray⟩)).setCell ⟨z, 0, none⟩ (.string ⟨r.toArray⟩)) := ((h.below.trans ((below_drewK W k).mono h.below.size)).setCell (p := ⟨z + 2, 0, none⟩) (by show w0.heap.size ≤ z + 2; omega) _).setCell (p := ⟨z, 0, none⟩) (by show w0.heap.size ≤ z; omega) _
  have ho : ((W.drewN k).setCell ⟨z + 2, 0, none⟩ (.string ⟨t.toArray⟩)).ownsRow (z + 6) 55 3 fv st.n.failed.length (st.n.failed.flatMap flE) := own_set1 (W := W.drewN k) h.own h.bi (by decide)
  have hb2 : ((W.drewN k).setCell ⟨z + 2, 0, none⟩ (.string ⟨t.toArray⟩)).heap[z]? = some (.cells #[.string ⟨st.rest.toArray⟩] 9 (0, 0)) := by rw [Below.heap_setCell _ _ _ _ (by show z ≠ z + 2; omega)]; exact h.bs
  exact ⟨h.ze, hB, two_second h.bs (by show z ≠ z + 2; omega), (two_other (by show z + 1 ≠ z + 2; omega) (by show z + 1 ≠ z; omega)).trans h.no, own_set1 ho hb2 (by decide), two_first h.bi (by show z + 2 ≠ z; omega), (two_other (by show z + 3 ≠ z + 2; omega) (by show z + 3 ≠ z; omega)).trans h.ba, (two_other (by show z + 4 ≠ z + 2; omega) (by show z + 4 ≠ z; omega)).trans h.b5, (two_other (by show z + 5 ≠ z + 2; omega) (by show z + 5 ≠ z; omega)).trans h.b8, h.glob2 (fun c hc => two_other (by show c ≠ z + 2; omega) (by show c ≠ z; omega)) hg,
    ⟨h.ok.sh, ht, h.ok.at_, by show r.length ≤ _; omega, by show st.n.failed.length * 2 + r.length ≤ _; omega⟩⟩
theorem RdL.sheet_id {w0 : World} {z : Nat} {fv : Value} {st : RdS} {W : World} (h : RdL w0 z fv st W) (a b : Bytes) (hg : Glob w0) :
    Calls Tryz.prog 140 (#[.string ⟨a.toArray⟩, .pointer (some ⟨z + 2, 0, none⟩), .string ⟨b.toArray⟩] ++ #[.pointer (some ⟨z, 0, none⟩)]) W fun e w' => RPost w0 z fv ((lineR a b st.rest).map fun p => { st with id := p.1, rest := p.2 }) e w' := by
  have hb := h.bi
  
  refine (sheetR_any z a b st.rest ⟨z + 2, 0, none⟩ _ W h.bs (by simp [World.cell?, hb]; rfl) (by simp [World.frozen?, hb]) (by show z + 2 ≠ z; omega) h.ok.rest h.glob).mono ?_
  rintro e w' ⟨k, hp⟩
  cases hl : lineR a b st.rest with
  | none =>
    rw [hl] at hp
    obtain ⟨rfl, rfl⟩ := hp
    exact .inr ⟨rfl, rfl, _, h.keep (below_drewK W k)⟩
  | some p =>
    rw [hl] at hp
    obtain ⟨rfl, rfl⟩ := hp
    have hlen := lineR_len hl
    have hrr := h.ok.rest
    exact .inl ⟨_, rfl, rfl, h.to_id k (by omega) hlen.2 hg⟩
theorem RdL.to_at {w0 : World} {z : Nat} {fv : Value} {st : RdS} {W : World} (h : RdL w0 z fv st W) (k : Nat) {t r : Bytes} (ht : t.length ≤ 1000000) (hr : r.length + 2 ≤ st.rest.length) (hg : Glob w0) : RdL w0 z fv { st with at_ := t, rest := r } (((W.drewN k).setCell ⟨z + 3, 0, none⟩ (.string ⟨t.toArray⟩)).setCell ⟨z, 0, none⟩ (.string ⟨r.toArray⟩)) := by
  have hrr := h.ok.rest
  have hcn := h.ok.cnt
  have hze := h.ze
  have hB : Below w0.heap.size w0 (((W.drewN k).setCell ⟨z + 3, 0, none⟩ (.string ⟨t.toArray⟩)).setCell ⟨z, 0, none⟩ (.string ⟨r.toArray⟩)) := ((h.below.trans ((below_drewK W k).mono h.below.size)).setCell (p := ⟨z + 3, 0, none⟩) (by show w0.heap.size ≤ z + 3; omega) _).setCell (p := ⟨z, 0, none⟩) (by show w0.heap.size ≤ z; omega) _
  have ho : ((W.drewN k).setCell ⟨z + 3, 0, none⟩ (.string ⟨t.toArray⟩)).ownsRow (z + 6) 55 3 fv st.n.failed.length (st.n.failed.flatMap flE) := own_set1 (W := W.drewN k) h.own h.ba (by decide)
  have hb2 : ((W.drewN k).setCell ⟨z + 3, 0, none⟩ (.string ⟨t.toArray⟩)).heap[z]? = some (.cells #[.string ⟨st.rest.toArray⟩] 9 (0, 0)) := by rw [Below.heap_setCell _ _ _ _ (by show z ≠ z + 3; omega)]; exact h.bs
  exact ⟨h.ze, hB, two_second h.bs (by show z ≠ z + 3; omega), (two_other (by show z + 1 ≠ z + 3; omega) (by show z + 1 ≠ z; omega)).trans h.no, own_set1 ho hb2 (by decide), (two_other (by show z + 2 ≠ z + 3; omega) (by show z + 2 ≠ z; omega)).trans h.bi, two_first h.ba (by show z + 3 ≠ z; omega), (two_other (by show z + 4 ≠ z + 3; omega) (by show z + 4 ≠ z; omega)).trans h.b5, (two_other (by show z + 5 ≠ z + 3; omega) (by show z + 5 ≠ z; omega)).trans h.b8, h.glob2 (fun c hc => two_other (by show c ≠ z + 3; omega) (by show c ≠ z; omega)) hg,
    ⟨h.ok.sh, h.ok.id, ht, by show r.length ≤ _; omega, by show st.n.failed.length * 2 + r.length ≤ _; omega⟩⟩
theorem RdL.sheet_at {w0 : World} {z : Nat} {fv : Value} {st : RdS} {W : World} (h : RdL w0 z fv st W) (a b : Bytes) (hg : Glob w0) :
    Calls Tryz.prog 140 (#[.string ⟨a.toArray⟩, .pointer (some ⟨z + 3, 0, none⟩), .string ⟨b.toArray⟩] ++ #[.pointer (some ⟨z, 0, none⟩)]) W fun e w' => RPost w0 z fv ((lineR a b st.rest).map fun p => { st with at_ := p.1, rest := p.2 }) e w' := by
  have hb := h.ba
  
  refine (sheetR_any z a b st.rest ⟨z + 3, 0, none⟩ _ W h.bs (by simp [World.cell?, hb]; rfl) (by simp [World.frozen?, hb]) (by show z + 3 ≠ z; omega) h.ok.rest h.glob).mono ?_
  rintro e w' ⟨k, hp⟩
  cases hl : lineR a b st.rest with
  | none =>
    rw [hl] at hp
    obtain ⟨rfl, rfl⟩ := hp
    exact .inr ⟨rfl, rfl, _, h.keep (below_drewK W k)⟩
  | some p =>
    rw [hl] at hp
    obtain ⟨rfl, rfl⟩ := hp
    have hlen := lineR_len hl
    have hrr := h.ok.rest
    exact .inl ⟨_, rfl, rfl, h.to_at k (by omega) hlen.2 hg⟩
end Go.Proofs.YtlpngibdplnieaaGreatDoor

/- notice.read: a failure's fields; one failure more; plain lines. -/
namespace Go.Proofs.YtlpngibdplnieaaGreatDoor
open Go Go.RowKit Go.Shelf Go.Sort
attribute [local go_sem] bneI

theorem flat3 (fs : List FlP) : (fs.flatMap flE).length = fs.length * 3 := by
  induction fs with
  | nil => rfl
  | cons f fs ih => rw [List.flatMap_cons, List.length_append, ih, List.length_cons]; show 3 + _ = _; omega
theorem flat_set (fs : List FlP) (f f' : FlP) (j : Nat) (u : Value) (hj : j < 3) (he : (flE f).set j u = flE f') : ((fs ++ [f]).flatMap flE).set (fs.length * 3 + j) u = (fs ++ [f']).flatMap flE := by
  rw [List.flatMap_append, List.flatMap_append, ← flat3 fs, List.set_append_right _ _ (by omega), Nat.add_sub_cancel_left]
  (congr 1 <;> simpa using he)
theorem len1 (fs : List FlP) (f : FlP) : (fs ++ [f]).length = fs.length + 1 := by simp
theorem own_cell3 {W : World} {base g cap : Nat} {fs : List FlP} {f : FlP} (h : W.ownsRow base 55 3 (.slice (some ⟨g, 0, none⟩) (fs.length + 1) cap) (fs.length + 1) ((fs ++ [f]).flatMap flE)) (j : Nat) (u : Value) (hu : (flE f)[j]? = some u) : W.cell? ⟨g, fs.length * 3 + j, none⟩ = some u := by
  rw [← len1 fs f] at h
  obtain ⟨b, o, e, hx⟩ := (own_rowK (k := 3) (enc := flE) (fun _ => rfl) h).at fs.length (by simp)
  cases e
  have h1 := hx fs.length (by simp) j u (by simpa using hu)
  rw [Nat.zero_add] at h1
  exact h1
theorem RdL.to_fdest {w0 : World} {z g cap : Nat} {st : RdS} {W : World} {fs : List FlP} {f : FlP} (hfs : st.n.failed = fs ++ [f]) (h : RdL w0 z (.slice (some ⟨g, 0, none⟩) (fs.length + 1) cap) st W) (k : Nat) {t r : Bytes} (ht : t.length ≤ 1000000) (hr : r.length + 2 ≤ st.rest.length) (hg : Glob w0) : RdL w0 z (.slice (some ⟨g, 0, none⟩) (fs.length + 1) cap) { st with n := { st.n with failed := fs ++ [{ f with dest := t }] }, rest := r } (((W.drewN k).setCell ⟨g, fs.length * 3 + 0, none⟩ (.string ⟨t.toArray⟩)).setCell ⟨z, 0, none⟩ (.string ⟨r.toArray⟩)) := by
  have hrr := h.ok.rest
  have hcn := h.ok.cnt
  have hze := h.ze
  have ho := h.own
  rw [hfs, len1] at ho hcn
  obtain ⟨hgz, -, cur, hcur, -, -⟩ := own_block ho
  have hB : Below w0.heap.size w0 (((W.drewN k).setCell ⟨g, fs.length * 3 + 0, none⟩ (.string ⟨t.toArray⟩)).setCell ⟨z, 0, none⟩ (.string ⟨r.toArray⟩)) := ((h.below.trans ((below_drewK W k).mono h.below.size)).setCell (p := ⟨g, fs.length * 3 + 0, none⟩) (by show w0.heap.size ≤ g; omega) _).setCell (p := ⟨z, 0, none⟩) (by show w0.heap.size ≤ z; omega) _
  have ho2 := own_seta (W := W.drewN k) (a := fs.length * 3 + 0) ho (.string ⟨t.toArray⟩)
  rw [flat_set fs f { f with dest := t } 0 _ (by decide) rfl] at ho2
  have hb2 : ((W.drewN k).setCell ⟨g, fs.length * 3 + 0, none⟩ (.string ⟨t.toArray⟩)).heap[z]? = some (.cells #[.string ⟨st.rest.toArray⟩] 9 (0, 0)) := by rw [Below.heap_setCell _ _ _ _ (by show z ≠ g; omega)]; exact h.bs
  have ho3 := own_set1 (u := .string ⟨r.toArray⟩) (o := 0) ho2 hb2 (by decide)
  have hl : (fs ++ [f]).length = (fs ++ [{ f with dest := t }]).length := by simp
  have hes : ∀ y ∈ fs ++ [f], ShortF y := by rw [← hfs]; exact h.ok.sh.each
  have hf : ShortF f := hes f (by simp)
  have hfl := h.ok.sh.failed
  rw [hfs] at hfl
  refine ⟨h.ze, hB, two_second h.bs (by show z ≠ g; omega), (two_other (by show z + 1 ≠ g; omega) (by show z + 1 ≠ z; omega)).trans h.no, ?_, (two_other (by show z + 2 ≠ g; omega) (by show z + 2 ≠ z; omega)).trans h.bi, (two_other (by show z + 3 ≠ g; omega) (by show z + 3 ≠ z; omega)).trans h.ba, (two_other (by show z + 4 ≠ g; omega) (by show z + 4 ≠ z; omega)).trans h.b5, (two_other (by show z + 5 ≠ g; omega) (by show z + 5 ≠ z; omega)).trans h.b8, h.glob2 (fun c hc => two_other (by show c ≠ g; omega) (by show c ≠ z; omega)) hg,
    ⟨⟨h.ok.sh.host, h.ok.sh.dest, h.ok.sh.envid, by show (fs ++ [{ f with dest := t }]).length ≤ _; rw [← hl]; exact hfl, fun y hy => ?_⟩, h.ok.id, h.ok.at_, by show r.length ≤ _; omega, by show (fs ++ [{ f with dest := t }]).length * 2 + r.length ≤ _; rw [← hl, len1]; omega⟩⟩
  · show World.ownsRow _ _ _ _ _ (fs ++ [{ f with dest := t }]).length _
    rw [← hl, len1]
    exact ho3
  · rcases List.mem_append.1 hy with hy | hy
    · exact hes y (List.mem_append_left _ hy)
    · have : y = { f with dest := t } := by simpa using hy
      subst this
      exact ⟨ht, hf.status, hf.text⟩
theorem RdL.sheet_fdest {w0 : World} {z g cap : Nat} {st : RdS} {W : World} {fs : List FlP} {f : FlP} (hfs : st.n.failed = fs ++ [f]) (h : RdL w0 z (.slice (some ⟨g, 0, none⟩) (fs.length + 1) cap) st W) (a b : Bytes) (hg : Glob w0) :
    Calls Tryz.prog 140 (#[.string ⟨a.toArray⟩, .pointer (some ⟨g, fs.length * 3 + 0, none⟩), .string ⟨b.toArray⟩] ++ #[.pointer (some ⟨z, 0, none⟩)]) W fun e w' => RPost w0 z (.slice (some ⟨g, 0, none⟩) (fs.length + 1) cap) ((lineR a b st.rest).map fun p => { st with n := { st.n with failed := fs ++ [{ f with dest := p.1 }] }, rest := p.2 }) e w' := by
  have ho := h.own
  rw [hfs, len1] at ho
  obtain ⟨hgz, -, cur, hcur, -, -⟩ := own_block ho
  refine (sheetR_any z a b st.rest ⟨g, fs.length * 3 + 0, none⟩ _ W h.bs (own_cell3 ho 0 _ rfl) (by simp [World.frozen?, hcur]) (by show g ≠ z; omega) h.ok.rest h.glob).mono ?_
  rintro e w' ⟨k, hp⟩
  cases hl : lineR a b st.rest with
  | none =>
    rw [hl] at hp
    obtain ⟨rfl, rfl⟩ := hp
    exact .inr ⟨rfl, rfl, _, h.keep (below_drewK W k)⟩
  | some p =>
    rw [hl] at hp
    obtain ⟨rfl, rfl⟩ := hp
    have hlen := lineR_len hl
    have hrr := h.ok.rest
    exact .inl ⟨_, rfl, rfl, h.to_fdest hfs k (by omega) hlen.2 hg⟩
theorem RdL.to_fstatus {w0 : World} {z g cap : Nat} {st : RdS} {W : World} {fs : List FlP} {f : FlP} (hfs : st.n.failed = fs ++ [f]) (h : RdL w0 z (.slice (some ⟨g, 0, none⟩) (fs.length + 1) cap) st W) (k : Nat) {t r : Bytes} (ht : t.length ≤ 1000000) (hr : r.length + 2 ≤ st.rest.length) (hg : Glob w0) : RdL w0 z (.slice (some ⟨g, 0, none⟩) (fs.length + 1) cap) { st with n := { st.n with failed := fs ++ [{ f with status := t }] }, rest := r } (((W.drewN k).setCell ⟨g, fs.length * 3 + 1, none⟩ (.string ⟨t.toArray⟩)).setCell ⟨z, 0, none⟩ (.string ⟨r.toArray⟩)) := by
  have hrr := h.ok.rest
  have hcn := h.ok.cnt
  have hze := h.ze
  have ho := h.own
  rw [hfs, len1] at ho hcn
  obtain ⟨hgz, -, cur, hcur, -, -⟩ := own_block ho
  have hB : Below w0.heap.size w0 (((W.drewN k).setCell ⟨g, fs.length * 3 + 1, none⟩ (.string ⟨t.toArray⟩)).setCell ⟨z, 0, none⟩ (.string ⟨r.toArray⟩)) := ((h.below.trans ((below_drewK W k).mono h.below.size)).setCell (p := ⟨g, fs.length * 3 + 1, none⟩) (by show w0.heap.size ≤ g; omega) _).setCell (p := ⟨z, 0, none⟩) (by show w0.heap.size ≤ z; omega) _
  have ho2 := own_seta (W := W.drewN k) (a := fs.length * 3 + 1) ho (.string ⟨t.toArray⟩)
  rw [flat_set fs f { f with status := t } 1 _ (by decide) rfl] at ho2
  have hb2 : ((W.drewN k).setCell ⟨g, fs.length * 3 + 1, none⟩ (.string ⟨t.toArray⟩)).heap[z]? = some (.cells #[.string ⟨st.rest.toArray⟩] 9 (0, 0)) := by rw [Below.heap_setCell _ _ _ _ (by show z ≠ g; omega)]; exact h.bs
  have ho3 := own_set1 (u := .string ⟨r.toArray⟩) (o := 0) ho2 hb2 (by decide)
  have hl : (fs ++ [f]).length = (fs ++ [{ f with status := t }]).length := by simp
  have hes : ∀ y ∈ fs ++ [f], ShortF y := by rw [← hfs]; exact h.ok.sh.each
  have hf : ShortF f := hes f (by simp)
  have hfl := h.ok.sh.failed
  rw [hfs] at hfl
  refine ⟨h.ze, hB, two_second h.bs (by show z ≠ g; omega), (two_other (by show z + 1 ≠ g; omega) (by show z + 1 ≠ z; omega)).trans h.no, ?_, (two_other (by show z + 2 ≠ g; omega) (by show z + 2 ≠ z; omega)).trans h.bi, (two_other (by show z + 3 ≠ g; omega) (by show z + 3 ≠ z; omega)).trans h.ba, (two_other (by show z + 4 ≠ g; omega) (by show z + 4 ≠ z; omega)).trans h.b5, (two_other (by show z + 5 ≠ g; omega) (by show z + 5 ≠ z; omega)).trans h.b8, h.glob2 (fun c hc => two_other (by show c ≠ g; omega) (by show c ≠ z; omega)) hg,
    ⟨⟨h.ok.sh.host, h.ok.sh.dest, h.ok.sh.envid, by show (fs ++ [{ f with status := t }]).length ≤ _; rw [← hl]; exact hfl, fun y hy => ?_⟩, h.ok.id, h.ok.at_, by show r.length ≤ _; omega, by show (fs ++ [{ f with status := t }]).length * 2 + r.length ≤ _; rw [← hl, len1]; omega⟩⟩
  · show World.ownsRow _ _ _ _ _ (fs ++ [{ f with status := t }]).length _
    rw [← hl, len1]
    exact ho3
  · rcases List.mem_append.1 hy with hy | hy
    · exact hes y (List.mem_append_left _ hy)
    · have : y = { f with status := t } := by simpa using hy
      subst this
      exact ⟨hf.dest, ht, hf.text⟩
theorem RdL.sheet_fstatus {w0 : World} {z g cap : Nat} {st : RdS} {W : World} {fs : List FlP} {f : FlP} (hfs : st.n.failed = fs ++ [f]) (h : RdL w0 z (.slice (some ⟨g, 0, none⟩) (fs.length + 1) cap) st W) (a b : Bytes) (hg : Glob w0) :
    Calls Tryz.prog 140 (#[.string ⟨a.toArray⟩, .pointer (some ⟨g, fs.length * 3 + 1, none⟩), .string ⟨b.toArray⟩] ++ #[.pointer (some ⟨z, 0, none⟩)]) W fun e w' => RPost w0 z (.slice (some ⟨g, 0, none⟩) (fs.length + 1) cap) ((lineR a b st.rest).map fun p => { st with n := { st.n with failed := fs ++ [{ f with status := p.1 }] }, rest := p.2 }) e w' := by
  have ho := h.own
  rw [hfs, len1] at ho
  obtain ⟨hgz, -, cur, hcur, -, -⟩ := own_block ho
  refine (sheetR_any z a b st.rest ⟨g, fs.length * 3 + 1, none⟩ _ W h.bs (own_cell3 ho 1 _ rfl) (by simp [World.frozen?, hcur]) (by show g ≠ z; omega) h.ok.rest h.glob).mono ?_
  rintro e w' ⟨k, hp⟩
  cases hl : lineR a b st.rest with
  | none =>
    rw [hl] at hp
    obtain ⟨rfl, rfl⟩ := hp
    exact .inr ⟨rfl, rfl, _, h.keep (below_drewK W k)⟩
  | some p =>
    rw [hl] at hp
    obtain ⟨rfl, rfl⟩ := hp
    have hlen := lineR_len hl
    have hrr := h.ok.rest
    exact .inl ⟨_, rfl, rfl, h.to_fstatus hfs k (by omega) hlen.2 hg⟩
theorem RdL.to_ftext {w0 : World} {z g cap : Nat} {st : RdS} {W : World} {fs : List FlP} {f : FlP} (hfs : st.n.failed = fs ++ [f]) (h : RdL w0 z (.slice (some ⟨g, 0, none⟩) (fs.length + 1) cap) st W) (k : Nat) {t r : Bytes} (ht : t.length ≤ 1000000) (hr : r.length + 2 ≤ st.rest.length) (hg : Glob w0) : RdL w0 z (.slice (some ⟨g, 0, none⟩) (fs.length + 1) cap) { st with n := { st.n with failed := fs ++ [{ f with text := t }] }, rest := r } (((W.drewN k).setCell ⟨g, fs.length * 3 + 2, none⟩ (.string ⟨t.toArray⟩)).setCell ⟨z, 0, none⟩ (.string ⟨r.toArray⟩)) := by
  have hrr := h.ok.rest
  have hcn := h.ok.cnt
  have hze := h.ze
  have ho := h.own
  rw [hfs, len1] at ho hcn
  obtain ⟨hgz, -, cur, hcur, -, -⟩ := own_block ho
  have hB : Below w0.heap.size w0 (((W.drewN k).setCell ⟨g, fs.length * 3 + 2, none⟩ (.string ⟨t.toArray⟩)).setCell ⟨z, 0, none⟩ (.string ⟨r.toArray⟩)) := ((h.below.trans ((below_drewK W k).mono h.below.size)).setCell (p := ⟨g, fs.length * 3 + 2, none⟩) (by show w0.heap.size ≤ g; omega) _).setCell (p := ⟨z, 0, none⟩) (by show w0.heap.size ≤ z; omega) _
  have ho2 := own_seta (W := W.drewN k) (a := fs.length * 3 + 2) ho (.string ⟨t.toArray⟩)
  rw [flat_set fs f { f with text := t } 2 _ (by decide) rfl] at ho2
  have hb2 : ((W.drewN k).setCell ⟨g, fs.length * 3 + 2, none⟩ (.string ⟨t.toArray⟩)).heap[z]? = some (.cells #[.string ⟨st.rest.toArray⟩] 9 (0, 0)) := by rw [Below.heap_setCell _ _ _ _ (by show z ≠ g; omega)]; exact h.bs
  have ho3 := own_set1 (u := .string ⟨r.toArray⟩) (o := 0) ho2 hb2 (by decide)
  have hl : (fs ++ [f]).length = (fs ++ [{ f with text := t }]).length := by simp
  have hes : ∀ y ∈ fs ++ [f], ShortF y := by rw [← hfs]; exact h.ok.sh.each
  have hf : ShortF f := hes f (by simp)
  have hfl := h.ok.sh.failed
  rw [hfs] at hfl
  refine ⟨h.ze, hB, two_second h.bs (by show z ≠ g; omega), (two_other (by show z + 1 ≠ g; omega) (by show z + 1 ≠ z; omega)).trans h.no, ?_, (two_other (by show z + 2 ≠ g; omega) (by show z + 2 ≠ z; omega)).trans h.bi, (two_other (by show z + 3 ≠ g; omega) (by show z + 3 ≠ z; omega)).trans h.ba, (two_other (by show z + 4 ≠ g; omega) (by show z + 4 ≠ z; omega)).trans h.b5, (two_other (by show z + 5 ≠ g; omega) (by show z + 5 ≠ z; omega)).trans h.b8, h.glob2 (fun c hc => two_other (by show c ≠ g; omega) (by show c ≠ z; omega)) hg,
    ⟨⟨h.ok.sh.host, h.ok.sh.dest, h.ok.sh.envid, by show (fs ++ [{ f with text := t }]).length ≤ _; rw [← hl]; exact hfl, fun y hy => ?_⟩, h.ok.id, h.ok.at_, by show r.length ≤ _; omega, by show (fs ++ [{ f with text := t }]).length * 2 + r.length ≤ _; rw [← hl, len1]; omega⟩⟩
  · show World.ownsRow _ _ _ _ _ (fs ++ [{ f with text := t }]).length _
    rw [← hl, len1]
    exact ho3
  · rcases List.mem_append.1 hy with hy | hy
    · exact hes y (List.mem_append_left _ hy)
    · have : y = { f with text := t } := by simpa using hy
      subst this
      exact ⟨hf.dest, hf.status, ht⟩
theorem RdL.sheet_ftext {w0 : World} {z g cap : Nat} {st : RdS} {W : World} {fs : List FlP} {f : FlP} (hfs : st.n.failed = fs ++ [f]) (h : RdL w0 z (.slice (some ⟨g, 0, none⟩) (fs.length + 1) cap) st W) (a b : Bytes) (hg : Glob w0) :
    Calls Tryz.prog 140 (#[.string ⟨a.toArray⟩, .pointer (some ⟨g, fs.length * 3 + 2, none⟩), .string ⟨b.toArray⟩] ++ #[.pointer (some ⟨z, 0, none⟩)]) W fun e w' => RPost w0 z (.slice (some ⟨g, 0, none⟩) (fs.length + 1) cap) ((lineR a b st.rest).map fun p => { st with n := { st.n with failed := fs ++ [{ f with text := p.1 }] }, rest := p.2 }) e w' := by
  have ho := h.own
  rw [hfs, len1] at ho
  obtain ⟨hgz, -, cur, hcur, -, -⟩ := own_block ho
  refine (sheetR_any z a b st.rest ⟨g, fs.length * 3 + 2, none⟩ _ W h.bs (own_cell3 ho 2 _ rfl) (by simp [World.frozen?, hcur]) (by show g ≠ z; omega) h.ok.rest h.glob).mono ?_
  rintro e w' ⟨k, hp⟩
  cases hl : lineR a b st.rest with
  | none =>
    rw [hl] at hp
    obtain ⟨rfl, rfl⟩ := hp
    exact .inr ⟨rfl, rfl, _, h.keep (below_drewK W k)⟩
  | some p =>
    rw [hl] at hp
    obtain ⟨rfl, rfl⟩ := hp
    have hlen := lineR_len hl
    have hrr := h.ok.rest
    exact .inl ⟨_, rfl, rfl, h.to_ftext hfs k (by omega) hlen.2 hg⟩
def emptyF : FlP := ⟨[], [], []⟩
/-- One failure more. -/
theorem RdL.grow {w0 : World} {z : Nat} {fv v' : Value} {st : RdS} {W w2 : World} {o : Obj} (h : RdL w0 z fv st W) (hc : st.n.failed.length * 2 + st.rest.length ≤ 1000000)
    (ho : w2.ownsRow (z + 6) 55 3 v' (st.n.failed.length + 1) (st.n.failed.flatMap flE ++ flE emptyF)) (hg : (W.alloc o).grownBy w2 fv.ownBlock) (hgl : Glob w0) :
    RdL w0 z v' { st with n := { st.n with failed := st.n.failed ++ [emptyF] } } (w2.setCell ⟨z + 1, 5, none⟩ v') := by
  have hze := h.ze
  have hal : Below W.heap.size W (W.alloc o) := (Below.refl _ _).alloc (Nat.le_refl _) _
  have hfo : ∀ k, fv.ownBlock = some k → z + 6 ≤ k := fun k hk => by
    rcases h.own.2 with ⟨rfl, _⟩ | ⟨g, cap, cur, rfl, hgz, _⟩
    · cases hk
    · have : g = k := by simpa [Value.ownBlock] using hk
      omega
  have hsz : z + 6 ≤ W.heap.size := lt_of_cells h.b8
  have hB2 : Below (z + 6) W w2 := Below.grown (hal.mono hsz) hg (Nat.le_trans hsz hal.size) hfo
  have hk : ∀ c, c < z + 6 → w2.heap[c]? = W.heap[c]? := fun c hc => hB2.block c hc
  have hset : ∀ c, c < z + 6 → c ≠ z + 1 → (w2.setCell ⟨z + 1, 5, none⟩ v').heap[c]? = W.heap[c]? := fun c hc hne => by rw [Below.heap_setCell _ _ _ _ (by show c ≠ z + 1; exact hne)]; exact hk c hc
  have hno : w2.heap[z + 1]? = some (.cells (notC st.n fv).toArray 34 (0, 0)) := (hk _ (by omega)).trans h.no
  have hlen : (st.n.failed ++ [emptyF]).length = st.n.failed.length + 1 := by simp
  refine ⟨h.ze, (h.below.trans (hB2.mono (by omega))).setCell (p := ⟨z + 1, 5, none⟩) (by show w0.heap.size ≤ z + 1; omega) _, (hset _ (by omega) (by omega)).trans h.bs, (heap_setE hno).trans (by simp [notC]), ?_, (hset _ (by omega) (by omega)).trans h.bi, (hset _ (by omega) (by omega)).trans h.ba, (hset _ (by omega) (by omega)).trans h.b5, (hset _ (by omega) (by omega)).trans h.b8, h.glob2 (fun c hc => hset c (by omega) (by omega)) hgl,
    ⟨⟨h.ok.sh.host, h.ok.sh.dest, h.ok.sh.envid, by show (st.n.failed ++ [emptyF]).length ≤ _; rw [hlen]; omega, fun y hy => ?_⟩, h.ok.id, h.ok.at_, h.ok.rest, by show (st.n.failed ++ [emptyF]).length * 2 + st.rest.length ≤ _; rw [hlen]; omega⟩⟩
  · show World.ownsRow _ _ _ _ _ (st.n.failed ++ [emptyF]).length _
    rw [hlen]
    have e : (st.n.failed ++ [emptyF]).flatMap flE = st.n.failed.flatMap flE ++ flE emptyF := by rw [List.flatMap_append]; simp
    show (w2.setCell ⟨z + 1, 5, none⟩ v').ownsRow (z + 6) 55 3 v' (st.n.failed.length + 1) ((st.n.failed ++ [emptyF]).flatMap flE)
    rw [e]
    exact own_set1 ho hno (by decide)
  · rcases List.mem_append.1 hy with hy | hy
    · exact h.ok.sh.each y hy
    · have : y = emptyF := by simpa using hy
      subst this
      exact ⟨Nat.zero_le _, Nat.zero_le _, Nat.zero_le _⟩
/-- The rest alone. -/
theorem RdL.to_rest {w0 : World} {z : Nat} {fv : Value} {st : RdS} {W : World} (h : RdL w0 z fv st W) (k : Nat) {r : Bytes} (hr : r.length + 2 ≤ st.rest.length) (hg : Glob w0) : RdL w0 z fv { st with rest := r } ((W.drewN k).setCell ⟨z, 0, none⟩ (.string ⟨r.toArray⟩)) := by
  have hrr := h.ok.rest
  have hcn := h.ok.cnt
  have hze := h.ze
  have hd := h.keep (below_drewK W k)
  have hset : ∀ c, c ≠ z → ((W.drewN k).setCell ⟨z, 0, none⟩ (.string ⟨r.toArray⟩)).heap[c]? = W.heap[c]? := fun c hne => by rw [Below.heap_setCell _ _ _ _ (by show c ≠ z; exact hne)]; rfl
  exact ⟨h.ze, hd.below.setCell (p := ⟨z, 0, none⟩) (by show w0.heap.size ≤ z; omega) _, heap_setE hd.bs, (hset _ (by omega)).trans h.no, own_set1 hd.own hd.bs (by decide), (hset _ (by omega)).trans h.bi, (hset _ (by omega)).trans h.ba, (hset _ (by omega)).trans h.b5, (hset _ (by omega)).trans h.b8, h.glob2 (fun c hc => hset c (by omega)) hg, ⟨h.ok.sh, h.ok.id, h.ok.at_, by show r.length ≤ _; omega, by show st.n.failed.length * 2 + r.length ≤ _; omega⟩⟩
set_option maxRecDepth 100000 in
set_option maxHeartbeats 4000000 in
theorem RdL.plainR {w0 : World} {z : Nat} {fv : Value} {st : RdS} {w : World} (h : RdL w0 z fv st w) (hg : Glob w0) (g : Nat) (ls : List Bytes) (cap : Nat) (hr : w.heap[g]? = some (.cells (ls.map fun l => Value.string ⟨l.toArray⟩).toArray 9 (0, 0))) (hgz : z + 6 ≤ g) (hn : ls.length ≤ 1000) :
    Calls Tryz.prog 126 (#[.slice (some ⟨g, 0, none⟩) ls.length cap] ++ #[.pointer (some ⟨z + 5, 0, none⟩)]) w fun e w' => RPost w0 z fv ((barsR ls st.rest).map fun r => { st with rest := r }) e w' := by
  show Calls Tryz.prog 126 #[.slice (some ⟨g, 0, none⟩) ls.length cap, .pointer (some ⟨z + 5, 0, none⟩)] w _
  have HX := Lib.hid (And.intro h (And.intro hg (And.intro hr hgz)))
  clear h hg hr hgz
  go_enter Tryz.func126, Tryz.ntmps126
  go_wp2_with fail
  go_loopw [7] (fun s7 wr => ∃ (i : Nat) (r : Bytes), s7 = .int .i64 (i : Int) ∧ i ≤ ls.length ∧ barsR ls st.rest = barsR (ls.drop i) r ∧ RdL w0 z fv { st with rest := r } wr ∧ wr.heap[g]? = some (.cells (ls.map fun l => Value.string ⟨l.toArray⟩).toArray 9 (0, 0))) (fun s7 _ => ls.length - natI s7)
  case atStart => exact ⟨0, st.rest, rfl, Nat.zero_le _, rfl, HX.out.1, HX.out.2.2.1⟩
  case round =>
    obtain ⟨i, r, rfl, hi, hbs, hR, hrg⟩ := hrel
    by_cases hlast : i < ls.length
    · have hli : (i : Int) < (ls.length : Int) := by omega
      have hw1 : wrap64 ((i : Int) + 1) = (i : Int) + 1 := by unfold wrap64; omega
      have b8 := hR.b8
      have y8 : wr.cell? ⟨z + 5, 0, none⟩ = some (sheetRV z) := by simp [World.cell?, b8]
      have y0 : wr.cell? ⟨g, i, none⟩ = some (.string ⟨(ls[i]).toArray⟩) := by
        simp only [World.cell?, hrg]
        rw [← Array.getElem?_toList]
        simp [hlast]
      have hC := barR_any z ls[i] r wr hR.bs hR.ok.rest hR.glob
      have hdr : barsR ls st.rest = match barR ls[i] r with
        | some r' => barsR (ls.drop (i + 1)) r'
        | none => none := by rw [hbs, List.drop_eq_getElem_cons hlast]; rfl
      have HH := Lib.hid (And.intro hdr (And.intro hR (And.intro hrg hlast)))
      clear b8 hbs hR hrg hdr
      obtain ⟨s, hse⟩ : ∃ s, s = ls[i] := ⟨_, rfl⟩
      rw [← hse] at y0 hC HH
      clear hse
      unfold sheetRV at y8
      have hrun : Sem.run Tryz.prog (callFunc 140 (#[.string ⟨s.toArray⟩, .pointer none, .string ⟨#[]⟩] ++ #[.pointer (some ⟨z, 0, none⟩)])) wr = .ok (.enter 140 (#[.string ⟨s.toArray⟩, .pointer none, .string ⟨#[]⟩] ++ #[.pointer (some ⟨z, 0, none⟩)])) wr := enterSheetR _ _
      go_wp2_with fail
      refine hC.mono ?_
      rintro e w2 ⟨k, hp⟩
      cases hb : barR s r with
      | none =>
        rw [hb] at hp
        obtain ⟨rfl, rfl⟩ := hp
        have hno : barsR ls st.rest = none := by rw [HH.out.1, hb]
        exact ⟨rfl, .inr ⟨by rw [hno]; rfl, rfl, _, HH.out.2.1.keep (below_drewK wr k)⟩⟩
      | some r' =>
        rw [hb] at hp
        obtain ⟨rfl, rfl⟩ := hp
        have hgz := HX.out.2.2.2
        have h2 := HH.out.2.1.to_rest k (barR_len hb) HX.out.2.1
        have hyes : barsR ls st.rest = barsR (ls.drop (i + 1)) r' := by rw [HH.out.1, hb]
        have hrg2 : ((wr.drewN k).setCell ⟨z, 0, none⟩ (.string ⟨r'.toArray⟩)).heap[g]? = some (.cells (ls.map fun l => Value.string ⟨l.toArray⟩).toArray 9 (0, 0)) := by
          rw [Below.heap_setCell _ _ _ _ (by show g ≠ z; omega)]
          exact HH.out.2.2.1
        have HZ := Lib.hid (And.intro hyes (And.intro h2 hrg2))
        clear hC hrun y8 y0 h2 hyes hrg2 hb hgz
        go_wp2
        go_roundw
        case rel => exact ⟨i + 1, r', by simp, by omega, HZ.out.1, HZ.out.2.1, HZ.out.2.2⟩
        case measure => simp [natI]; omega
    · have hli : ¬ (i : Int) < (ls.length : Int) := by omega
      rw [List.drop_eq_nil_of_le (by omega)] at hbs
      have HZ := Lib.hid (And.intro hbs hR)
      clear hbs hR hrg
      go_wp2
      go_end0
      exact .inl ⟨_, by rw [HZ.out.1]; rfl, rfl, HZ.out.2⟩
end Go.Proofs.YtlpngibdplnieaaGreatDoor

/- notice.read: what reading a text comes to, in plain Lean. -/
namespace Go.Proofs.YtlpngibdplnieaaGreatDoor
open Go

inductive PcR where
  | sh (a b : Bytes) (f : Nat)
  | ba (ls : List Bytes)
def setLast (fs : List FlP) (g : FlP → FlP) : List FlP := fs.dropLast ++ match fs.getLast? with
  | some f => [g f]
  | none => []
theorem setLast_snoc (fs : List FlP) (f : FlP) (g : FlP → FlP) : setLast (fs ++ [f]) g = fs ++ [g f] := by
  unfold setLast
  simp
def setR (st : RdS) (f : Nat) (t r : Bytes) : RdS := match f with
  | 0 => { st with n := { st.n with host := t }, rest := r }
  | 1 => { st with n := { st.n with dest := t }, rest := r }
  | 2 => { st with n := { st.n with envid := t }, rest := r }
  | 3 => { st with id := t, rest := r }
  | 4 => { st with at_ := t, rest := r }
  | 5 => { st with n := { st.n with failed := setLast st.n.failed fun f => { f with dest := t } }, rest := r }
  | 6 => { st with n := { st.n with failed := setLast st.n.failed fun f => { f with status := t } }, rest := r }
  | _ => { st with n := { st.n with failed := setLast st.n.failed fun f => { f with text := t } }, rest := r }
def runP : PcR → RdS → Option RdS
  | .sh a b f, st => (lineR a b st.rest).map fun p => setR st f p.1 p.2
  | .ba ls, st => (barsR ls st.rest).map fun r => { st with rest := r }
def runL : List PcR → RdS → Option RdS
  | [], st => some st
  | p :: l, st => match runP p st with
    | some st => runL l st
    | none => none
def headP : List PcR := [.sh [70, 114, 111, 109, 58, 32, 60, 112, 111, 115, 116, 109, 97, 115, 116, 101, 114, 64] [62] 0, .sh [84, 111, 58, 32, 60] [62] 1, .ba [[83, 117, 98, 106, 101, 99, 116, 58, 32, 85, 110, 100, 101, 108, 105, 118, 101, 114, 101, 100, 32, 109, 97, 105, 108], [65, 117, 116, 111, 45, 83, 117, 98, 109, 105, 116, 116, 101, 100, 58, 32, 97, 117, 116, 111, 45, 114, 101, 112, 108, 105, 101, 100], [77, 73, 77, 69, 45, 86, 101, 114, 115, 105, 111, 110, 58, 32, 49, 46, 48]], .sh (67 :: 111 :: 110 :: 116 :: 101 :: 110 :: 116 :: 45 :: 84 :: 121 :: 112 :: 101 :: 58 :: 32 :: 109 :: 117 :: 108 :: 116 :: 105 :: 112 :: 97 :: 114 :: 116 :: 47 :: 114 :: 101 :: 112 :: 111 :: 114 :: 116 :: 59 :: 32 :: 114 :: 101 :: 112 :: 111 :: 114 :: 116 :: 45 :: 116 :: 121 :: 112 :: 101 :: 61 :: 100 :: 101 :: 108 :: 105 :: 118 :: 101 :: 114 :: 121 :: 45 :: 115 :: 116 :: 97 :: 116 :: 117 :: 115 :: 59 :: 32 :: 98 :: 111 :: 117 :: 110 :: 100 :: 97 :: 114 :: 121 :: 61 :: 34 :: 110 :: 45 :: []) [34] 3, .ba [[]], .sh [45, 45, 110, 45] [] 3, .ba [[67, 111, 110, 116, 101, 110, 116, 45, 84, 121, 112, 101, 58, 32, 116, 101, 120, 116, 47, 112, 108, 97, 105, 110], [], (83 :: 111 :: 109 :: 101 :: 32 :: 114 :: 101 :: 99 :: 105 :: 112 :: 105 :: 101 :: 110 :: 116 :: 115 :: 32 :: 104 :: 97 :: 118 :: 101 :: 32 :: 110 :: 111 :: 116 :: 32 :: 103 :: 111 :: 116 :: 32 :: 116 :: 104 :: 105 :: 115 :: 32 :: 109 :: 97 :: 105 :: 108 :: 59 :: 32 :: 119 :: 104 :: 105 :: 99 :: 104 :: 44 :: 32 :: 97 :: 110 :: 100 :: 32 :: 119 :: 104 :: 121 :: 44 :: 32 :: 115 :: 116 :: 97 :: 110 :: 100 :: 115 :: 32 :: 98 :: 101 :: 108 :: 111 :: 119 :: 46 :: [])], .sh [45, 45, 110, 45] [] 3, .ba [[67, 111, 110, 116, 101, 110, 116, 45, 84, 121, 112, 101, 58, 32, 109, 101, 115, 115, 97, 103, 101, 47, 100, 101, 108, 105, 118, 101, 114, 121, 45, 115, 116, 97, 116, 117, 115], []], .sh [82, 101, 112, 111, 114, 116, 105, 110, 103, 45, 77, 84, 65, 58, 32, 100, 110, 115, 59, 32] [] 0]
def failP : List PcR := [.ba [[]], .sh [70, 105, 110, 97, 108, 45, 82, 101, 99, 105, 112, 105, 101, 110, 116, 58, 32, 114, 102, 99, 56, 50, 50, 59, 32] [] 5, .ba [[65, 99, 116, 105, 111, 110, 58, 32, 102, 97, 105, 108, 101, 100]], .sh [83, 116, 97, 116, 117, 115, 58, 32] [] 6, .sh [68, 105, 97, 103, 110, 111, 115, 116, 105, 99, 45, 67, 111, 100, 101, 58, 32, 115, 109, 116, 112, 59, 32] [] 7]
def moreF (st : RdS) : RdS := { st with n := { st.n with failed := st.n.failed ++ [emptyF] } }
def loopR : Nat → RdS → Option RdS
  | 0, st => some st
  | k + 1, st => if moreR [] st.rest = true then match runL failP (moreF st) with
    | some st => loopR k st
    | none => none else some st
/-- What is left of the lines, from the last one back. -/
def kZ (st : RdS) : Option RdS := runP (.sh [45, 45, 110, 45] [45, 45] 3) st
def kL (k : Nat) (st : RdS) : Option RdS := match loopR k st with
  | some st => kZ st
  | none => none
def kA (st : RdS) : Option RdS := match runP (.sh [65, 114, 114, 105, 118, 97, 108, 45, 84, 105, 109, 101, 58, 32] [] 4) st with
  | some st => kL st.rest.length st
  | none => none
def kE (st : RdS) : Option RdS := if moreR [79, 114, 105, 103, 105, 110, 97, 108, 45, 69, 110, 118, 101, 108, 111, 112, 101, 45, 73, 100, 58, 32] st.rest = true then match runP (.sh [79, 114, 105, 103, 105, 110, 97, 108, 45, 69, 110, 118, 101, 108, 111, 112, 101, 45, 73, 100, 58, 32] [] 2) st with
    | some st => kA st
    | none => none else kA st
def kH (l : List PcR) (st : RdS) : Option RdS := match runL l st with
  | some st => kE st
  | none => none
def kF (l : List PcR) (k : Nat) (st : RdS) : Option RdS := match runL l st with
  | some st => kL k st
  | none => none
def startR (s : Bytes) : RdS := ⟨noNot, [], [], s⟩
def linesR (s : Bytes) : Option RdS := kH headP (startR s)
theorem kH_some {p : PcR} {l : List PcR} {st st' : RdS} (h : runP p st = some st') : kH (p :: l) st = kH l st' := by
  unfold kH
  rw [show runL (p :: l) st = match runP p st with | some st => runL l st | none => none from rfl, h]
theorem kH_none {p : PcR} {l : List PcR} {st : RdS} (h : runP p st = none) : kH (p :: l) st = none := by
  unfold kH
  rw [show runL (p :: l) st = match runP p st with | some st => runL l st | none => none from rfl, h]
theorem kF_some {p : PcR} {l : List PcR} {k : Nat} {st st' : RdS} (h : runP p st = some st') : kF (p :: l) k st = kF l k st' := by
  unfold kF
  rw [show runL (p :: l) st = match runP p st with | some st => runL l st | none => none from rfl, h]
theorem kF_none {p : PcR} {l : List PcR} {k : Nat} {st : RdS} (h : runP p st = none) : kF (p :: l) k st = none := by
  unfold kF
  rw [show runL (p :: l) st = match runP p st with | some st => runL l st | none => none from rfl, h]
theorem kH_nil (st : RdS) : kH [] st = kE st := rfl
theorem kF_nil (k : Nat) (st : RdS) : kF [] k st = kL k st := rfl
theorem kE_yes {st st' : RdS} (h : moreR [79, 114, 105, 103, 105, 110, 97, 108, 45, 69, 110, 118, 101, 108, 111, 112, 101, 45, 73, 100, 58, 32] st.rest = true) (h2 : runP (.sh [79, 114, 105, 103, 105, 110, 97, 108, 45, 69, 110, 118, 101, 108, 111, 112, 101, 45, 73, 100, 58, 32] [] 2) st = some st') : kE st = kA st' := by
  unfold kE
  rw [if_pos h, h2]
theorem kE_bad {st : RdS} (h : moreR [79, 114, 105, 103, 105, 110, 97, 108, 45, 69, 110, 118, 101, 108, 111, 112, 101, 45, 73, 100, 58, 32] st.rest = true) (h2 : runP (.sh [79, 114, 105, 103, 105, 110, 97, 108, 45, 69, 110, 118, 101, 108, 111, 112, 101, 45, 73, 100, 58, 32] [] 2) st = none) : kE st = none := by
  unfold kE
  rw [if_pos h, h2]
theorem kE_no {st : RdS} (h : moreR [79, 114, 105, 103, 105, 110, 97, 108, 45, 69, 110, 118, 101, 108, 111, 112, 101, 45, 73, 100, 58, 32] st.rest = false) : kE st = kA st := by
  unfold kE
  rw [if_neg (by rw [h]; decide)]
theorem kA_some {st st' : RdS} (h : runP (.sh [65, 114, 114, 105, 118, 97, 108, 45, 84, 105, 109, 101, 58, 32] [] 4) st = some st') : kA st = kL st'.rest.length st' := by
  unfold kA
  rw [h]
theorem kA_none {st : RdS} (h : runP (.sh [65, 114, 114, 105, 118, 97, 108, 45, 84, 105, 109, 101, 58, 32] [] 4) st = none) : kA st = none := by
  unfold kA
  rw [h]
theorem kL_more {k : Nat} {st : RdS} (h : moreR [] st.rest = true) : kL (k + 1) st = kF failP k (moreF st) := by
  unfold kL kF
  rw [show loopR (k + 1) st = if moreR [] st.rest = true then match runL failP (moreF st) with | some st => loopR k st | none => none else some st from rfl, if_pos h]
  cases runL failP (moreF st) with
  | none => rfl
  | some st' => rfl
theorem kL_done {k : Nat} {st : RdS} (h : moreR [] st.rest = false) : kL k st = kZ st := by
  unfold kL
  cases k with
  | zero => rfl
  | succ k => rw [show loopR (k + 1) st = if moreR [] st.rest = true then match runL failP (moreF st) with | some st => loopR k st | none => none else some st from rfl, if_neg (by rw [h]; decide)]
theorem more_len {s : Bytes} (h : moreR [] s = true) : 2 ≤ s.length := by
  unfold moreR Lib.hasPrefix at h
  rw [if_pos rfl] at h
  match s, h with
  | [], h => exact absurd h (by decide)
  | [a], h => simp [List.isPrefixOf] at h
  | a :: b :: r, _ => simp
theorem runP_len {p : PcR} {st st' : RdS} (h : runP p st = some st') : st'.rest.length ≤ st.rest.length ∧ st'.n.failed.length = st.n.failed.length := by
  cases p with
  | sh a b f =>
    have h : (lineR a b st.rest).map (fun p => setR st f p.1 p.2) = some st' := h
    cases hl : lineR a b st.rest with
    | none => rw [hl] at h; cases h
    | some p =>
      rw [hl] at h
      have h : setR st f p.1 p.2 = st' := (Option.some.inj h)
      subst h
      have := (lineR_len hl).2
      have hsl : ∀ (fs : List FlP) (g : FlP → FlP), (setLast fs g).length = fs.length := fun fs g => by
        rcases List.eq_nil_or_concat fs with rfl | ⟨l, x, rfl⟩
        · rfl
        · rw [List.concat_eq_append, setLast_snoc]; simp
      unfold setR
      split <;> (dsimp only; refine ⟨by omega, ?_⟩) <;> first | rfl | (exact hsl _ _)
  | ba ls =>
    have h : (barsR ls st.rest).map (fun r => { st with rest := r }) = some st' := h
    cases hl : barsR ls st.rest with
    | none => rw [hl] at h; cases h
    | some r =>
      rw [hl] at h
      have h : { st with rest := r } = st' := Option.some.inj h
      subst h
      refine ⟨?_, rfl⟩
      have key : ∀ (ls : List Bytes) (s r : Bytes), barsR ls s = some r → r.length ≤ s.length := by
        intro ls
        induction ls with
        | nil => intro s r h; injection h with h; rw [h]; exact Nat.le_refl _
        | cons a l ih =>
          intro s r h
          unfold barsR at h
          cases hb : barR a s with
          | none => rw [hb] at h; cases h
          | some r' =>
            rw [hb] at h
            have := ih r' r h
            have := barR_len hb
            omega
      exact key _ _ _ hl
theorem runP_ba {ls : List Bytes} {st st' : RdS} (h : runP (.ba ls) st = some st') : st'.n.failed = st.n.failed := by
  have h : (barsR ls st.rest).map (fun r => { st with rest := r }) = some st' := h
  cases hl : barsR ls st.rest with
  | none => rw [hl] at h; cases h
  | some r =>
    rw [hl] at h
    have h : { st with rest := r } = st' := Option.some.inj h
    subst h
    rfl
theorem runP_bar {a : Bytes} {st st' : RdS} (h : runP (.ba [a]) st = some st') : st'.rest.length + 2 ≤ st.rest.length := by
  have h : (barsR [a] st.rest).map (fun r => { st with rest := r }) = some st' := h
  cases hl : barsR [a] st.rest with
  | none => rw [hl] at h; cases h
  | some r =>
    rw [hl] at h
    have h : { st with rest := r } = st' := Option.some.inj h
    subst h
    unfold barsR at hl
    cases hb : barR a st.rest with
    | none => rw [hb] at hl; cases hl
    | some r' =>
      rw [hb] at hl
      injection hl with hl
      subst hl
      exact barR_len hb
theorem runP_fdest {a b : Bytes} {st st' : RdS} {fs : List FlP} {f : FlP} (hf : st.n.failed = fs ++ [f]) (h : ((lineR a b st.rest).map fun p => ({ st with n := { st.n with failed := fs ++ [{ f with dest := p.1 }] }, rest := p.2 } : RdS)) = some st') : runP (.sh a b 5) st = some st' ∧ ∃ f', st'.n.failed = fs ++ [f'] := by
  have e : runP (.sh a b 5) st = (lineR a b st.rest).map fun p => ({ st with n := { st.n with failed := fs ++ [{ f with dest := p.1 }] }, rest := p.2 } : RdS) := by
    show (lineR a b st.rest).map (fun p => setR st 5 p.1 p.2) = _
    congr 1
    funext p
    show ({ st with n := { st.n with failed := setLast st.n.failed fun f => { f with dest := p.1 } }, rest := p.2 } : RdS) = _
    rw [hf, setLast_snoc]
  refine ⟨e.trans h, ?_⟩
  cases hl : lineR a b st.rest with
  | none => rw [hl] at h; cases h
  | some p =>
    rw [hl] at h
    have h := Option.some.inj h
    subst h
    exact ⟨_, rfl⟩
theorem runP_fdestN {a b : Bytes} {st : RdS} {fs : List FlP} {f : FlP} (h : ((lineR a b st.rest).map fun p => ({ st with n := { st.n with failed := fs ++ [{ f with dest := p.1 }] }, rest := p.2 } : RdS)) = none) : runP (.sh a b 5) st = none := by
  show (lineR a b st.rest).map (fun p => setR st 5 p.1 p.2) = _
  cases hl : lineR a b st.rest with
  | none => rfl
  | some p => rw [hl] at h; cases h
theorem runP_fstatus {a b : Bytes} {st st' : RdS} {fs : List FlP} {f : FlP} (hf : st.n.failed = fs ++ [f]) (h : ((lineR a b st.rest).map fun p => ({ st with n := { st.n with failed := fs ++ [{ f with status := p.1 }] }, rest := p.2 } : RdS)) = some st') : runP (.sh a b 6) st = some st' ∧ ∃ f', st'.n.failed = fs ++ [f'] := by
  have e : runP (.sh a b 6) st = (lineR a b st.rest).map fun p => ({ st with n := { st.n with failed := fs ++ [{ f with status := p.1 }] }, rest := p.2 } : RdS) := by
    show (lineR a b st.rest).map (fun p => setR st 6 p.1 p.2) = _
    congr 1
    funext p
    show ({ st with n := { st.n with failed := setLast st.n.failed fun f => { f with status := p.1 } }, rest := p.2 } : RdS) = _
    rw [hf, setLast_snoc]
  refine ⟨e.trans h, ?_⟩
  cases hl : lineR a b st.rest with
  | none => rw [hl] at h; cases h
  | some p =>
    rw [hl] at h
    have h := Option.some.inj h
    subst h
    exact ⟨_, rfl⟩
theorem runP_fstatusN {a b : Bytes} {st : RdS} {fs : List FlP} {f : FlP} (h : ((lineR a b st.rest).map fun p => ({ st with n := { st.n with failed := fs ++ [{ f with status := p.1 }] }, rest := p.2 } : RdS)) = none) : runP (.sh a b 6) st = none := by
  show (lineR a b st.rest).map (fun p => setR st 6 p.1 p.2) = _
  cases hl : lineR a b st.rest with
  | none => rfl
  | some p => rw [hl] at h; cases h
theorem runP_ftext {a b : Bytes} {st st' : RdS} {fs : List FlP} {f : FlP} (hf : st.n.failed = fs ++ [f]) (h : ((lineR a b st.rest).map fun p => ({ st with n := { st.n with failed := fs ++ [{ f with text := p.1 }] }, rest := p.2 } : RdS)) = some st') : runP (.sh a b 7) st = some st' ∧ ∃ f', st'.n.failed = fs ++ [f'] := by
  have e : runP (.sh a b 7) st = (lineR a b st.rest).map fun p => ({ st with n := { st.n with failed := fs ++ [{ f with text := p.1 }] }, rest := p.2 } : RdS) := by
    show (lineR a b st.rest).map (fun p => setR st 7 p.1 p.2) = _
    congr 1
    funext p
    show ({ st with n := { st.n with failed := setLast st.n.failed fun f => { f with text := p.1 } }, rest := p.2 } : RdS) = _
    rw [hf, setLast_snoc]
  refine ⟨e.trans h, ?_⟩
  cases hl : lineR a b st.rest with
  | none => rw [hl] at h; cases h
  | some p =>
    rw [hl] at h
    have h := Option.some.inj h
    subst h
    exact ⟨_, rfl⟩
theorem runP_ftextN {a b : Bytes} {st : RdS} {fs : List FlP} {f : FlP} (h : ((lineR a b st.rest).map fun p => ({ st with n := { st.n with failed := fs ++ [{ f with text := p.1 }] }, rest := p.2 } : RdS)) = none) : runP (.sh a b 7) st = none := by
  show (lineR a b st.rest).map (fun p => setR st 7 p.1 p.2) = _
  cases hl : lineR a b st.rest with
  | none => rfl
  | some p => rw [hl] at h; cases h
end Go.Proofs.YtlpngibdplnieaaGreatDoor
