/- Parts of the proof, joined: Npl, Ndig, Nsta, Nenv, Nmay. -/
import Derived.Test.YtlpngibdplnieaaGreatDoorMg
import Derived.Lib.SplitLaws
import Derived.Lib.CountLaws
import Derived.Lib.CutLaws
import Derived.Deep.CutRange
import Derived.Test.YtlpngibdplnieaaGreatDoorEmay
/- notice: in plain Lean. -/
namespace Go.Proofs.YtlpngibdplnieaaGreatDoor
open Go Go.Shelf

theorem split_parts (c : UInt8) : ∀ (k : Nat) (s : ByteArray), s.size ≤ k → (Lib.splitB ⟨#[c]⟩ 0 (Lib.countB s ⟨#[c]⟩) s).map (fun x => x.data.toList) = parts c s.data.toList := by
  intro k
  induction k with
  | zero =>
    intro s h
    have h0 : s.data.toList = [] := by
      have h1 : s.data.size = 0 := by have : s.data.size = s.size := rfl; omega
      exact List.eq_nil_of_length_eq_zero (by rw [Array.length_toList]; exact h1)
    have hm : Lib.indexB s ⟨#[c]⟩ = -1 := by
      show Lib.index s.data.toList [c] = -1
      rw [h0]; rfl
    rw [Lib.countB_miss _ _ hm, Lib.splitB_zero, h0]
    simp [parts, h0]
  | succ k ih =>
    intro s h
    rcases Lib.indexB_cases s ⟨#[c]⟩ with h1 | ⟨i, h1, h2⟩
    · rw [Lib.countB_miss _ _ h1, Lib.splitB_zero]
      have h1' : Lib.index s.data.toList [c] = -1 := h1
      rcases parts_cut c s.data.toList with ⟨h3, _⟩ | ⟨_, h4, _⟩
      · unfold Lib.cut at h3
        rw [h1'] at h3
        simp at h3
      · rw [h4]; rfl
    · have h1' : Lib.index s.data.toList [c] = (i : Int) := h1
      have hsz : s.size = s.data.toList.length := by rw [Array.length_toList]; rfl
      have h2' : i + 1 ≤ s.size := h2
      have hsep : (⟨#[c]⟩ : ByteArray).size = 1 := rfl
      rw [Lib.countB_hit _ _ i (by rw [hsep]; exact Nat.le_refl 1) h1, Nat.add_comm, Lib.splitB_hit _ _ _ _ i h1, List.map_cons, hsep]
      have hx : (s.extract (i + 1) s.size).size ≤ k := by
        rw [ByteArray.size_extract]
        omega
      have hr := ih (s.extract (i + 1) s.size) hx
      have e1 : (s.extract 0 (i + 0)).data.toList = s.data.toList.take i := by
        rw [ByteArray.data_extract, Array.toList_extract]
        simp [List.extract]
      have e2 : (s.extract (i + 1) s.size).data.toList = s.data.toList.drop (i + 1) := by
        rw [ByteArray.data_extract, Array.toList_extract]
        simp only [List.extract]
        rw [List.take_of_length_le (by rw [List.length_drop, ← hsz]; omega)]
      have hcut : Lib.cut s.data.toList [c] = (s.data.toList.take i, s.data.toList.drop (i + 1), true) := by
        unfold Lib.cut
        rw [h1', if_pos (by omega)]
        simp
      rcases parts_cut c s.data.toList with ⟨_, h4, _⟩ | ⟨h3, _⟩
      · rw [hcut] at h4
        rw [h4, hr, e1, e2]
      · rw [hcut] at h3
        cases h3
/-- Whether a text is one to three digits; whether it is a status; a text's status. -/
def digitsB (s : Bytes) : Bool := decide (s ≠ []) && (decide (s.length ≤ 3) && s.all isDig)
def statusB (s : Bytes) : Bool := match parts 46 s with
  | [a, b, c] => decide (a = [53]) && (digitsB b && digitsB c)
  | _ => false
def statusOf (s : Bytes) : Bytes := ((parts 32 s).find? statusB).getD [53, 46, 48, 46, 48]
def envidB (s : Bytes) : Bool := envB s && decide (s.length ≤ 32)
/-- A failure; a notice. -/
structure FlP where
  dest : Bytes
  status : Bytes
  text : Bytes
  deriving DecidableEq
structure NotP where
  id : Int
  host : Bytes
  dest : Bytes
  envid : Bytes
  at_ : Int
  failed : List FlP
  deriving DecidableEq
def flE (f : FlP) : List Value := [.string ⟨f.dest.toArray⟩, .string ⟨f.status.toArray⟩, .string ⟨f.text.toArray⟩]
def notC (n : NotP) (fv : Value) : List Value := [.int .i64 n.id, .string ⟨n.host.toArray⟩, .string ⟨n.dest.toArray⟩, .string ⟨n.envid.toArray⟩, .int .i64 n.at_, fv]
def notV (n : NotP) (fv : Value) : Value := .agg (notC n fv).toArray
def badFl (f : FlP) : Bool := !addrB f.dest || (!statusB f.status || decide (wordB f.text ≠ f.text))
def mayNot (n : NotP) : Bool := decide (0 < n.id) && (clockB n.id && (clockB n.at_ && (mayB n.host && (addrB n.dest && (envidB n.envid && (decide (0 < n.failed.length) && (decide (n.failed.length ≤ 4) && !n.failed.any badFl)))))))
end Go.Proofs.YtlpngibdplnieaaGreatDoor

/- notice: digits, clock, envid. -/
namespace Go.Proofs.YtlpngibdplnieaaGreatDoor
open Go Go.RowKit Go.Shelf Go.Sort
attribute [local go_sem] bneI

set_option maxRecDepth 100000 in
theorem digits_any (s : Bytes) (w : World) (hs : s.length ≤ 9223372036854775807) : Calls Tryz.prog 129 #[.string ⟨s.toArray⟩] w fun e w' => e = .returned (.bool (digitsB s)) ∧ Below w.heap.size w w' := by
  have hT := trimD_any s w hs
  by_cases h0 : s = []
  · subst h0
    have hd : digitsB [] = false := rfl
    rw [hd]
    clear hT
    go_enter Tryz.func129, Tryz.ntmps129
    go_wp2
    refine bodyPost_ret (v := .bool false) (by simp [results, Tryz.results129, go_sem]) rfl ⟨rfl, Below.refl _ _⟩
  · by_cases h3 : s.length ≤ 3
    · have h3i : (s.length : Int) ≤ 3 := by omega
      have hd : digitsB s = decide (trimD s = []) := by
        unfold digitsB
        rw [Bool.eq_iff_iff]
        simp [h0, h3, trimD_nil]
      rw [hd]
      clear hd
      obtain ⟨t, ht⟩ : ∃ t, t = trimD s := ⟨_, rfl⟩
      rw [← ht] at hT ⊢
      clear ht
      go_enter Tryz.func129, Tryz.ntmps129
      go_wp2_with fail
      refine hT.mono ?_
      rintro e w2 ⟨rfl, hb⟩
      have HB := Lib.hid hb
      clear hT hb
      by_cases ht : t = []
      · subst ht
        go_wp2
        refine bodyPost_ret (v := .bool true) (by simp [results, Tryz.results129, go_sem, h0]) rfl ⟨by simp, HB.out⟩
      · go_wp2
        refine bodyPost_ret (v := .bool false) (by simp [results, Tryz.results129, go_sem, ht]) rfl ⟨by simp [ht], HB.out⟩
    · have h3i : ¬ (s.length : Int) ≤ 3 := by omega
      have hd : digitsB s = false := by
        unfold digitsB
        simp [h3]
      rw [hd]
      clear hd hT
      go_enter Tryz.func129, Tryz.ntmps129
      go_wp2
      refine bodyPost_ret (v := .bool false) (by simp [results, Tryz.results129, go_sem]) rfl ⟨rfl, Below.refl _ _⟩
set_option maxRecDepth 100000 in
theorem clockN_any (n : Int) (w : World) : Calls Tryz.prog 45 #[.int .i64 n] w fun e w' => e = .returned (.bool (clockB n)) ∧ Below w.heap.size w w' := by
  by_cases h0 : 0 ≤ n
  · by_cases h1 : n ≤ 1099511627776
    · have hc : clockB n = true := by unfold clockB; simp [h0, h1]
      rw [hc]
      clear hc
      go_enter Tryz.func45, Tryz.ntmps45
      go_wp2
      refine bodyPost_ret (v := .bool true) (by simp [results, Tryz.results45, go_sem]) rfl ⟨rfl, Below.refl _ _⟩
    · have hc : clockB n = false := by unfold clockB; simp [h1]
      rw [hc]
      clear hc
      go_enter Tryz.func45, Tryz.ntmps45
      go_wp2
      refine bodyPost_ret (v := .bool false) (by simp [results, Tryz.results45, go_sem]) rfl ⟨rfl, Below.refl _ _⟩
  · have hc : clockB n = false := by unfold clockB; simp [h0]
    rw [hc]
    clear hc
    go_enter Tryz.func45, Tryz.ntmps45
    go_wp2
    refine bodyPost_ret (v := .bool false) (by simp [results, Tryz.results45, go_sem]) rfl ⟨rfl, Below.refl _ _⟩
end Go.Proofs.YtlpngibdplnieaaGreatDoor

/- notice: strings.Split, status, Status. -/
namespace Go.Proofs.YtlpngibdplnieaaGreatDoor
open Go Go.RowKit Go.Shelf Go.Sort
attribute [local go_sem] bneI

theorem splitN_any (c : UInt8) (s : Bytes) (w : World) (hs : s.length < 4294967281) (hE : Env w) : Calls Tryz.prog 97 #[.string ⟨s.toArray⟩, .string ⟨#[c]⟩] w fun e w' =>
    (∃ p cap, e = .returned (.slice p (parts c s).length cap) ∧ RowK 1 stE w' (.slice p (parts c s).length cap) (parts c s)) ∧ Below w.heap.size w w' := by
  obtain ⟨m, hm⟩ := hE.glob
  refine (Tryz.strings_Split ⟨s.toArray⟩ ⟨#[c]⟩ m w hs hm (Nat.le_refl 1)).mono ?_
  rintro e w' ⟨rfl, rfl⟩
  have hp := split_parts c _ ⟨s.toArray⟩ (Nat.le_refl _)
  have hl := Lib.splitB_all ⟨#[c]⟩ (Nat.le_refl 1) 0 _ ⟨s.toArray⟩ rfl
  have hpl : (parts c s).length = Lib.countB ⟨s.toArray⟩ ⟨#[c]⟩ + 1 := by
    rw [← hl]
    have := congrArg List.length hp
    rw [List.length_map] at this
    exact this.symm
  rw [← hpl]
  refine ⟨⟨some ⟨w.heap.size, 0, none⟩, (parts c s).length, rfl, ⟨_, _, rfl, Nat.le_refl _, fun _ => ⟨w.heap.size, 0, rfl, fun i hi j u hu => ?_⟩⟩⟩, (Below.refl _ _).alloc (Nat.le_refl _) _⟩
  have hj : j = 0 := by
    have := (List.getElem?_eq_some_iff.1 hu).1
    unfold stE at this
    simp at this
    exact this
  subst hj
  have hu' : Value.string ⟨((parts c s)[i]).toArray⟩ = u := by
    unfold stE at hu
    simpa using hu
  subst hu'
  have hb : (w.alloc (.cells ((Lib.splitB ⟨#[c]⟩ 0 (Lib.countB ⟨s.toArray⟩ ⟨#[c]⟩) ⟨s.toArray⟩).map Value.string).toArray 9)).heap[w.heap.size]? = some (.cells ((Lib.splitB ⟨#[c]⟩ 0 (Lib.countB ⟨s.toArray⟩ ⟨#[c]⟩) ⟨s.toArray⟩).map Value.string).toArray 9 (0, 0)) := ha_eq rfl
  have hil : i < (Lib.splitB ⟨#[c]⟩ 0 (Lib.countB ⟨s.toArray⟩ ⟨#[c]⟩) ⟨s.toArray⟩).length := by rw [hl, ← hpl]; exact hi
  have hget : (parts c s)[i] = ((Lib.splitB ⟨#[c]⟩ 0 (Lib.countB ⟨s.toArray⟩ ⟨#[c]⟩) ⟨s.toArray⟩)[i]).data.toList := by
    have h1 : (parts c s)[i]? = some (((Lib.splitB ⟨#[c]⟩ 0 (Lib.countB ⟨s.toArray⟩ ⟨#[c]⟩) ⟨s.toArray⟩)[i]).data.toList) := by
      rw [← show _ = parts c s from hp, List.getElem?_map, List.getElem?_eq_getElem hil]
      rfl
    exact Option.some.inj ((List.getElem?_eq_getElem hi).symm.trans h1)
  rw [hget]
  simp only [World.cell?, hb, Nat.zero_add, Nat.mul_one, Nat.add_zero]
  rw [List.getElem?_toArray, List.getElem?_map, List.getElem?_eq_getElem hil]
  rfl
theorem parts_short {c : UInt8} {s : Bytes} {b : Bytes} (h : b ∈ parts c s) : b.length ≤ s.length := parts_le c s b h
/-- A function of one text at a row of texts. -/
theorem enterStatus : ∀ args w, (callFunc 89 args).run Tryz.prog w = .ok (.enter 89 args) w := enters_of Tryz.func89 (by kernel_rfl) rfl
set_option maxRecDepth 100000 in
set_option maxHeartbeats 2000000 in
theorem status_any (s : Bytes) (w : World) (hs : s.length ≤ 1000000) (hE : Env w) : Calls Tryz.prog 89 #[.string ⟨s.toArray⟩] w fun e w' => e = .returned (.bool (statusB s)) ∧ Below w.heap.size w w' := by
  have hSp := splitN_any 46 s w (by omega) hE
  have hps : ∀ b ∈ parts 46 s, b.length ≤ 1000000 := fun b hb => Nat.le_trans (parts_le 46 s b hb) hs
  obtain ⟨st, hst⟩ : ∃ st, st = statusB s := ⟨_, rfl⟩
  rw [← hst]
  unfold statusB at hst
  have HP := Lib.hid hps
  clear hps
  obtain ⟨ps, hpe⟩ : ∃ ps, ps = parts 46 s := ⟨_, rfl⟩
  rw [← hpe] at hSp HP hst
  have HST := Lib.hid hst
  clear hpe hs hE hst
  go_enter Tryz.func89, Tryz.ntmps89
  go_wp2_with fail
  refine hSp.mono ?_
  rintro e w2 ⟨⟨p, cap, rfl, hr⟩, hb⟩
  have HB := Lib.hid hb
  clear hSp hb
  match ps, HP, hr, HST with
  | [a, b, c], HP, hr, HST =>
    obtain ⟨b3, o3, rfl, hc⟩ := hr.at 0 (by simp)
    have y0 : w2.cell? ⟨b3, o3, none⟩ = some (.string ⟨a.toArray⟩) := by have := hc 0 (by simp) 0 _ rfl; simpa using this
    have y1 : w2.cell? ⟨b3, o3 + 1, none⟩ = some (.string ⟨b.toArray⟩) := by have := hc 1 (by simp) 0 _ rfl; simpa using this
    have y2 : w2.cell? ⟨b3, o3 + 2, none⟩ = some (.string ⟨c.toArray⟩) := by have := hc 2 (by simp) 0 _ rfl; simpa using this
    have hD1 := digits_any b w2 (by have := HP.out b (by simp); omega)
    have hD2 := fun W => digits_any c W (by have := HP.out c (by simp); omega)
    have hl3 : ([a, b, c] : List Bytes).length = 3 := rfl
    rw [hl3]
    clear hr hc hl3
    have HS := Lib.hid (show st = (decide (a = [53]) && (digitsB b && digitsB c)) from HST.out)
    by_cases ha : a = [53]
    · subst ha
      go_wp2_with fail
      refine hD1.mono ?_
      rintro e w3 ⟨rfl, hb3⟩
      have H3 := Lib.hid (HB.out.trans (hb3.mono HB.out.size))
      have z2 := (hb3.cell (p := ⟨_, _, none⟩) (cell_lt y2)).trans y2
      clear hD1 hb3 y0 y1 y2
      cases hd : digitsB b with
      | false =>
        rw [hd] at HS
        go_wp2
        refine bodyPost_ret (v := .bool false) (by simp [results, Tryz.results89, go_sem]) rfl ⟨by rw [HS.out]; simp, H3.out⟩
      | true =>
        rw [hd] at HS
        have hD3 := hD2 w3
        go_wp2_with fail
        refine hD3.mono ?_
        rintro e w4 ⟨rfl, hb4⟩
        have H4 := Lib.hid (H3.out.trans (hb4.mono H3.out.size))
        clear hD3 hD2 hb4 z2
        go_wp2
        refine bodyPost_ret (v := .bool (digitsB c)) (by simp [results, Tryz.results89, go_sem]) rfl ⟨by rw [HS.out]; simp, H4.out⟩
    · have ha2 : ¬ (⟨a.toArray⟩ : ByteArray) = ⟨#[53]⟩ := fun e => ha (by injection e with e; have := congrArg Array.toList e; simpa using this)
      clear hD1 hD2
      go_wp2
      refine bodyPost_ret (v := .bool false) (by simp [results, Tryz.results89, go_sem]) rfl ⟨by rw [HS.out]; simp [ha], HB.out⟩
  | [], HP, hr, HST =>
    have HS := Lib.hid (show st = false from HST.out)
    obtain ⟨n, hn⟩ : ∃ n, n = ([] : List Bytes).length := ⟨_, rfl⟩
    rw [← hn]
    simp only [List.length_cons, List.length_nil] at hn
    have hn3 : ¬ (n : Int) = 3 := by omega
    have hn4 : ((n : Int) == 3) = false := by simp; omega
    have hn5 : decide ((n : Int) = 3) = false := by simp; omega
    have hn6 : decide (n = 3) = false := by simp; omega
    clear hr hn
    go_wp2
    refine bodyPost_ret (v := .bool false) (by simp [results, Tryz.results89, go_sem]) rfl ⟨by rw [HS.out], HB.out⟩
  | [x1], HP, hr, HST =>
    have HS := Lib.hid (show st = false from HST.out)
    obtain ⟨n, hn⟩ : ∃ n, n = ([x1] : List Bytes).length := ⟨_, rfl⟩
    rw [← hn]
    simp only [List.length_cons, List.length_nil] at hn
    have hn3 : ¬ (n : Int) = 3 := by omega
    have hn4 : ((n : Int) == 3) = false := by simp; omega
    have hn5 : decide ((n : Int) = 3) = false := by simp; omega
    have hn6 : decide (n = 3) = false := by simp; omega
    clear hr hn
    go_wp2
    refine bodyPost_ret (v := .bool false) (by simp [results, Tryz.results89, go_sem]) rfl ⟨by rw [HS.out], HB.out⟩
  | [x1, x2], HP, hr, HST =>
    have HS := Lib.hid (show st = false from HST.out)
    obtain ⟨n, hn⟩ : ∃ n, n = ([x1, x2] : List Bytes).length := ⟨_, rfl⟩
    rw [← hn]
    simp only [List.length_cons, List.length_nil] at hn
    have hn3 : ¬ (n : Int) = 3 := by omega
    have hn4 : ((n : Int) == 3) = false := by simp; omega
    have hn5 : decide ((n : Int) = 3) = false := by simp; omega
    have hn6 : decide (n = 3) = false := by simp; omega
    clear hr hn
    go_wp2
    refine bodyPost_ret (v := .bool false) (by simp [results, Tryz.results89, go_sem]) rfl ⟨by rw [HS.out], HB.out⟩
  | x1 :: x2 :: x3 :: x4 :: r, HP, hr, HST =>
    have HS := Lib.hid (show st = false from HST.out)
    obtain ⟨n, hn⟩ : ∃ n, n = (x1 :: x2 :: x3 :: x4 :: r : List Bytes).length := ⟨_, rfl⟩
    rw [← hn]
    simp only [List.length_cons, List.length_nil] at hn
    have hn3 : ¬ (n : Int) = 3 := by omega
    have hn4 : ((n : Int) == 3) = false := by simp; omega
    have hn5 : decide ((n : Int) = 3) = false := by simp; omega
    have hn6 : decide (n = 3) = false := by simp; omega
    clear hr hn
    go_wp2
    refine bodyPost_ret (v := .bool false) (by simp [results, Tryz.results89, go_sem]) rfl ⟨by rw [HS.out], HB.out⟩
set_option maxRecDepth 100000 in
theorem ixStatus_any (xs : List Bytes) (v : Value) (w : World) (hr : RowK 1 stE w v xs) (hn : xs.length ≤ 1000001) (hs : ∀ x ∈ xs, x.length ≤ 1000000) (hE : Env w) :
    Calls Tryz.prog 98 #[v, .func (.func 89) #[] #[]] w fun e w' => IxPost statusB xs e ∧ Below w.heap.size w w' := by
  obtain ⟨p, c, rfl, -⟩ := hr.sh
  have HF := Lib.hid (And.intro hr (And.intro hs hE))
  clear hr hs hE
  go_enter Tryz.func98, Tryz.ntmps98
  go_wp2_with fail
  go_loopw [8] (fun iv wr => ∃ i : Nat, iv = .int .i64 (i : Int) ∧ i ≤ xs.length ∧ (∀ (j : Nat) (hj : j < xs.length), j < i → statusB xs[j] = false) ∧ Below w.heap.size w wr) (fun iv _ => xs.length - natI iv)
  case atStart => exact ⟨0, rfl, Nat.zero_le _, fun j hj h => absurd h (Nat.not_lt_zero _), Below.refl _ _⟩
  case round =>
    obtain ⟨i, rfl, hi, hno, hB⟩ := hrel
    by_cases hlast : i < xs.length
    · have hli : (i : Int) < (xs.length : Int) := by omega
      obtain ⟨b, o, rfl, hc⟩ := (HF.out.1.below hB).at i hlast
      have hc' := hc i hlast
      have y0 : wr.cell? ⟨b, o + i, none⟩ = some (.string ⟨xs[i].toArray⟩) := by have := hc' 0 _ rfl; simpa using this
      have hcl := status_any xs[i] wr (HF.out.2.1 _ (List.getElem_mem hlast)) (HF.out.2.2.keep hB)
      have HR := Lib.hid (And.intro hno hB)
      clear hc hc' hno hB
      obtain ⟨x, hx⟩ : ∃ x, x = xs[i] := ⟨_, rfl⟩
      rw [← hx] at y0 hcl
      have hfx : ∀ r : Bool, statusB x = r → statusB xs[i] = r := fun r h => by rw [← hx]; exact h
      have HX := Lib.hid hfx
      clear hx hfx
      have hrun : Sem.run Tryz.prog (callFunc 89 #[.string ⟨x.toArray⟩]) wr = .ok (.enter 89 #[.string ⟨x.toArray⟩]) wr := enterStatus _ _
      go_wp2_with fail
      refine hcl.mono ?_
      rintro e w1 ⟨rfl, hb⟩
      have HB := Lib.hid (HR.out.2.trans (hb.mono HR.out.2.size))
      clear hrun hcl hb y0
      cases hf : statusB x with
      | true =>
        have HN := Lib.hid (HX.out _ hf)
        clear hf
        go_wp2
        refine bodyPost_ret (v := .int .i64 (i : Int)) (by simp [results, Tryz.results98, go_sem]) rfl ⟨.inr ⟨i, hlast, rfl, HN.out, fun j hj h => HR.out.1 j hj h⟩, HB.out⟩
      | false =>
        have HN := Lib.hid (HX.out _ hf)
        clear hf
        go_wp2
        go_roundw
        case rel => exact ⟨i + 1, by simp, by omega, fun j hj h => by
          by_cases e : j = i
          · subst e; exact HN.out
          · exact HR.out.1 j hj (by omega), HB.out⟩
        case measure => simp [natI]; omega
    · have hli : ¬ (i : Int) < (xs.length : Int) := by omega
      have hil : xs.length ≤ i := by omega
      have HN := Lib.hid (And.intro hno (And.intro hB hil))
      clear hno hB hil
      go_wp2
      refine bodyPost_ret (v := .int .i64 (-1)) (by simp [results, Tryz.results98, go_sem]) rfl ⟨.inl ⟨rfl, fun j hj => HN.out.1 j hj (by have := HN.out.2.2; omega)⟩, HN.out.2.1⟩
theorem find_ix {xs : List Bytes} {i : Nat} (hi : i < xs.length) (h1 : statusB xs[i] = true) (h2 : ∀ (j : Nat) (hj : j < xs.length), j < i → statusB xs[j] = false) : xs.find? statusB = some xs[i] := by
  rw [List.find?_eq_some_iff_getElem]
  exact ⟨h1, i, hi, rfl, fun j hj => by rw [h2 j (by omega) hj]; rfl⟩
theorem find_no {xs : List Bytes} (h : ∀ (j : Nat) (hj : j < xs.length), statusB xs[j] = false) : xs.find? statusB = none := by
  rw [List.find?_eq_none]
  intro x hx
  obtain ⟨j, hj, rfl⟩ := List.getElem_of_mem hx
  rw [h j hj]; simp
set_option maxRecDepth 100000 in
theorem statusOf_any (s : Bytes) (w : World) (hs : s.length ≤ 1000000) (hE : Env w) : Calls Tryz.prog 34 #[.string ⟨s.toArray⟩] w fun e w' => e = .returned (.string ⟨(statusOf s).toArray⟩) ∧ Below w.heap.size w w' := by
  have hSp := splitN_any 32 s w (by omega) hE
  have hps : ∀ b ∈ parts 32 s, b.length ≤ 1000000 := fun b hb => Nat.le_trans (parts_le 32 s b hb) hs
  have hpl : (parts 32 s).length ≤ 1000001 := Nat.le_trans (parts_len 32 s) (by omega)
  have HP := Lib.hid (And.intro hps (And.intro hpl hE))
  unfold statusOf
  obtain ⟨ps, hpe⟩ : ∃ ps, ps = parts 32 s := ⟨_, rfl⟩
  rw [← hpe] at hSp HP ⊢
  clear hpe hs hE hps hpl
  go_enter Tryz.func34, Tryz.ntmps34
  go_wp2_with fail
  refine hSp.mono ?_
  rintro e w2 ⟨⟨p, cap, rfl, hr⟩, hb⟩
  have HB := Lib.hid hb
  have hIx := ixStatus_any ps _ w2 hr HP.out.2.1 HP.out.1 (HP.out.2.2.keep hb)
  clear hSp hb
  go_wp2_with fail
  refine hIx.mono ?_
  rintro e w3 ⟨hix, hb3⟩
  have H3 := Lib.hid (HB.out.trans (hb3.mono HB.out.size))
  have hr3 := hr.below hb3
  clear hIx hb3 hr
  rcases hix with ⟨rfl, h⟩ | ⟨i, hi, rfl, h1, h2⟩
  · have HN := Lib.hid (find_no h)
    clear h hr3
    go_wp2
    refine bodyPost_ret (v := .string ⟨#[53, 46, 48, 46, 48]⟩) (by simp [results, Tryz.results34, go_sem]) rfl ⟨by rw [HN.out]; rfl, H3.out⟩
  · have HN := Lib.hid (find_ix hi h1 h2)
    obtain ⟨b3, o3, rfl, hc⟩ := hr3.at i hi
    have y0 : w3.cell? ⟨b3, o3 + i, none⟩ = some (.string ⟨ps[i].toArray⟩) := by have := hc i hi 0 _ rfl; simpa using this
    have hii : (i : Int) < (ps.length : Int) := by omega
    have hi0 : (0 : Int) ≤ (i : Int) := by omega
    have hi1 : (i : Int) ≥ 0 := by omega
    clear h1 h2 hr3 hc
    go_wp2
    refine bodyPost_ret (v := .string ⟨ps[i].toArray⟩) (by simp [results, Tryz.results34, go_sem]) rfl ⟨by rw [HN.out]; rfl, H3.out⟩
end Go.Proofs.YtlpngibdplnieaaGreatDoor

/- notice: envid. -/
namespace Go.Proofs.YtlpngibdplnieaaGreatDoor
open Go Go.RowKit Go.Shelf Go.Sort
attribute [local go_sem] bneI

def letC (c : UInt8) : Bool := letB c || c == 45
theorem letC_nat (c : UInt8) : letC c = decide ((97 ≤ c.toNat ∧ c.toNat ≤ 122) ∨ (65 ≤ c.toNat ∧ c.toNat ≤ 90) ∨ (48 ≤ c.toNat ∧ c.toNat ≤ 57) ∨ c.toNat = 45) := by
  unfold letC letB
  rw [Bool.eq_iff_iff]
  simp only [Bool.or_eq_true, Bool.and_eq_true, decide_eq_true_eq, beq_iff_eq, UInt8.le_iff_toNat_le, or_assoc]
  have h : (c = 45 ↔ c.toNat = 45) := ⟨fun h => by rw [h]; rfl, fun h => UInt8.toNat_inj.1 (by rw [h]; rfl)⟩
  rw [h]
  exact Iff.rfl
theorem env_take {s : Bytes} {i : Nat} (hi : i < s.length) (h : (s.take i).all letC = true) (hc : letC s[i] = true) : (s.take (i + 1)).all letC = true := by
  rw [List.take_succ_eq_append_getElem hi, List.all_append, h]
  simp [hc]
theorem env_bad {s : Bytes} {i : Nat} (hi : i < s.length) (hc : letC s[i] = false) : envidB s = false := by
  unfold envidB
  have : envB s = false := by
    show s.all letC = false
    rw [List.all_eq_false]
    exact ⟨s[i], List.getElem_mem hi, by rw [hc]; simp⟩
  rw [this]; rfl
theorem env_all {s : Bytes} (h : (s.take s.length).all letC = true) : envidB s = decide (s.length ≤ 32) := by
  rw [List.take_length] at h
  unfold envidB
  have : envB s = true := h
  rw [this]; rfl
set_option maxRecDepth 100000 in
set_option maxHeartbeats 4000000 in
theorem envid_any (s : Bytes) (w : World) (hs : s.length ≤ 1000000) : Calls Tryz.prog 86 #[.string ⟨s.toArray⟩] w fun e w' => e = .returned (.bool (envidB s)) ∧ Below w.heap.size w w' := by
  have hconv := Lib.run_convert_string_bytes (P := Tryz.prog) w 9 116 5 ⟨s.toArray⟩ Tryz.underlying9 Tryz.underlying116 Tryz.underlying5
  have hsz : (⟨s.toArray⟩ : ByteArray).size = s.length := rfl
  rw [hsz] at hconv
  have hB := bytes_below w 5 ⟨s.toArray⟩
  have hN := ByAt.new w s
  generalize Lib.bytesWorld w 5 ⟨s.toArray⟩ = w1 at *
  generalize grownCap w s.length 0 5 = cap at *
  have HB := Lib.hid (And.intro hB hN)
  clear hB hN hsz
  go_enter Tryz.func86, Tryz.ntmps86
  go_wp2_with fail
  clear hconv
  go_loopw [8] (fun s8 wr => ∃ i : Nat, s8 = .int .i64 (i : Int) ∧ i ≤ s.length ∧ (s.take i).all letC = true ∧ wr = w1) (fun s8 _ => s.length - natI s8)
  case atStart => exact ⟨0, rfl, Nat.zero_le _, rfl, rfl⟩
  case round =>
    obtain ⟨i, rfl, hi, ha, rfl⟩ := hrel
    by_cases hlast : i < s.length
    · have hli : (i : Int) < (s.length : Int) := by omega
      have hw1 : wrap64 ((i : Int) + 1) = (i : Int) + 1 := by unfold wrap64; omega
      obtain ⟨y0, -⟩ := HB.out.2.cell i hlast
      have HA := Lib.hid (And.intro ha hlast)
      have hn := letC_nat s[i]
      clear ha
      obtain ⟨c, hc⟩ : ∃ c, c = s[i] := ⟨_, rfl⟩
      have HC := Lib.hid hc
      rw [← hc] at y0 hn
      clear hc
      have hc256 : c.toNat < 256 := c.toNat_lt
      generalize hcn : c.toNat = n at y0 hn hc256
      go_upto_region 4 with (fail)
      go_cut [38] from 9 to 39 (fun s38 w' => s38 = .bool (!letC c) ∧ w' = wr)
      case first =>
        have HNN := Lib.hid hn
        clear HA HC hn hcn
        by_cases h1 : 97 ≤ n
        · by_cases h2 : n ≤ 122
          · have h1i : (n : Int) ≥ 97 := by omega
            have h2i : (n : Int) ≤ 122 := by omega
            go_wp2
            go_meet
            case rel => exact ⟨by rw [HNN.out]; simp [h1, h2], rfl⟩
          · have h1i : (n : Int) ≥ 97 := by omega
            have h2i : ¬ (n : Int) ≤ 122 := by omega
            have h3i : ¬ (n : Int) ≤ 90 := by omega
            have h4i : ¬ (n : Int) ≤ 57 := by omega
            have h5i : (n : Int) ≥ 65 := by omega
            have h6i : (n : Int) ≥ 48 := by omega
            have h7i : ((n : Int) == 45) = false := by simp; omega
            have h8i : decide ((n : Int) = 45) = false := by simp; omega
            have h9i : ¬ (n : Int) = 45 := by omega
            go_wp2
            go_meet
            case rel => exact ⟨by rw [HNN.out]; simp; omega, rfl⟩
        · have h1i : ¬ (n : Int) ≥ 97 := by omega
          by_cases h2 : 65 ≤ n
          · have h2i : (n : Int) ≥ 65 := by omega
            have h6i : (n : Int) ≥ 48 := by omega
            have h4i : ¬ (n : Int) ≤ 57 := by omega
            have h9i : ¬ (n : Int) = 45 := by omega
            have h7i : ((n : Int) == 45) = false := by simp; omega
            have h8i : decide ((n : Int) = 45) = false := by simp; omega
            by_cases h3 : n ≤ 90
            · have h3i : (n : Int) ≤ 90 := by omega
              go_wp2
              go_meet
              case rel => exact ⟨by rw [HNN.out]; simp; omega, rfl⟩
            · have h3i : ¬ (n : Int) ≤ 90 := by omega
              go_wp2
              go_meet
              case rel => exact ⟨by rw [HNN.out]; simp; omega, rfl⟩
          · have h2i : ¬ (n : Int) ≥ 65 := by omega
            by_cases h3 : 48 ≤ n
            · have h3i : (n : Int) ≥ 48 := by omega
              have h9i : ¬ (n : Int) = 45 := by omega
              have h7i : ((n : Int) == 45) = false := by simp; omega
              have h8i : decide ((n : Int) = 45) = false := by simp; omega
              by_cases h4 : n ≤ 57
              · have h4i : (n : Int) ≤ 57 := by omega
                go_wp2
                go_meet
                case rel => exact ⟨by rw [HNN.out]; simp; omega, rfl⟩
              · have h4i : ¬ (n : Int) ≤ 57 := by omega
                go_wp2
                go_meet
                case rel => exact ⟨by rw [HNN.out]; simp; omega, rfl⟩
            · have h3i : ¬ (n : Int) ≥ 48 := by omega
              by_cases h5 : n = 45
              · subst h5
                go_wp2
                go_meet
                case rel => exact ⟨by rw [HNN.out]; simp, rfl⟩
              · have h9i : ¬ (n : Int) = 45 := by omega
                have h7i : ((n : Int) == 45) = false := by simp; omega
                have h8i : decide ((n : Int) = 45) = false := by simp; omega
                go_wp2
                go_meet
                case rel => exact ⟨by rw [HNN.out]; simp; omega, rfl⟩
      case rest =>
        obtain ⟨rfl, rfl⟩ := hcut
        clear hn hcn y0
        cases hcc : letC c with
        | true =>
          have HT := Lib.hid (env_take HA.out.2 HA.out.1 (by rw [← HC.out]; exact hcc))
          clear hcc
          go_wp2
          go_roundw
          case rel => exact ⟨i + 1, by simp, by omega, HT.out, by first | rfl | trivial⟩
          case measure => simp [natI]; omega
        | false =>
          have HT := Lib.hid (env_bad HA.out.2 (by rw [← HC.out]; exact hcc))
          clear hcc
          go_wp2
          refine bodyPost_ret (v := .bool false) (by simp [results, Tryz.results86, go_sem]) rfl ⟨by rw [HT.out], HB.out.1⟩
    · have hli : ¬ (i : Int) < (s.length : Int) := by omega
      have hie : i = s.length := by omega
      rw [hie] at ha
      have HE := Lib.hid (env_all ha)
      clear ha hie
      by_cases h32 : s.length ≤ 32
      · have h32i : (s.length : Int) ≤ 32 := by omega
        go_wp2
        refine bodyPost_ret (v := .bool true) (by simp [results, Tryz.results86, go_sem]) rfl ⟨by rw [HE.out]; simp [h32], HB.out.1⟩
      · have h32i : ¬ (s.length : Int) ≤ 32 := by omega
        go_wp2
        refine bodyPost_ret (v := .bool false) (by simp [results, Tryz.results86, go_sem]) rfl ⟨by rw [HE.out]; simp [h32], HB.out.1⟩
end Go.Proofs.YtlpngibdplnieaaGreatDoor

/- notice: May. -/
namespace Go.Proofs.YtlpngibdplnieaaGreatDoor
open Go Go.RowKit Go.Shelf Go.Sort
attribute [local go_sem] bneI

theorem flbox {W : World} {b : Nat} {v0 v1 v2 : Value} {t : TypeId} (h : W.heap[b]? = some (.cells #[v0, v1, v2] t (0, 0))) : W.cell? ⟨b, 0, none⟩ = some v0 ∧ W.cell? ⟨b, 1, none⟩ = some v1 ∧ W.cell? ⟨b, 2, none⟩ = some v2 := by
  refine ⟨?_, ?_, ?_⟩ <;> simp [World.cell?, h]
theorem nobox {W : World} {b : Nat} {v0 v1 v2 v3 v4 v5 : Value} {t : TypeId} (h : W.heap[b]? = some (.cells #[v0, v1, v2, v3, v4, v5] t (0, 0))) : W.cell? ⟨b, 0, none⟩ = some v0 ∧ W.cell? ⟨b, 1, none⟩ = some v1 ∧ W.cell? ⟨b, 2, none⟩ = some v2 ∧ W.cell? ⟨b, 3, none⟩ = some v3 ∧ W.cell? ⟨b, 4, none⟩ = some v4 ∧ W.cell? ⟨b, 5, none⟩ = some v5 := by
  refine ⟨?_, ?_, ?_, ?_, ?_, ?_⟩ <;> simp [World.cell?, h]
structure ShortF (f : FlP) : Prop where
  dest : f.dest.length ≤ 1000000
  status : f.status.length ≤ 1000000
  text : f.text.length ≤ 1000000
structure ShortN (n : NotP) : Prop where
  host : n.host.length ≤ maxLen
  dest : n.dest.length ≤ 1000000
  envid : n.envid.length ≤ 1000000
  failed : n.failed.length ≤ 1000000
  each : ∀ f ∈ n.failed, ShortF f
theorem enterMay1 : ∀ args w, (callFunc 88 args).run Tryz.prog w = .ok (.enter 88 args) w := enters_of Tryz.func88 (by kernel_rfl) rfl
set_option maxRecDepth 100000 in
set_option maxHeartbeats 4000000 in
theorem mayF_any (f : FlP) (w : World) (hs : ShortF f) (hE : Env w) : Calls Tryz.prog 88 (#[.agg (flE f).toArray] ++ #[]) w fun e w' => e = .returned (.bool (badFl f)) ∧ Below w.heap.size w w' := by
  obtain ⟨d, st, tx⟩ := f
  obtain ⟨hd, hst, htx⟩ := hs
  dsimp only at hd hst htx
  show Calls Tryz.prog 88 #[.agg #[.string ⟨d.toArray⟩, .string ⟨st.toArray⟩, .string ⟨tx.toArray⟩]] w _
  obtain ⟨W1, hW1⟩ : ∃ W1, W1 = (w.alloc (.cells #[.string ⟨d.toArray⟩, .string ⟨st.toArray⟩, .string ⟨tx.toArray⟩] 55)) := ⟨_, rfl⟩
  have hB1 : Below w.heap.size w W1 := by rw [hW1]; exact (Below.refl _ w).alloc (Nat.le_refl _) _
  have hb1 : W1.heap[w.heap.size]? = some (.cells #[.string ⟨d.toArray⟩, .string ⟨st.toArray⟩, .string ⟨tx.toArray⟩] 55 (0, 0)) := by rw [hW1]; exact ha_eq rfl
  obtain ⟨x0, x1, x2⟩ := flbox hb1
  have hx0 := BW.cell x0
  have hx1 := BW.cell x1
  have hx2 := BW.cell x2
  have hA := BW.calls (w := W1) (fun W hW => addrMay_any d W hd ((hE.keep hB1).keep hW))
  have hS := BW.calls (w := W1) (fun W hW => status_any st W hst ((hE.keep hB1).keep hW))
  have hW := BW.calls (w := W1) (fun W _ => word_any tx W (by unfold maxLen; omega))
  have HB := Lib.hid hB1
  have hbad : badFl ⟨d, st, tx⟩ = (!addrB d || (!statusB st || decide (wordB tx ≠ tx))) := rfl
  clear hB1 hb1 x0 x1 x2 hd hst htx hE
  have hfin : ∀ (W : World), (∃ p : BW W1, W = p.v) → Below w.heap.size w W := fun W hp => by
    obtain ⟨p, rfl⟩ := hp
    exact HB.out.trans (p.h.mono HB.out.size)
  have HF := Lib.hid hfin
  have HBAD := Lib.hid hbad
  clear hfin hbad
  generalize wordB tx = u at *
  generalize addrB d = ba at *
  generalize statusB st = bs at *
  cases ba with
  | false =>
    go_enter Tryz.func88, Tryz.ntmps88
    go_upto_region 1 with (fail)
    rw [← hW1]
    clear hW1
    refine wp_region_quiet_below (by kernel_rfl) (by kernel_rfl) ?_
    repeat (go_big_quiet_step (first | exact hA _ | exact hS _ | exact hW _))
    refine wpQuiet_nil ?_
    intro w5 hw'
    have H5 := Lib.hid (HF.out w5 hw')
    clear hw' hx0 hx1 hx2 hA hS hW
    go_wp2
    refine bodyPost_ret (v := .bool true) (by simp [results, Tryz.results88, go_sem]) rfl ⟨by rw [HBAD.out]; simp, H5.out⟩
  | true =>
    cases bs with
    | false =>
      go_enter Tryz.func88, Tryz.ntmps88
      go_upto_region 1 with (fail)
      rw [← hW1]
      clear hW1
      refine wp_region_quiet_below (by kernel_rfl) (by kernel_rfl) ?_
      repeat (go_big_quiet_step (first | exact hA _ | exact hS _ | exact hW _))
      refine wpQuiet_nil ?_
      intro w5 hw'
      have H5 := Lib.hid (HF.out w5 hw')
      clear hw' hx0 hx1 hx2 hA hS hW
      go_wp2
      refine bodyPost_ret (v := .bool true) (by simp [results, Tryz.results88, go_sem]) rfl ⟨by rw [HBAD.out]; simp, H5.out⟩
    | true =>
      by_cases hu : u = tx
      · subst hu
        go_enter Tryz.func88, Tryz.ntmps88
        go_upto_region 1 with (fail)
        rw [← hW1]
        clear hW1
        refine wp_region_quiet_below (by kernel_rfl) (by kernel_rfl) ?_
        repeat (go_big_quiet_step (first | exact hA _ | exact hS _ | exact hW _))
        refine wpQuiet_nil ?_
        intro w5 hw'
        have H5 := Lib.hid (HF.out w5 hw')
        clear hw' hx0 hx1 hx2 hA hS hW
        go_wp2
        refine bodyPost_ret (v := .bool false) (by simp [results, Tryz.results88, go_sem]) rfl ⟨by rw [HBAD.out]; simp, H5.out⟩
      · have hu2 : (u == tx) = false := by simpa using hu
        go_enter Tryz.func88, Tryz.ntmps88
        go_upto_region 1 with (fail)
        rw [← hW1]
        clear hW1
        refine wp_region_quiet_below (by kernel_rfl) (by kernel_rfl) ?_
        repeat (go_big_quiet_step (first | exact hA _ | exact hS _ | exact hW _))
        refine wpQuiet_nil ?_
        intro w5 hw'
        have H5 := Lib.hid (HF.out w5 hw')
        clear hw' hx0 hx1 hx2 hA hS hW
        go_wp2
        refine bodyPost_ret (v := .bool true) (by simp [results, Tryz.results88, go_sem]) rfl ⟨by rw [HBAD.out]; simp [hu], H5.out⟩
set_option maxRecDepth 100000 in
set_option maxHeartbeats 1000000 in
theorem ixFl_any (xs : List FlP) (v : Value) (w : World) (hr : RowK 3 flE w v xs) (hn : xs.length ≤ 1000000) (hs : ∀ x ∈ xs, ShortF x) (hE : Env w) :
    Calls Tryz.prog 128 #[v, .func (.func 88) #[] #[]] w fun e w' => IxPost badFl xs e ∧ Below w.heap.size w w' := by
  obtain ⟨p, c, rfl, -⟩ := hr.sh
  have HF := Lib.hid (And.intro hr (And.intro hs hE))
  clear hr hs hE
  go_enter Tryz.func128, Tryz.ntmps128
  go_wp2_with fail
  go_loopw [8] (fun iv wr => ∃ i : Nat, iv = .int .i64 (i : Int) ∧ i ≤ xs.length ∧ (∀ (j : Nat) (hj : j < xs.length), j < i → badFl xs[j] = false) ∧ Below w.heap.size w wr) (fun iv _ => xs.length - natI iv)
  case atStart => exact ⟨0, rfl, Nat.zero_le _, fun j hj h => absurd h (Nat.not_lt_zero _), Below.refl _ _⟩
  case round =>
    obtain ⟨i, rfl, hi, hno, hB⟩ := hrel
    by_cases hlast : i < xs.length
    · have hli : (i : Int) < (xs.length : Int) := by omega
      obtain ⟨b, o, rfl, hc⟩ := (HF.out.1.below hB).at i hlast
      have hc' := hc i hlast
      have y0 : wr.cell? ⟨b, o + i * 3, none⟩ = some (.string ⟨xs[i].dest.toArray⟩) := hc' 0 _ rfl
      have y1 : wr.cell? ⟨b, o + i * 3 + 1, none⟩ = some (.string ⟨xs[i].status.toArray⟩) := hc' 1 _ rfl
      have y2 : wr.cell? ⟨b, o + i * 3 + 2, none⟩ = some (.string ⟨xs[i].text.toArray⟩) := hc' 2 _ rfl
      have hcl := mayF_any xs[i] wr (HF.out.2.1 _ (List.getElem_mem hlast)) (HF.out.2.2.keep hB)
      have HR := Lib.hid (And.intro hno hB)
      clear hc hc' hno hB
      obtain ⟨x, hx⟩ : ∃ x, x = xs[i] := ⟨_, rfl⟩
      rw [← hx] at y0 y1 y2 hcl
      have hfx : ∀ r : Bool, badFl x = r → badFl xs[i] = r := fun r h => by rw [← hx]; exact h
      have HX := Lib.hid hfx
      clear hx hfx
      unfold flE at hcl
      have hrun : Sem.run Tryz.prog (callFunc 88 (#[.agg #[.string ⟨x.dest.toArray⟩, .string ⟨x.status.toArray⟩, .string ⟨x.text.toArray⟩]] ++ #[])) wr = .ok (.enter 88 (#[.agg #[.string ⟨x.dest.toArray⟩, .string ⟨x.status.toArray⟩, .string ⟨x.text.toArray⟩]] ++ #[])) wr := enterMay1 _ _
      go_wp2_with fail
      refine hcl.mono ?_
      rintro e w1 ⟨rfl, hb⟩
      have HB := Lib.hid (HR.out.2.trans (hb.mono HR.out.2.size))
      clear hrun hcl hb y0 y1 y2
      cases hf : badFl x with
      | true =>
        have HN := Lib.hid (HX.out _ hf)
        clear hf
        go_wp2
        refine bodyPost_ret (v := .int .i64 (i : Int)) (by simp [results, Tryz.results128, go_sem]) rfl ⟨.inr ⟨i, hlast, rfl, HN.out, fun j hj h => HR.out.1 j hj h⟩, HB.out⟩
      | false =>
        have HN := Lib.hid (HX.out _ hf)
        clear hf
        go_wp2
        go_roundw
        case rel => exact ⟨i + 1, by simp, by omega, fun j hj h => by
          by_cases e : j = i
          · subst e; exact HN.out
          · exact HR.out.1 j hj (by omega), HB.out⟩
        case measure => simp [natI]; omega
    · have hli : ¬ (i : Int) < (xs.length : Int) := by omega
      have hil : xs.length ≤ i := by omega
      have HN := Lib.hid (And.intro hno (And.intro hB hil))
      clear hno hB hil
      go_wp2
      refine bodyPost_ret (v := .int .i64 (-1)) (by simp [results, Tryz.results128, go_sem]) rfl ⟨.inl ⟨rfl, fun j hj => HN.out.1 j hj (by have := HN.out.2.2; omega)⟩, HN.out.2.1⟩
set_option maxRecDepth 100000 in
theorem hasFl_any (xs : List FlP) (v : Value) (w : World) (hr : RowK 3 flE w v xs) (hn : xs.length ≤ 1000000) (hs : ∀ x ∈ xs, ShortF x) (hE : Env w) :
    Calls Tryz.prog 87 #[v, .func (.func 88) #[] #[]] w fun e w' => e = .returned (.bool (xs.any badFl)) ∧ Below w.heap.size w w' := by
  have hI := ixFl_any xs v w hr hn hs hE
  clear hr hs hE
  go_enter Tryz.func87, Tryz.ntmps87
  go_wp2_with fail
  refine hI.mono ?_
  rintro e w1 ⟨hP, hb⟩
  obtain ⟨k, rfl, hk⟩ := hP.int
  have HB := Lib.hid (And.intro hk hb)
  clear hk hb hP hI
  go_wp2
  refine bodyPost_ret (v := .bool (decide (0 ≤ k))) (by simp [results, Tryz.results87, go_sem]) rfl ⟨by rw [HB.out.1], HB.out.2⟩
set_option maxRecDepth 100000 in
set_option maxHeartbeats 4000000 in
theorem mayNot_any (n : NotP) (fv : Value) (w : World) (hf : RowK 3 flE w fv n.failed) (hs : ShortN n) (hE : Env w) : Calls Tryz.prog 31 #[notV n fv] w fun e w' => e = .returned (.bool (mayNot n)) ∧ Below w.heap.size w w' := by
  obtain ⟨p, c, rfl, -⟩ := hf.sh
  obtain ⟨W1, hW1⟩ : ∃ W1, W1 = (w.alloc (.cells (notC n (.slice p n.failed.length c)).toArray 34)) := ⟨_, rfl⟩
  have hB1 : Below w.heap.size w W1 := by rw [hW1]; exact (Below.refl _ w).alloc (Nat.le_refl _) _
  have hb1 : W1.heap[w.heap.size]? = some (.cells (notC n (.slice p n.failed.length c)).toArray 34 (0, 0)) := by rw [hW1]; exact ha_eq rfl
  have HX := Lib.hid (And.intro (hf.below hB1) (And.intro hs (And.intro (hE.keep hB1) (And.intro hB1 hb1))))
  unfold notV
  unfold notC at hW1 ⊢
  have hmn : mayNot n = (decide (0 < n.id) && (clockB n.id && (clockB n.at_ && (mayB n.host && (addrB n.dest && (envidB n.envid && (decide (0 < n.failed.length) && (decide (n.failed.length ≤ 4) && !n.failed.any badFl)))))))) := rfl
  obtain ⟨mn, hmm⟩ : ∃ mn, mn = mayNot n := ⟨_, rfl⟩
  rw [← hmm] at hmn ⊢
  clear hf hs hE hB1 hb1 hmm
  have H1 := Lib.hid (Below.refl W1.heap.size W1)
  go_enter Tryz.func31, Tryz.ntmps31
  go_upto_region 1 with (fail)
  rw [← hW1]
  clear hW1
  by_cases hid : 0 < n.id
  · rw [decide_eq_true hid] at hmn
    have hidg : n.id > 0 := hid
    have hC := clockN_any n.id W1
    have hbx := (H1.out.block _ (lt_of_cells HX.out.2.2.2.2)).trans HX.out.2.2.2.2
    unfold notC at hbx
    obtain ⟨x0, x1, x2, x3, x4, x5⟩ := nobox hbx
    clear hbx
    go_wp2_with fail
    refine hC.mono ?_
    rintro e w2 ⟨rfl, hb⟩
    have H2 := Lib.hid (H1.out.trans (hb.mono H1.out.size))
    clear hC hb
    clear x0 x1 x2 x3 x4 x5
    cases hv : clockB n.id with
    | false =>
      rw [hv] at hmn
      have HMN := Lib.hid hmn
      clear hmn
      go_wp2
      refine bodyPost_ret (v := .bool false) (by simp [results, Tryz.results31, go_sem]) rfl ⟨by rw [HMN.out]; simp, HX.out.2.2.2.1.trans (H2.out.mono HX.out.2.2.2.1.size)⟩
    | true =>
      rw [hv] at hmn
      have hC := clockN_any n.at_ w2
      have hbx := (H2.out.block _ (lt_of_cells HX.out.2.2.2.2)).trans HX.out.2.2.2.2
      unfold notC at hbx
      obtain ⟨x0, x1, x2, x3, x4, x5⟩ := nobox hbx
      clear hbx
      go_wp2_with fail
      refine hC.mono ?_
      rintro e w3 ⟨rfl, hb⟩
      have H3 := Lib.hid (H2.out.trans (hb.mono H2.out.size))
      clear hC hb
      clear x0 x1 x2 x3 x4 x5
      cases hv : clockB n.at_ with
      | false =>
        rw [hv] at hmn
        have HMN := Lib.hid hmn
        clear hmn
        go_wp2
        refine bodyPost_ret (v := .bool false) (by simp [results, Tryz.results31, go_sem]) rfl ⟨by rw [HMN.out]; simp, HX.out.2.2.2.1.trans (H3.out.mono HX.out.2.2.2.1.size)⟩
      | true =>
        rw [hv] at hmn
        have hC := nameMay_any ⟨n.host.toArray⟩ w3 (show n.host.length ≤ maxLen from HX.out.2.1.host) (HX.out.2.2.1.keep H3.out).glob
        have hCe : (⟨n.host.toArray⟩ : ByteArray).data.toList = n.host := rfl
        rw [hCe] at hC
        clear hCe
        have hbx := (H3.out.block _ (lt_of_cells HX.out.2.2.2.2)).trans HX.out.2.2.2.2
        unfold notC at hbx
        obtain ⟨x0, x1, x2, x3, x4, x5⟩ := nobox hbx
        clear hbx
        go_wp2_with fail
        refine hC.mono ?_
        rintro e w4 ⟨rfl, hb⟩
        have H4 := Lib.hid (H3.out.trans (hb.mono H3.out.size))
        clear hC hb
        clear x0 x1 x2 x3 x4 x5
        cases hv : mayB n.host with
        | false =>
          rw [hv] at hmn
          have HMN := Lib.hid hmn
          clear hmn
          go_wp2
          refine bodyPost_ret (v := .bool false) (by simp [results, Tryz.results31, go_sem]) rfl ⟨by rw [HMN.out]; simp, HX.out.2.2.2.1.trans (H4.out.mono HX.out.2.2.2.1.size)⟩
        | true =>
          rw [hv] at hmn
          have hC := addrMay_any n.dest w4 HX.out.2.1.dest (HX.out.2.2.1.keep H4.out)
          have hbx := (H4.out.block _ (lt_of_cells HX.out.2.2.2.2)).trans HX.out.2.2.2.2
          unfold notC at hbx
          obtain ⟨x0, x1, x2, x3, x4, x5⟩ := nobox hbx
          clear hbx
          go_wp2_with fail
          refine hC.mono ?_
          rintro e w5 ⟨rfl, hb⟩
          have H5 := Lib.hid (H4.out.trans (hb.mono H4.out.size))
          clear hC hb
          clear x0 x1 x2 x3 x4 x5
          cases hv : addrB n.dest with
          | false =>
            rw [hv] at hmn
            have HMN := Lib.hid hmn
            clear hmn
            go_wp2
            refine bodyPost_ret (v := .bool false) (by simp [results, Tryz.results31, go_sem]) rfl ⟨by rw [HMN.out]; simp, HX.out.2.2.2.1.trans (H5.out.mono HX.out.2.2.2.1.size)⟩
          | true =>
            rw [hv] at hmn
            have hC := envid_any n.envid w5 HX.out.2.1.envid
            have hbx := (H5.out.block _ (lt_of_cells HX.out.2.2.2.2)).trans HX.out.2.2.2.2
            unfold notC at hbx
            obtain ⟨x0, x1, x2, x3, x4, x5⟩ := nobox hbx
            clear hbx
            go_wp2_with fail
            refine hC.mono ?_
            rintro e w6 ⟨rfl, hb⟩
            have H6 := Lib.hid (H5.out.trans (hb.mono H5.out.size))
            clear hC hb
            clear x0 x1 x2 x3 x4 x5
            cases hv : envidB n.envid with
            | false =>
              rw [hv] at hmn
              have HMN := Lib.hid hmn
              clear hmn
              go_wp2
              refine bodyPost_ret (v := .bool false) (by simp [results, Tryz.results31, go_sem]) rfl ⟨by rw [HMN.out]; simp, HX.out.2.2.2.1.trans (H6.out.mono HX.out.2.2.2.1.size)⟩
            | true =>
              rw [hv] at hmn
              have hbx := (H6.out.block _ (lt_of_cells HX.out.2.2.2.2)).trans HX.out.2.2.2.2
              unfold notC at hbx
              obtain ⟨x0, x1, x2, x3, x4, x5⟩ := nobox hbx
              clear hbx
              by_cases hl0 : 0 < n.failed.length
              · by_cases hl4 : n.failed.length ≤ 4
                · have hl0i : (0 : Int) < (n.failed.length : Int) := by omega
                  have hl4i : (n.failed.length : Int) ≤ 4 := by omega
                  have hl0j : (n.failed.length : Int) > 0 := by omega
                  have hC := hasFl_any n.failed _ w6 (HX.out.1.below H6.out) HX.out.2.1.failed HX.out.2.1.each (HX.out.2.2.1.keep H6.out)
                  rw [decide_eq_true hl0, decide_eq_true hl4] at hmn
                  go_wp2_with fail
                  refine hC.mono ?_
                  rintro e w7 ⟨rfl, hb⟩
                  have H7 := Lib.hid (H6.out.trans (hb.mono H6.out.size))
                  clear hC hb
                  clear x0 x1 x2 x3 x4 x5
                  have HMN := Lib.hid hmn
                  clear hmn
                  generalize n.failed.any badFl = ba at HMN ⊢
                  go_wp2
                  refine bodyPost_ret (v := .bool (!ba)) (by simp [results, Tryz.results31, go_sem]) rfl ⟨by rw [HMN.out]; simp, HX.out.2.2.2.1.trans (H7.out.mono HX.out.2.2.2.1.size)⟩
                · have hl0i : (0 : Int) < (n.failed.length : Int) := by omega
                  have hl4i : ¬ (n.failed.length : Int) ≤ 4 := by omega
                  have hl0j : (n.failed.length : Int) > 0 := by omega
                  rw [decide_eq_false hl4] at hmn
                  have HMN := Lib.hid hmn
                  clear hmn
                  go_wp2
                  refine bodyPost_ret (v := .bool false) (by simp [results, Tryz.results31, go_sem]) rfl ⟨by rw [HMN.out]; simp, HX.out.2.2.2.1.trans (H6.out.mono HX.out.2.2.2.1.size)⟩
              · have hl0i : ¬ (0 : Int) < (n.failed.length : Int) := by omega
                have hl0j : ¬ (n.failed.length : Int) > 0 := by omega
                rw [decide_eq_false hl0] at hmn
                have HMN := Lib.hid hmn
                clear hmn
                go_wp2
                refine bodyPost_ret (v := .bool false) (by simp [results, Tryz.results31, go_sem]) rfl ⟨by rw [HMN.out]; simp, HX.out.2.2.2.1.trans (H6.out.mono HX.out.2.2.2.1.size)⟩
  · rw [decide_eq_false hid] at hmn
    have hidg : ¬ n.id > 0 := hid
    have HMN := Lib.hid hmn
    clear hmn
    have hbx := (H1.out.block _ (lt_of_cells HX.out.2.2.2.2)).trans HX.out.2.2.2.2
    unfold notC at hbx
    obtain ⟨x0, x1, x2, x3, x4, x5⟩ := nobox hbx
    clear hbx
    go_wp2
    refine bodyPost_ret (v := .bool false) (by simp [results, Tryz.results31, go_sem]) rfl ⟨by rw [HMN.out]; simp, HX.out.2.2.2.1.trans (H1.out.mono HX.out.2.2.2.1.size)⟩
end Go.Proofs.YtlpngibdplnieaaGreatDoor
