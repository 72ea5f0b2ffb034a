/- Parts of the proof, joined: Eclone, Eset, Eof, Eplc, Ewts, Ecda, Ecdb. -/
import Derived.Test.YtlpngibdplnieaaGreatDoorMc
import Derived.Lib.MinMax
import Derived.StillTailTactics
import Derived.Test.YtlpngibdplnieaaGreatDoorRows
import Derived.ProofKit
import Derived.OpenShut
import Derived.Stop.Joined
import Derived.HandedShaped
import Derived.LaidMore
import Derived.Shelf.Vars
import Derived.Deep.Slices
import Derived.Deep.Fields
import Derived.LaidHandle
import Derived.LaidSub
import Derived.Lay
/- slices.Clone of rows of structs. -/
namespace Go.Proofs.YtlpngibdplnieaaGreatDoor
open Go Go.RowKit Go.Shelf Go.Sort
attribute [local go_sem] bneI

theorem flat_len {α : Type} {k : Nat} {enc : α → List Value} (h : ∀ x, (enc x).length = k) : ∀ xs : List α, (xs.flatMap enc).length = xs.length * k
  | [] => by simp
  | x :: l => by rw [List.flatMap_cons, List.length_append, h, flat_len h l, List.length_cons, Nat.succ_mul, Nat.add_comm]
theorem flat_get {α : Type} {k : Nat} {enc : α → List Value} (h : ∀ x, (enc x).length = k) (hk : 0 < k) : ∀ (xs : List α) (j : Nat) (u : Value), (xs.flatMap enc)[j]? = some u → ∃ (hi : j / k < xs.length), (enc xs[j / k])[j % k]? = some u
  | [], j, u, hj => by simp at hj
  | x :: l, j, u, hj => by
    rw [List.flatMap_cons] at hj
    by_cases hlt : j < k
    · rw [List.getElem?_append_left (by rw [h]; exact hlt)] at hj
      have e1 : j / k = 0 := Nat.div_eq_of_lt hlt
      have e2 : j % k = j := Nat.mod_eq_of_lt hlt
      refine ⟨by simp [e1], ?_⟩
      simp only [e1, e2, List.getElem_cons_zero]
      exact hj
    · obtain ⟨m, rfl⟩ : ∃ m, j = m + k := ⟨j - k, by omega⟩
      rw [List.getElem?_append_right (by rw [h]; omega), h, Nat.add_sub_cancel] at hj
      obtain ⟨hi, he⟩ := flat_get h hk l m u hj
      have e1 : (m + k) / k = m / k + 1 := Nat.add_div_right m hk
      have e2 : (m + k) % k = m % k := Nat.add_mod_right m k
      refine ⟨by rw [e1]; simpa using hi, ?_⟩
      simp only [e1, e2, List.getElem_cons_succ]
      exact he
theorem RowK.rowIn {α : Type} {k : Nat} {enc : α → List Value} {w : World} {a : Addr} {n c : Nat} {xs : List α} (hr : RowK k enc w (.slice (some a) n c) xs) (h : ∀ x, (enc x).length = k) (hk : 0 < k) : RowIn w w.heap.size (.slice (some a) n c) n (xs.flatMap enc) := by
  have hcell : ∀ j u, (xs.flatMap enc)[j]? = some u → w.cell? (a.add j) = some u := fun j u hj => by
    obtain ⟨hi, he⟩ := flat_get h hk xs j u hj
    obtain ⟨b, o, e, hx⟩ := hr.at _ hi
    cases e
    rw [addrk]
    have := hx _ hi _ _ he
    rw [Nat.add_assoc, Nat.div_add_mod'] at this
    exact this
  refine .inr ⟨a, c, rfl, fun hne => ?_, hcell⟩
  obtain ⟨u, l, hul⟩ := List.exists_cons_of_ne_nil hne
  have h0 := cell_lt (hcell 0 u (by rw [hul]; rfl))
  unfold Addr.add at h0
  simpa using h0
/-- What Clone hands back: its own row. -/
def ClonePost {α : Type} (k : Nat) (enc : α → List Value) (T : TypeId) (w : World) (xs : List α) (e : Ending) (w' : World) : Prop := ∃ v, e = .returned v ∧ w'.ownsRow w.heap.size T k v xs.length (xs.flatMap enc) ∧ Below w.heap.size w w'

set_option maxRecDepth 100000 in
set_option maxHeartbeats 1000000 in
theorem cloneRcpt_any (xs : List RcP) (v : Value) (w : World) (hr : RowK 2 rcE w v xs) (hn : xs.length ≤ 1000000) :
    Calls Tryz.prog 39 #[v] w fun e w' => ClonePost 2 rcE 57 w xs e w' := by
  obtain ⟨p, c, rfl, hc⟩ := hr.sh
  have hinfo : (Tryz.prog.info? 57).map (fun i => (i.zero, i.size, i.bytes)) = some (some (.agg #[.string ⟨#[]⟩, .bool false]), 2, 24) := by kernel_rfl
  obtain ⟨i9, hi9, hr0, hr1, hr2⟩ := info_parts hinfo
  have q : ∀ (w : World) (a : Option Addr) (n c n' c' : Nat), (binOp .eql 22 (.slice a n c) (.slice none n' c')).run Tryz.prog w = .ok (.bool a.isNone) w := fun w a n c n' c' => Lib.run_eql_slice_nil w _ 57 a n c n' c' (by kernel_rfl)
  cases p with
  | none =>
    have h0 : xs = [] := by
      cases xs with
      | nil => rfl
      | cons x l =>
        obtain ⟨b, o, e, _⟩ := hr.at 0 (by simp)
        cases e
    subst h0
    clear hr
    go_enter Tryz.func39, Tryz.ntmps39
    go_wp2
    refine bodyPost_ret (v := .slice none 0 0) (by simp [results, Tryz.results39, go_sem]) rfl ⟨_, rfl, ⟨rfl, .inl ⟨rfl, rfl⟩⟩, Below.refl _ _⟩
  | some a =>
    have hR := hr.rowIn (fun x => by rfl) (by decide)
    have hfl := flat_len (enc := rcE) (k := 2) (fun x => by rfl) xs
    have hone : ∀ u ∈ xs.flatMap rcE, u.oneCell' = true := fun u hu => by
      obtain ⟨x, _, hx⟩ := List.mem_flatMap.1 hu
      simp [rcE] at hx
      rcases hx with rfl | rfl <;> rfl
    have HR := Lib.hid (And.intro hR (And.intro hfl hone))
    clear hr hR hfl hone
    go_enter Tryz.func39, Tryz.ntmps39
    go_wp2_with (at_builtin; refine Bx.h ?_)
    refine ⟨?_⟩
    refine wpList_append_any rfl _ _ 22 rfl w.heap.size 57 i9 (.agg #[.string ⟨#[]⟩, .bool false]) 2 24 Tryz.underlying22 hi9 hr0 hr1 hr2 rfl (by decide) (.slice (some ⟨w.heap.size, 0, none⟩) 0 0) 0 [] rfl (own_empty (heap_new rfl) (Nat.le_refl _)) w.heap.size _ xs.length (xs.flatMap rcE) rfl (HR.out.1.below ((Below.refl _ _).alloc (Nat.le_refl _) _)) HR.out.2.1 HR.out.2.2 (by unfold maxLen; omega) (by omega) (by simp) ?_
    intro v' w3 hown hgrow hge hor
    have hB3 : Below w.heap.size w w3 := ((Below.refl _ w).alloc (Nat.le_refl _) _).grown hgrow (by simp) (fun k e => hge k e)
    rw [List.nil_append, Nat.zero_add] at hown
    have HZ := Lib.hid (And.intro hown hB3)
    clear hown hgrow hge hor hB3
    go_wp2
    refine bodyPost_ret (v := v') (by simp [results, Tryz.results39, go_sem]) rfl ⟨_, rfl, HZ.out.1, HZ.out.2⟩

set_option maxRecDepth 100000 in
set_option maxHeartbeats 1000000 in
theorem cloneFate_any (xs : List FaP) (v : Value) (w : World) (hr : RowK 2 faE w v xs) (hn : xs.length ≤ 1000000) :
    Calls Tryz.prog 40 #[v] w fun e w' => ClonePost 2 faE 61 w xs e w' := by
  obtain ⟨p, c, rfl, hc⟩ := hr.sh
  have hinfo : (Tryz.prog.info? 61).map (fun i => (i.zero, i.size, i.bytes)) = some (some (.agg #[.int .u8 0, .string ⟨#[]⟩]), 2, 24) := by kernel_rfl
  obtain ⟨i9, hi9, hr0, hr1, hr2⟩ := info_parts hinfo
  have q : ∀ (w : World) (a : Option Addr) (n c n' c' : Nat), (binOp .eql 25 (.slice a n c) (.slice none n' c')).run Tryz.prog w = .ok (.bool a.isNone) w := fun w a n c n' c' => Lib.run_eql_slice_nil w _ 61 a n c n' c' (by kernel_rfl)
  cases p with
  | none =>
    have h0 : xs = [] := by
      cases xs with
      | nil => rfl
      | cons x l =>
        obtain ⟨b, o, e, _⟩ := hr.at 0 (by simp)
        cases e
    subst h0
    clear hr
    go_enter Tryz.func40, Tryz.ntmps40
    go_wp2
    refine bodyPost_ret (v := .slice none 0 0) (by simp [results, Tryz.results40, go_sem]) rfl ⟨_, rfl, ⟨rfl, .inl ⟨rfl, rfl⟩⟩, Below.refl _ _⟩
  | some a =>
    have hR := hr.rowIn (fun x => by rfl) (by decide)
    have hfl := flat_len (enc := faE) (k := 2) (fun x => by rfl) xs
    have hone : ∀ u ∈ xs.flatMap faE, u.oneCell' = true := fun u hu => by
      obtain ⟨x, _, hx⟩ := List.mem_flatMap.1 hu
      simp [faE] at hx
      rcases hx with rfl | rfl <;> rfl
    have HR := Lib.hid (And.intro hR (And.intro hfl hone))
    clear hr hR hfl hone
    go_enter Tryz.func40, Tryz.ntmps40
    go_wp2_with (at_builtin; refine Bx.h ?_)
    refine ⟨?_⟩
    refine wpList_append_any rfl _ _ 25 rfl w.heap.size 61 i9 (.agg #[.int .u8 0, .string ⟨#[]⟩]) 2 24 Tryz.underlying25 hi9 hr0 hr1 hr2 rfl (by decide) (.slice (some ⟨w.heap.size, 0, none⟩) 0 0) 0 [] rfl (own_empty (heap_new rfl) (Nat.le_refl _)) w.heap.size _ xs.length (xs.flatMap faE) rfl (HR.out.1.below ((Below.refl _ _).alloc (Nat.le_refl _) _)) HR.out.2.1 HR.out.2.2 (by unfold maxLen; omega) (by omega) (by simp) ?_
    intro v' w3 hown hgrow hge hor
    have hB3 : Below w.heap.size w w3 := ((Below.refl _ w).alloc (Nat.le_refl _) _).grown hgrow (by simp) (fun k e => hge k e)
    rw [List.nil_append, Nat.zero_add] at hown
    have HZ := Lib.hid (And.intro hown hB3)
    clear hown hgrow hge hor hB3
    go_wp2
    refine bodyPost_ret (v := v') (by simp [results, Tryz.results40, go_sem]) rfl ⟨_, rfl, HZ.out.1, HZ.out.2⟩

set_option maxRecDepth 100000 in
set_option maxHeartbeats 1000000 in
theorem cloneJob_any (xs : List JoP) (v : Value) (w : World) (hr : RowK 3 joE w v xs) (hn : xs.length ≤ 1000000) :
    Calls Tryz.prog 41 #[v] w fun e w' => ClonePost 3 joE 71 w xs e w' := by
  obtain ⟨p, c, rfl, hc⟩ := hr.sh
  have hinfo : (Tryz.prog.info? 71).map (fun i => (i.zero, i.size, i.bytes)) = some (some (.agg #[.string ⟨#[]⟩, .int .i64 0, .int .i64 0]), 3, 32) := by kernel_rfl
  obtain ⟨i9, hi9, hr0, hr1, hr2⟩ := info_parts hinfo
  have q : ∀ (w : World) (a : Option Addr) (n c n' c' : Nat), (binOp .eql 26 (.slice a n c) (.slice none n' c')).run Tryz.prog w = .ok (.bool a.isNone) w := fun w a n c n' c' => Lib.run_eql_slice_nil w _ 71 a n c n' c' (by kernel_rfl)
  cases p with
  | none =>
    have h0 : xs = [] := by
      cases xs with
      | nil => rfl
      | cons x l =>
        obtain ⟨b, o, e, _⟩ := hr.at 0 (by simp)
        cases e
    subst h0
    clear hr
    go_enter Tryz.func41, Tryz.ntmps41
    go_wp2
    refine bodyPost_ret (v := .slice none 0 0) (by simp [results, Tryz.results41, go_sem]) rfl ⟨_, rfl, ⟨rfl, .inl ⟨rfl, rfl⟩⟩, Below.refl _ _⟩
  | some a =>
    have hR := hr.rowIn (fun x => by rfl) (by decide)
    have hfl := flat_len (enc := joE) (k := 3) (fun x => by rfl) xs
    have hone : ∀ u ∈ xs.flatMap joE, u.oneCell' = true := fun u hu => by
      obtain ⟨x, _, hx⟩ := List.mem_flatMap.1 hu
      simp [joE] at hx
      rcases hx with rfl | rfl | rfl <;> rfl
    have HR := Lib.hid (And.intro hR (And.intro hfl hone))
    clear hr hR hfl hone
    go_enter Tryz.func41, Tryz.ntmps41
    go_wp2_with (at_builtin; refine Bx.h ?_)
    refine ⟨?_⟩
    refine wpList_append_any rfl _ _ 26 rfl w.heap.size 71 i9 (.agg #[.string ⟨#[]⟩, .int .i64 0, .int .i64 0]) 3 32 Tryz.underlying26 hi9 hr0 hr1 hr2 rfl (by decide) (.slice (some ⟨w.heap.size, 0, none⟩) 0 0) 0 [] rfl (own_empty (heap_new rfl) (Nat.le_refl _)) w.heap.size _ xs.length (xs.flatMap joE) rfl (HR.out.1.below ((Below.refl _ _).alloc (Nat.le_refl _) _)) HR.out.2.1 HR.out.2.2 (by unfold maxLen; omega) (by omega) (by simp) ?_
    intro v' w3 hown hgrow hge hor
    have hB3 : Below w.heap.size w w3 := ((Below.refl _ w).alloc (Nat.le_refl _) _).grown hgrow (by simp) (fun k e => hge k e)
    rw [List.nil_append, Nat.zero_add] at hown
    have HZ := Lib.hid (And.intro hown hB3)
    clear hown hgrow hge hor hB3
    go_wp2
    refine bodyPost_ret (v := v') (by simp [results, Tryz.results41, go_sem]) rfl ⟨_, rfl, HZ.out.1, HZ.out.2⟩
end Go.Proofs.YtlpngibdplnieaaGreatDoor

/- entry: the value of an entry; Settled. -/
namespace Go.Proofs.YtlpngibdplnieaaGreatDoor
open Go Go.RowKit Go.Shelf Go.Sort
attribute [local go_sem] bneI

/-- An entry. -/
structure EntP where
  id : Int
  at_ : Int
  mail : MailP
  plain : Bool
  fates : List FaP
  jobs : List JoP
  deriving DecidableEq
def entC (x : EntP) (sv fv jv : Value) : List Value := [.int .i64 x.id, .int .i64 x.at_, .string ⟨x.mail.sender.toArray⟩, sv, .bool x.mail.req, .string ⟨x.mail.envid.toArray⟩, .string ⟨x.mail.text.toArray⟩, .bool x.plain, fv, jv]
def entV (x : EntP) (sv fv jv : Value) : Value := .agg (entC x sv fv jv).toArray
/-- Its rows, wherever they lie. -/
structure EntAt (w : World) (x : EntP) (sv fv jv : Value) : Prop where
  rc : RowK 2 rcE w sv x.mail.rcpts
  fa : RowK 2 faE w fv x.fates
  jo : RowK 3 joE w jv x.jobs
theorem EntAt.below {w w' : World} {x : EntP} {sv fv jv : Value} (h : EntAt w x sv fv jv) (hb : Below w.heap.size w w') : EntAt w' x sv fv jv := ⟨h.rc.below hb, h.fa.below hb, h.jo.below hb⟩
structure ShortE (x : EntP) : Prop where
  mail : ShortM x.mail
  fates : x.fates.length ≤ 1000000
  jobs : x.jobs.length ≤ 1000000
  states : ∀ f ∈ x.fates, f.1 < 256
  texts : ∀ f ∈ x.fates, f.2.length ≤ 1000000
  doms : ∀ j ∈ x.jobs, j.dom.length ≤ 1000000
theorem ebox {W : World} {b : Nat} {v0 v1 v2 v3 v4 v5 v6 v7 v8 v9 : Value} {t : TypeId} (h : W.heap[b]? = some (.cells #[v0, v1, v2, v3, v4, v5, v6, v7, v8, v9] t (0, 0))) :
    W.cell? ⟨b, 3, none⟩ = some v3 ∧ W.cell? ⟨b, 8, none⟩ = some v8 ∧ W.cell? ⟨b, 9, none⟩ = some v9 := by
  refine ⟨?_, ?_, ?_⟩ <;> simp [World.cell?, h]

def waitB (f : FaP) : Bool := decide (f.1 = 0)
def settledB (x : EntP) : Bool := !x.fates.any waitB

theorem enterWait : ∀ args w, (callFunc 60 args).run Tryz.prog w = .ok (.enter 60 args) w := enters_of Tryz.func60 (by kernel_rfl) rfl

set_option maxRecDepth 100000 in
theorem waitF_any (f : FaP) (w : World) : Calls Tryz.prog 60 (#[.agg (faE f).toArray] ++ #[]) w fun e w' => e = .returned (.bool (waitB f)) ∧ Below w.heap.size w w' := by
  unfold faE
  have hB : Below w.heap.size w (w.alloc (.cells #[.int .u8 (f.1 : Int), .string ⟨f.2.toArray⟩] 61)) := (Below.refl _ w).alloc (Nat.le_refl _) _
  have HB := Lib.hid hB
  clear hB
  by_cases h0 : f.1 = 0
  · have hw : waitB f = true := by simp [waitB, h0]
    have hd : ((f.1 : Int) == 0) = true := by simp [h0]
    rw [hw, h0]
    rw [h0] at HB
    clear hw hd h0
    show Calls Tryz.prog 60 #[.agg #[.int .u8 (((0 : Nat) : Int)), .string ⟨f.2.toArray⟩]] w _
    go_enter Tryz.func60, Tryz.ntmps60
    go_wp2
    refine bodyPost_ret (v := .bool true) (by simp [results, Tryz.results60, go_sem]) rfl ⟨rfl, HB.out⟩
  · have hw : waitB f = false := by simp [waitB, h0]
    have hd : ((f.1 : Int) == 0) = false := by simp [h0]
    have hd2 : ¬ (f.1 : Int) = 0 := by omega
    have hd3 : decide ((f.1 : Int) = 0) = false := by simp [h0]
    rw [hw]
    clear hw h0
    show Calls Tryz.prog 60 #[.agg #[.int .u8 (f.1 : Int), .string ⟨f.2.toArray⟩]] w _
    go_enter Tryz.func60, Tryz.ntmps60
    go_wp2
    refine bodyPost_ret (v := .bool false) (by simp [results, Tryz.results60, go_sem]) rfl ⟨rfl, HB.out⟩

set_option maxRecDepth 100000 in
theorem settled_any (x : EntP) (sv fv jv : Value) (w : World) (hx : EntAt w x sv fv jv) (hs : ShortE x) :
    Calls Tryz.prog 23 #[entV x sv fv jv] w fun e w' => e = .returned (.bool (settledB x)) ∧ Below w.heap.size w w' := by
  obtain ⟨W1, hW1⟩ : ∃ W1, W1 = (w.alloc (.cells (entC x sv fv jv).toArray 28)) := ⟨_, rfl⟩
  have hB1 : Below w.heap.size w W1 := by rw [hW1]; exact (Below.refl _ w).alloc (Nat.le_refl _) _
  have hb1 : W1.heap[w.heap.size]? = some (.cells (entC x sv fv jv).toArray 28 (0, 0)) := by rw [hW1]; exact ha_eq rfl
  have hC := hasFate_any 60 enterWait #[] waitB x.fates fv W1 ((hx.below hB1).fa) hs.fates fun f _ W _ => waitF_any f W
  have HA := Lib.hid hB1
  unfold entV
  unfold entC at hW1 hb1 ⊢
  obtain ⟨-, x8, -⟩ := ebox hb1
  clear hx hs hB1 hb1
  unfold settledB
  go_enter Tryz.func23, Tryz.ntmps23
  go_upto_region 1 with (fail)
  rw [← hW1]
  clear hW1
  go_wp2_with fail
  refine hC.mono ?_
  rintro e w2 ⟨rfl, hB2⟩
  clear hC
  go_wp2
  refine bodyPost_ret (v := .bool (!x.fates.any waitB)) (by simp [results, Tryz.results23, go_sem]) rfl ⟨rfl, HA.out.trans (hB2.mono HA.out.size)⟩
end Go.Proofs.YtlpngibdplnieaaGreatDoor

/- entry.of; Waits' own function. -/
namespace Go.Proofs.YtlpngibdplnieaaGreatDoor
open Go Go.RowKit Go.Shelf Go.Sort
attribute [local go_sem] bneI

/-- Whether a recipient is of a domain. -/
def ofB (r : RcP) (d : Bytes) : Bool := decide ((parseB r.1).map (·.2) = some d)
set_option maxRecDepth 100000 in
set_option maxHeartbeats 1000000 in
theorem of_any (r : RcP) (d : Bytes) (w : World) (hr : r.1.length ≤ 1000000) (hE : Env w) : Calls Tryz.prog 122 #[.agg (rcE r).toArray, .string ⟨d.toArray⟩] w fun e w' => e = .returned (.bool (ofB r d)) ∧ Below w.heap.size w w' := by
  obtain ⟨t, nv⟩ := r
  unfold rcE
  dsimp only at hr ⊢
  have hl : ofB (t, nv) d = decide ((parseB t).map (·.2) = some d) := rfl
  rw [hl]
  clear hl
  go_enter Tryz.func122, Tryz.ntmps122
  go_upto_region 1 with (fail)
  generalize hw3 : World.alloc _ _ = w3
  have hb3 : Below w.heap.size w w3 := by rw [← hw3]; exact (Below.refl _ _).alloc (Nat.le_refl _) _
  have hbx : w3.heap[w.heap.size]? = some (.cells #[.string ⟨t.toArray⟩, .bool nv] 57 (0, 0)) := by rw [← hw3]; exact ha_eq rfl
  have u0 : w3.cell? ⟨w.heap.size, 0, none⟩ = some (.string ⟨t.toArray⟩) := by simp [World.cell?, hbx]
  have hPa := parse_any t w3 hr (hE.keep hb3)
  have H3 := Lib.hid hb3
  clear hw3 hb3 hbx hr hE
  go_wp2_with fail
  refine hPa.mono ?_
  rintro e w4 ⟨hP, hb4⟩
  have H4 := Lib.hid (H3.out.trans (hb4.mono H3.out.size))
  clear hPa hb4 u0
  rcases hP with ⟨l, dd, hp, -, rfl⟩ | ⟨hp, rfl⟩
  · have H5 := Lib.hid hp
    clear hp
    by_cases hd : dd = d
    · subst hd
      go_wp2
      refine bodyPost_ret (v := .bool true) (by simp [results, Tryz.results122, go_sem]) rfl ⟨by rw [H5.out]; simp, H4.out⟩
    · go_wp2
      refine bodyPost_ret (v := .bool false) (by simp [results, Tryz.results122, go_sem, hd]) rfl ⟨by rw [H5.out]; simp [hd], H4.out⟩
  · have H5 := Lib.hid hp
    clear hp
    go_wp2
    refine bodyPost_ret (v := .bool false) (by simp [results, Tryz.results122, go_sem]) rfl ⟨by rw [H5.out]; simp, H4.out⟩

/-- What counts for Waits, for Bad. -/
def waitOf (d : Bytes) (r : RcP) (f : FaP) : Bool := waitB f && ofB r d
def badOf (r : RcP) (f : FaP) : Bool := decide (f.1 = 2) && !r.2
set_option maxRecDepth 100000 in
set_option maxHeartbeats 1000000 in
theorem waits1_any (d : Bytes) (b : Nat) (r : RcP) (f : FaP) (w : World) (hr : r.1.length ≤ 1000000) (hE : Env w) (hd : w.cell? ⟨b, 0, none⟩ = some (.string ⟨d.toArray⟩)) :
    Calls Tryz.prog 121 (#[.agg (rcE r).toArray, .agg (faE f).toArray] ++ #[.pointer (some ⟨b, 0, none⟩)]) w fun e w' => e = .returned (.bool (waitOf d r f)) ∧ Below w.heap.size w w' := by
  obtain ⟨t, nv⟩ := r
  obtain ⟨st, tx⟩ := f
  dsimp only at hr
  have hO := fun W hE => of_any (t, nv) d W hr hE
  unfold rcE at hO ⊢
  unfold faE
  dsimp only at hO ⊢
  have hlt := cell_lt hd
  have HE := Lib.hid (And.intro hE (And.intro hd hlt))
  clear hr hE hlt
  by_cases h0 : st = 0
  · subst h0
    have hw : waitOf d (t, nv) (0, tx) = ofB (t, nv) d := by simp [waitOf, waitB]
    rw [hw]
    clear hw
    show Calls Tryz.prog 121 #[.agg #[.string ⟨t.toArray⟩, .bool nv], .agg #[.int .u8 ((0 : Nat) : Int), .string ⟨tx.toArray⟩], .pointer (some ⟨b, 0, none⟩)] w _
    go_enter Tryz.func121, Tryz.ntmps121
    go_upto_region 1 with (fail)
    generalize hw3 : World.alloc (World.alloc _ _) _ = w3
    have hb3 : Below w.heap.size w w3 := by rw [← hw3]; exact ((Below.refl _ _).alloc (Nat.le_refl _) _).alloc (by simp) _
    have hx1 : w3.heap[w.heap.size]? = some (.cells #[.string ⟨t.toArray⟩, .bool nv] 57 (0, 0)) := by rw [← hw3]; exact (ha_ne (by simp)).trans (ha_eq rfl)
    have hx2 : w3.heap[w.heap.size + 1]? = some (.cells #[.int .u8 ((0 : Nat) : Int), .string ⟨tx.toArray⟩] 61 (0, 0)) := by rw [← hw3]; exact ha_eq (by simp)
    have u0 : w3.cell? ⟨w.heap.size, 0, none⟩ = some (.string ⟨t.toArray⟩) := by simp [World.cell?, hx1]
    have u1 : w3.cell? ⟨w.heap.size, 1, none⟩ = some (.bool nv) := by simp [World.cell?, hx1]
    have u2 : w3.cell? ⟨w.heap.size + 1, 0, none⟩ = some (.int .u8 0) := by simp [World.cell?, hx2]
    have u3 : w3.cell? ⟨b, 0, none⟩ = some (.string ⟨d.toArray⟩) := (hb3.cell (p := ⟨b, 0, none⟩) HE.out.2.2).trans hd
    have hO3 := hO w3 (HE.out.1.keep hb3)
    have H3 := Lib.hid hb3
    clear hw3 hb3 hx1 hx2 hO hd
    go_wp2_with fail
    refine hO3.mono ?_
    rintro e w4 ⟨rfl, hb4⟩
    have H4 := Lib.hid (H3.out.trans (hb4.mono H3.out.size))
    clear hO3 hb4 u0 u1 u2 u3
    go_wp2
    refine bodyPost_ret (v := .bool (ofB (t, nv) d)) (by simp [results, Tryz.results121, go_sem]) rfl ⟨rfl, H4.out⟩
  · have hw : waitOf d (t, nv) (st, tx) = false := by simp [waitOf, waitB, h0]
    have e1 : ((st : Int) == 0) = false := by simp [h0]
    have e2 : ¬ (st : Int) = 0 := by omega
    have e3 : decide ((st : Int) = 0) = false := by simp [h0]
    rw [hw]
    clear hw h0
    show Calls Tryz.prog 121 #[.agg #[.string ⟨t.toArray⟩, .bool nv], .agg #[.int .u8 (st : Int), .string ⟨tx.toArray⟩], .pointer (some ⟨b, 0, none⟩)] w _
    go_enter Tryz.func121, Tryz.ntmps121
    go_upto_region 1 with (fail)
    generalize hw3 : World.alloc (World.alloc _ _) _ = w3
    have hb3 : Below w.heap.size w w3 := by rw [← hw3]; exact ((Below.refl _ _).alloc (Nat.le_refl _) _).alloc (by simp) _
    have hx1 : w3.heap[w.heap.size]? = some (.cells #[.string ⟨t.toArray⟩, .bool nv] 57 (0, 0)) := by rw [← hw3]; exact (ha_ne (by simp)).trans (ha_eq rfl)
    have hx2 : w3.heap[w.heap.size + 1]? = some (.cells #[.int .u8 (st : Int), .string ⟨tx.toArray⟩] 61 (0, 0)) := by rw [← hw3]; exact ha_eq (by simp)
    have u0 : w3.cell? ⟨w.heap.size, 0, none⟩ = some (.string ⟨t.toArray⟩) := by simp [World.cell?, hx1]
    have u1 : w3.cell? ⟨w.heap.size, 1, none⟩ = some (.bool nv) := by simp [World.cell?, hx1]
    have u2 : w3.cell? ⟨w.heap.size + 1, 0, none⟩ = some (.int .u8 (st : Int)) := by simp [World.cell?, hx2]
    have u3 : w3.cell? ⟨b, 0, none⟩ = some (.string ⟨d.toArray⟩) := (hb3.cell (p := ⟨b, 0, none⟩) HE.out.2.2).trans hd
    have H3 := Lib.hid hb3
    clear hw3 hb3 hx1 hx2 hO hd
    go_wp2
    refine bodyPost_ret (v := .bool false) (by simp [results, Tryz.results121, go_sem]) rfl ⟨rfl, H3.out⟩
end Go.Proofs.YtlpngibdplnieaaGreatDoor

/- entry.places. -/
namespace Go.Proofs.YtlpngibdplnieaaGreatDoor
open Go Go.RowKit Go.Shelf Go.Sort
attribute [local go_sem] bneI

/-- The places that count, of the first n. -/
def plcB (cnt : RcP → FaP → Bool) (l : List (RcP × FaP)) (n : Nat) : List Nat := (List.range n).filter fun i => match l[i]? with | some p => cnt p.1 p.2 | none => false
theorem plcB_succ (cnt : RcP → FaP → Bool) (l : List (RcP × FaP)) (n : Nat) (hn : n < l.length) : plcB cnt l (n + 1) = plcB cnt l n ++ (if cnt l[n].1 l[n].2 = true then [n] else []) := by
  unfold plcB
  rw [List.range_succ, List.filter_append]
  congr 1
  simp only [List.filter_cons, List.filter_nil, List.getElem?_eq_getElem hn]
theorem plcB_le (cnt : RcP → FaP → Bool) (l : List (RcP × FaP)) (n : Nat) : (plcB cnt l n).length ≤ n := by
  unfold plcB
  exact Nat.le_trans (List.length_filter_le _ _) (by simp)
def natV (i : Nat) : Value := .int .i64 (i : Int)
def plcM (cnt : RcP → FaP → Bool) (x : EntP) : List Nat := plcB cnt (x.mail.rcpts.zip x.fates) (x.mail.rcpts.zip x.fates).length
theorem infoI : (Tryz.prog.info? 3).map (fun i => (i.zero, i.size, i.bytes)) = some (some (.int .i64 0), 1, 8) := by kernel_rfl
theorem below_drew (w : World) : Below w.heap.size w w.drew := ⟨rfl, rfl, rfl, Nat.le_refl _, fun _ _ => rfl⟩
/-- What places hands back: its own row. -/
def PlcPost (w : World) (l : List Nat) (e : Ending) (w' : World) : Prop := ∃ v, e = .returned v ∧ w'.ownsRow (w.heap.size + 1) 3 1 v l.length (l.map natV)

set_option maxRecDepth 100000 in
set_option maxHeartbeats 4000000 in
theorem places_any (F : FuncId) (hE : ∀ args w, (callFunc F args).run Tryz.prog w = .ok (.enter F args) w) (caps : Array Value) (cnt : RcP → FaP → Bool) (x : EntP) (sv fv jv : Value) (w : World) (hx : EntAt w x sv fv jv) (hs : ShortE x)
    (hF : ∀ r ∈ x.mail.rcpts, ∀ f ∈ x.fates, ∀ W, Below w.heap.size w W → Calls Tryz.prog F (#[.agg (rcE r).toArray, .agg (faE f).toArray] ++ caps) W fun e W' => e = .returned (.bool (cnt r f)) ∧ Below W.heap.size W W') :
    Calls Tryz.prog 51 #[entV x sv fv jv, .func (.func F) #[] caps] w fun e w' => PlcPost w (plcM cnt x) e w' ∧ Below w.heap.size w w' := by
  obtain ⟨p, c, rfl, -⟩ := hx.rc.sh
  obtain ⟨q, d, rfl, -⟩ := hx.fa.sh
  obtain ⟨W1, hW1⟩ : ∃ W1, W1 = (w.alloc (.cells (entC x (.slice p x.mail.rcpts.length c) (.slice q x.fates.length d) jv).toArray 28)) := ⟨_, rfl⟩
  have hB1 : Below w.heap.size w W1 := by rw [hW1]; exact (Below.refl _ w).alloc (Nat.le_refl _) _
  have hb1 : W1.heap[w.heap.size]? = some (.cells (entC x (.slice p x.mail.rcpts.length c) (.slice q x.fates.length d) jv).toArray 28 (0, 0)) := by rw [hW1]; exact ha_eq rfl
  have hsz : W1.heap.size = w.heap.size + 1 := by rw [hW1]; simp
  obtain ⟨L, hL⟩ : ∃ L, L = x.mail.rcpts.zip x.fates := ⟨_, rfl⟩
  have hmin : min (x.fates.length : Int) (x.mail.rcpts.length : Int) = (L.length : Int) := by rw [hL, List.length_zip]; omega
  have hLn : L.length ≤ 1000000 := by rw [hL, List.length_zip]; have := hs.fates; omega
  have hLg : ∀ i (hi : i < L.length), ∃ (h1 : i < x.mail.rcpts.length) (h2 : i < x.fates.length), L[i] = (x.mail.rcpts[i], x.fates[i]) := fun i hi => by
    subst hL
    rw [List.length_zip] at hi
    exact ⟨by omega, by omega, by simp⟩
  have hM : plcM cnt x = plcB cnt L L.length := by rw [hL]; rfl
  have HA := Lib.hid (And.intro (hx.below hB1) (And.intro hs (And.intro hB1 (And.intro hsz (And.intro hLg (And.intro hL hF))))))
  unfold entV
  unfold entC at hW1 hb1 ⊢
  obtain ⟨x3, x8, -⟩ := ebox hb1
  rw [hM]
  clear hx hs hB1 hb1 hsz hLg hL hF hM
  obtain ⟨i0, hi0, hz0, hz1, hz2⟩ := info_parts infoI
  go_enter Tryz.func51, Tryz.ntmps51
  go_upto_region 1 with (fail)
  rw [← hW1]
  clear hW1
  go_wp2_with fail
  go_loopw [5, 15] (fun v s15 wr => ∃ i : Nat, s15 = .int .i64 (i : Int) ∧ i ≤ L.length ∧ wr.ownsRow W1.heap.size 3 1 v (plcB cnt L i).length ((plcB cnt L i).map natV) ∧ Below w.heap.size w wr ∧ Below W1.heap.size W1 wr) (fun _ s15 _ => L.length - natI s15)
  case atStart => exact ⟨0, rfl, Nat.zero_le _, ⟨rfl, .inl ⟨rfl, rfl⟩⟩, HA.out.2.2.1, Below.refl _ _⟩
  case round =>
    obtain ⟨i, rfl, hi, ho, hB, hB1⟩ := hrel
    by_cases hlast : i < L.length
    · have hli : (i : Int) < (L.length : Int) := by omega
      obtain ⟨h1, h2, hLi⟩ := HA.out.2.2.2.2.1 i hlast
      have hBD := hB1.trans ((below_drew wr).mono hB1.size)
      have hx1 := HA.out.1.below hBD
      have k3 := (hBD.cell (p := ⟨w.heap.size, 3, none⟩) (cell_lt x3)).trans x3
      have k8 := (hBD.cell (p := ⟨w.heap.size, 8, none⟩) (cell_lt x8)).trans x8
      clear hBD
      obtain ⟨b1, o1, rfl, hc1⟩ := hx1.rc.at i h1
      obtain ⟨b2, o2, rfl, hc2⟩ := hx1.fa.at i h2
      have hc1' := hc1 i h1
      have hc2' := hc2 i h2
      have y0 : wr.drew.cell? ⟨b1, o1 + i * 2, none⟩ = some (.string ⟨x.mail.rcpts[i].1.toArray⟩) := hc1' 0 _ rfl
      have y1 : wr.drew.cell? ⟨b1, o1 + i * 2 + 1, none⟩ = some (.bool x.mail.rcpts[i].2) := hc1' 1 _ rfl
      have z0 : wr.drew.cell? ⟨b2, o2 + i * 2, none⟩ = some (.int .u8 (x.fates[i].1 : Int)) := hc2' 0 _ rfl
      have z1 : wr.drew.cell? ⟨b2, o2 + i * 2 + 1, none⟩ = some (.string ⟨x.fates[i].2.toArray⟩) := hc2' 1 _ rfl
      have hcl := HA.out.2.2.2.2.2.2 _ (List.getElem_mem h1) _ (List.getElem_mem h2) wr.drew (hB.trans ((below_drew wr).mono hB.size))
      have hnx := plcB_succ cnt L i hlast
      rw [hLi] at hnx
      have hle := plcB_le cnt L i
      have hi1 : (i : Int) < (x.mail.rcpts.length : Int) := by omega
      have hi2 : (i : Int) < (x.fates.length : Int) := by omega
      have HR := Lib.hid (And.intro ho (And.intro hB (And.intro hB1 (And.intro hnx hle))))
      clear hc1 hc1' hc2 hc2' ho hB hB1 hx1 hnx hle hLi
      obtain ⟨r, hr⟩ : ∃ r, r = x.mail.rcpts[i] := ⟨_, rfl⟩
      obtain ⟨f, hf⟩ : ∃ f, f = x.fates[i] := ⟨_, rfl⟩
      rw [← hr] at y0 y1 hcl HR
      rw [← hf] at z0 z1 hcl HR
      clear hr hf
      unfold rcE faE at hcl
      obtain ⟨t, nv⟩ := r
      obtain ⟨st, tx⟩ := f
      dsimp only at y0 y1 z0 z1 hcl HR
      have hrun : Sem.run Tryz.prog (callFunc F (#[.agg #[.string ⟨t.toArray⟩, .bool nv], .agg #[.int .u8 (st : Int), .string ⟨tx.toArray⟩]] ++ caps)) wr.drew = .ok (.enter F (#[.agg #[.string ⟨t.toArray⟩, .bool nv], .agg #[.int .u8 (st : Int), .string ⟨tx.toArray⟩]] ++ caps)) wr.drew := hE _ _
      go_upto_region 5 with (fail)
      refine wp_region_still_tail 12 (by kernel_rfl) (by kernel_rfl) ?_
      simp only [List.take_succ_cons, List.take_zero, List.drop_succ_cons, List.drop_zero]
      show wpStill Tryz.prog _ wr.drew (fun a' => wpList _ _ _ _ a' wr.drew) _ _
      repeat still_step
      refine wpStill_nil ?_
      go_wp2_with fail
      refine hcl.mono ?_
      rintro e w4 ⟨rfl, hb4⟩
      have hw4 : Below wr.heap.size wr w4 := (below_drew wr).trans (hb4.mono (below_drew wr).size)
      have H4 := Lib.hid hw4
      clear hcl hb4 hw4 hrun y0 y1 z0 z1 k3 k8 h1 h2 hi1 hi2
      have ho4 : w4.ownsRow W1.heap.size 3 1 u5 (plcB cnt L i).length ((plcB cnt L i).map natV) := HR.out.1.kept (grownBy_of_below H4.out none) (Classical.em _)
      have hle := HR.out.2.2.2.2
      cases hcn : cnt (t, nv) (st, tx) with
      | true =>
        have hnx : plcB cnt L (i + 1) = plcB cnt L i ++ [i] := by rw [HR.out.2.2.2.1, hcn]; rfl
        have HN := Lib.hid (And.intro hnx (And.intro ho4 hle))
        clear hnx ho4 hcn hle
        go_wp2_with (at_builtin; refine Bx.h ?_)
        refine ⟨?_⟩
        refine wpList_append_own _ rfl _ _ 62 rfl W1.heap.size 3 i0 (.int .i64 0) 1 8 Tryz.underlying62 hi0 hz0 hz1 hz2 rfl (by decide) _ _ _ rfl (HN.out.2.1.alloc _) ⟨w4.heap.size, 0, none⟩ 1 1 [.int .i64 (i : Int)] rfl rfl (cell_list (cs := [.int .i64 (i : Int)]) rfl) (by simp [Value.oneCell']) (by have := HN.out.2.2; unfold maxLen; omega) (by have := HN.out.2.2; omega) (by have h1 := HR.out.2.2.1.size; have h2 := H4.out.size; simp; omega) ?_
        intro v' w5 hown5 hgrow5 hnil5
        have hg : wr.grownBy w5 u5.ownBlock := World.grownBy.trans (World.grownBy.trans (grownBy_of_below H4.out _) (World.grownBy_alloc _ _ _)) hgrow5
        have hB5 := HR.out.2.1.grown hg HR.out.2.1.size (fun k e => Nat.le_trans HA.out.2.2.1.size (HR.out.1.lt k e).1)
        have hB51 := HR.out.2.2.1.grown hg HR.out.2.2.1.size (fun k e => (HR.out.1.lt k e).1)
        have hm : (plcB cnt L i).map natV ++ [Value.int .i64 (i : Int)] = (plcB cnt L i ++ [i]).map natV := by simp [natV]
        have hl : (plcB cnt L i).length + 1 = (plcB cnt L i ++ [i]).length := by simp
        rw [hm, hl, ← HN.out.1] at hown5
        have HZ := Lib.hid (And.intro hown5 (And.intro hB5 hB51))
        clear hown5 hgrow5 hnil5 hg hB5 hB51 hm hl
        go_wp2
        go_roundw
        case rel => exact ⟨i + 1, by simp, by omega, HZ.out.1, HZ.out.2.1, HZ.out.2.2⟩
        case measure => simp [natI]; omega
      | false =>
        have hnx : plcB cnt L (i + 1) = plcB cnt L i := by rw [HR.out.2.2.2.1, hcn]; simp
        rw [← hnx] at ho4
        have HN := Lib.hid ho4
        clear hnx ho4 hcn hle
        go_wp2
        go_roundw
        case rel => exact ⟨i + 1, by simp, by omega, HN.out, HR.out.2.1.trans (H4.out.mono HR.out.2.1.size), HR.out.2.2.1.trans (H4.out.mono HR.out.2.2.1.size)⟩
        case measure => simp [natI]; omega
    · have hli : ¬ (i : Int) < (L.length : Int) := by omega
      have hfull : plcB cnt L i = plcB cnt L L.length := by rw [show i = L.length by omega]
      rw [hfull] at ho
      have HH := Lib.hid (And.intro ho (And.intro hB hB1))
      clear hfull ho hB hB1
      go_wp2
      refine bodyPost_ret (v := u5) (by simp [results, Tryz.results51, go_sem]) rfl ⟨⟨_, rfl, ?_⟩, HH.out.2.1⟩
      rw [← HA.out.2.2.2.1]
      exact HH.out.1
end Go.Proofs.YtlpngibdplnieaaGreatDoor

/- entry.Waits. -/
namespace Go.Proofs.YtlpngibdplnieaaGreatDoor
open Go Go.RowKit Go.Shelf Go.Sort
attribute [local go_sem] bneI

theorem enterWaits : ∀ args w, (callFunc 121 args).run Tryz.prog w = .ok (.enter 121 args) w := enters_of Tryz.func121 (by kernel_rfl) rfl
/-- The recipients of a domain that wait. -/
def waitsM (x : EntP) (d : Bytes) : List Nat := plcM (waitOf d) x
/-- An own row of numbers, behind so many blocks. -/
def IdxPost (w : World) (l : List Nat) (e : Ending) (w' : World) : Prop := ∃ v, e = .returned v ∧ w'.ownsRow (w.heap.size + 1) 3 1 v l.length (l.map natV)
theorem eboxAll {W : World} {b : Nat} {v0 v1 v2 v3 v4 v5 v6 v7 v8 v9 : Value} {t : TypeId} (h : W.heap[b]? = some (.cells #[v0, v1, v2, v3, v4, v5, v6, v7, v8, v9] t (0, 0))) :
    W.cell? ⟨b, 0, none⟩ = some v0 ∧ W.cell? ⟨b, 1, none⟩ = some v1 ∧ W.cell? ⟨b, 2, none⟩ = some v2 ∧ W.cell? ⟨b, 3, none⟩ = some v3 ∧ W.cell? ⟨b, 4, none⟩ = some v4 ∧ W.cell? ⟨b, 5, none⟩ = some v5 ∧ W.cell? ⟨b, 6, none⟩ = some v6 ∧ W.cell? ⟨b, 7, none⟩ = some v7 ∧ W.cell? ⟨b, 8, none⟩ = some v8 ∧ W.cell? ⟨b, 9, none⟩ = some v9 := by
  refine ⟨?_, ?_, ?_, ?_, ?_, ?_, ?_, ?_, ?_, ?_⟩ <;> simp [World.cell?, h]
theorem ownsRow_less {w : World} {a b : Nat} {t : TypeId} {k : Nat} {v : Value} {n : Nat} {xs : List Value} (h : w.ownsRow b t k v n xs) (hab : a ≤ b) : w.ownsRow a t k v n xs := by
  refine ⟨h.1, ?_⟩
  rcases h.2 with h | ⟨g, cap, cur, e, hg, hr⟩
  · exact .inl h
  · exact .inr ⟨g, cap, cur, e, Nat.le_trans hab hg, hr⟩
set_option maxRecDepth 100000 in
set_option maxHeartbeats 2000000 in
theorem waits_any (x : EntP) (d : Bytes) (sv fv jv : Value) (w : World) (hx : EntAt w x sv fv jv) (hs : ShortE x) (hE : Env w) :
    Calls Tryz.prog 67 #[entV x sv fv jv, .string ⟨d.toArray⟩] w fun e w' => IdxPost w (waitsM x d) e w' ∧ Below w.heap.size w w' := by
  obtain ⟨p, c, rfl, -⟩ := hx.rc.sh
  obtain ⟨q, dd, rfl, -⟩ := hx.fa.sh
  obtain ⟨r, rr, rfl, -⟩ := hx.jo.sh
  obtain ⟨W1, hW1⟩ : ∃ W1, W1 = (w.alloc (.cells (entC x (.slice p x.mail.rcpts.length c) (.slice q x.fates.length dd) (.slice r x.jobs.length rr)).toArray 28)).alloc (.cells #[.string ⟨d.toArray⟩] 9) := ⟨_, rfl⟩
  have hB1 : Below w.heap.size w W1 := by rw [hW1]; exact ((Below.refl _ w).alloc (Nat.le_refl _) _).alloc (by simp) _
  have hb1 : W1.heap[w.heap.size]? = some (.cells (entC x (.slice p x.mail.rcpts.length c) (.slice q x.fates.length dd) (.slice r x.jobs.length rr)).toArray 28 (0, 0)) := by rw [hW1]; exact (ha_ne (by simp)).trans (ha_eq rfl)
  have hb2 : W1.heap[w.heap.size + 1]? = some (.cells #[.string ⟨d.toArray⟩] 9 (0, 0)) := by rw [hW1]; exact ha_eq (by simp)
  have hd : W1.cell? ⟨w.heap.size + 1, 0, none⟩ = some (.string ⟨d.toArray⟩) := by simp [World.cell?, hb2]
  have hPl := places_any 121 enterWaits #[.pointer (some ⟨w.heap.size + 1, 0, none⟩)] (waitOf d) x _ _ _ W1 (hx.below hB1) hs fun r hr f _ W hW => waits1_any d _ r f W (hs.mail.tos _ hr) ((hE.keep hB1).keep hW) ((hW.cell (p := ⟨_, 0, none⟩) (cell_lt hd)).trans hd)
  have HA := Lib.hid hB1
  unfold entV at hPl ⊢
  unfold entC at hW1 hb1 hPl ⊢
  obtain ⟨x0, x1, x2, x3, x4, x5, x6, x7, x8, x9⟩ := eboxAll hb1
  clear hx hs hB1 hb1 hb2 hE
  go_enter Tryz.func67, Tryz.ntmps67
  go_upto_region 1 with (fail)
  rw [← hW1]
  clear hW1
  go_wp2_with fail
  refine hPl.mono ?_
  rintro e w2 ⟨⟨v, rfl, ho⟩, hB2⟩
  have HZ := Lib.hid (And.intro (ownsRow_less ho (show w.heap.size + 1 ≤ W1.heap.size + 1 by have := HA.out.size; omega)) (HA.out.trans (hB2.mono HA.out.size)))
  clear hPl ho hB2 hd x0 x1 x2 x3 x4 x5 x6 x7 x8 x9
  go_wp2
  refine bodyPost_ret (v := v) (by simp [results, Tryz.results67, go_sem]) rfl ⟨⟨_, rfl, HZ.out.1⟩, HZ.out.2⟩
end Go.Proofs.YtlpngibdplnieaaGreatDoor

/- What a law's row gives its walk: mails and entries that came in, the laid variables. -/
namespace Go.Proofs.YtlpngibdplnieaaGreatDoor
open Go Go.ChangeShapes Go.WideShapes Go.ChangeAt Go.RowKit Go.Deep

theorem ownKnob_none : ownKnob Tryz.prog.godebug = none := by kernel_rfl
theorem lays : laidOutB Tryz.prog = true := by kernel_rfl
theorem mailFields : ∃ f0 f1 f2 f3 f4, Tryz.prog.underlying 24 = some (.struct #[f0, f1, f2, f3, f4]) ∧ (f0.type = 9 ∧ f1.type = 22 ∧ f2.type = 4 ∧ f3.type = 9 ∧ f4.type = 9) ∧ f0.offset = 0 ∧ f1.offset = 1 ∧ f2.offset = 2 ∧ f3.offset = 3 ∧ f4.offset = 4 := by
  have h : ((Tryz.prog.fieldsOf 24).toList.map fun f => (f.type, f.offset)) = [(9, 0), (22, 1), (4, 2), (9, 3), (9, 4)] := by kernel_rfl
  have h2 : Tryz.prog.underlying 24 = some (.struct (Tryz.prog.fieldsOf 24)) := by kernel_rfl
  rw [h2]
  obtain ⟨fs, hfs⟩ : ∃ fs, fs = Tryz.prog.fieldsOf 24 := ⟨_, rfl⟩
  rw [← hfs] at h ⊢
  clear h2 hfs
  obtain ⟨fs⟩ := fs
  rcases fs with _ | ⟨f0, _ | ⟨f1, _ | ⟨f2, _ | ⟨f3, _ | ⟨f4, _ | ⟨f5, fs⟩⟩⟩⟩⟩⟩ <;> simp at h
  exact ⟨f0, f1, f2, f3, f4, rfl, ⟨h.1.1, h.2.1.1, h.2.2.1.1, h.2.2.2.1.1, h.2.2.2.2.1⟩, h.1.2, h.2.1.2, h.2.2.1.2, h.2.2.2.1.2, h.2.2.2.2.2⟩
theorem entFields : ∃ f0 f1 f2 f3 f4 f5, Tryz.prog.underlying 28 = some (.struct #[f0, f1, f2, f3, f4, f5]) ∧ (f0.type = 3 ∧ f1.type = 3 ∧ f2.type = 24 ∧ f3.type = 4 ∧ f4.type = 25 ∧ f5.type = 26) ∧ f0.offset = 0 ∧ f1.offset = 1 ∧ f2.offset = 2 ∧ f3.offset = 7 ∧ f4.offset = 8 ∧ f5.offset = 9 := by
  have h : ((Tryz.prog.fieldsOf 28).toList.map fun f => (f.type, f.offset)) = [(3, 0), (3, 1), (24, 2), (4, 7), (25, 8), (26, 9)] := by kernel_rfl
  have h2 : Tryz.prog.underlying 28 = some (.struct (Tryz.prog.fieldsOf 28)) := by kernel_rfl
  rw [h2]
  obtain ⟨fs, hfs⟩ : ∃ fs, fs = Tryz.prog.fieldsOf 28 := ⟨_, rfl⟩
  rw [← hfs] at h ⊢
  clear h2 hfs
  obtain ⟨fs⟩ := fs
  rcases fs with _ | ⟨f0, _ | ⟨f1, _ | ⟨f2, _ | ⟨f3, _ | ⟨f4, _ | ⟨f5, _ | ⟨f6, fs⟩⟩⟩⟩⟩⟩⟩ <;> simp at h
  exact ⟨f0, f1, f2, f3, f4, f5, rfl, ⟨h.1.1, h.2.1.1, h.2.2.1.1, h.2.2.2.1.1, h.2.2.2.2.1.1, h.2.2.2.2.2.1⟩, h.1.2, h.2.1.2, h.2.2.1.2, h.2.2.2.1.2, h.2.2.2.2.1.2, h.2.2.2.2.2.2⟩
theorem rcptFields : ∃ f0 f1, Tryz.prog.underlying 57 = some (.struct #[f0, f1]) ∧ (f0.type = 9 ∧ f1.type = 4) ∧ f0.offset = 0 ∧ f1.offset = 1 := by
  have h : ((Tryz.prog.fieldsOf 57).toList.map fun f => (f.type, f.offset)) = [(9, 0), (4, 1)] := by kernel_rfl
  have h2 : Tryz.prog.underlying 57 = some (.struct (Tryz.prog.fieldsOf 57)) := by kernel_rfl
  rw [h2]
  obtain ⟨fs, hfs⟩ : ∃ fs, fs = Tryz.prog.fieldsOf 57 := ⟨_, rfl⟩
  rw [← hfs] at h ⊢
  clear h2 hfs
  obtain ⟨fs⟩ := fs
  rcases fs with _ | ⟨f0, _ | ⟨f1, _ | ⟨f2, fs⟩⟩⟩ <;> simp at h
  exact ⟨f0, f1, rfl, ⟨h.1.1, h.2.1⟩, h.1.2, h.2.2⟩
theorem fateFields : ∃ f0 f1, Tryz.prog.underlying 61 = some (.struct #[f0, f1]) ∧ (f0.type = 5 ∧ f1.type = 9) ∧ f0.offset = 0 ∧ f1.offset = 1 := by
  have h : ((Tryz.prog.fieldsOf 61).toList.map fun f => (f.type, f.offset)) = [(5, 0), (9, 1)] := by kernel_rfl
  have h2 : Tryz.prog.underlying 61 = some (.struct (Tryz.prog.fieldsOf 61)) := by kernel_rfl
  rw [h2]
  obtain ⟨fs, hfs⟩ : ∃ fs, fs = Tryz.prog.fieldsOf 61 := ⟨_, rfl⟩
  rw [← hfs] at h ⊢
  clear h2 hfs
  obtain ⟨fs⟩ := fs
  rcases fs with _ | ⟨f0, _ | ⟨f1, _ | ⟨f2, fs⟩⟩⟩ <;> simp at h
  exact ⟨f0, f1, rfl, ⟨h.1.1, h.2.1⟩, h.1.2, h.2.2⟩
theorem jobFields : ∃ f0 f1 f2, Tryz.prog.underlying 71 = some (.struct #[f0, f1, f2]) ∧ (f0.type = 9 ∧ f1.type = 3 ∧ f2.type = 3) ∧ f0.offset = 0 ∧ f1.offset = 1 ∧ f2.offset = 2 := by
  have h : ((Tryz.prog.fieldsOf 71).toList.map fun f => (f.type, f.offset)) = [(9, 0), (3, 1), (3, 2)] := by kernel_rfl
  have h2 : Tryz.prog.underlying 71 = some (.struct (Tryz.prog.fieldsOf 71)) := by kernel_rfl
  rw [h2]
  obtain ⟨fs, hfs⟩ : ∃ fs, fs = Tryz.prog.fieldsOf 71 := ⟨_, rfl⟩
  rw [← hfs] at h ⊢
  clear h2 hfs
  obtain ⟨fs⟩ := fs
  rcases fs with _ | ⟨f0, _ | ⟨f1, _ | ⟨f2, _ | ⟨f3, fs⟩⟩⟩⟩ <;> simp at h
  exact ⟨f0, f1, f2, rfl, ⟨h.1.1, h.2.1.1, h.2.2.1⟩, h.1.2, h.2.1.2, h.2.2.2⟩
theorem kRcpt : Tryz.prog.cellsOf 57 = 2 := by kernel_rfl
theorem kFate : Tryz.prog.cellsOf 61 = 2 := by kernel_rfl
theorem kJob : Tryz.prog.cellsOf 71 = 3 := by kernel_rfl
theorem kMail : Tryz.prog.cellsOf 24 = 5 := by kernel_rfl
theorem kEnt : Tryz.prog.cellsOf 28 = 10 := by kernel_rfl
theorem kStr : Tryz.prog.cellsOf 9 = 1 := by kernel_rfl
theorem kInt : Tryz.prog.cellsOf 3 = 1 := by kernel_rfl
theorem kBool : Tryz.prog.cellsOf 4 = 1 := by kernel_rfl
theorem kU8 : Tryz.prog.cellsOf 5 = 1 := by kernel_rfl
theorem kRs : Tryz.prog.cellsOf 22 = 1 := by kernel_rfl
theorem kFs : Tryz.prog.cellsOf 25 = 1 := by kernel_rfl
theorem kJs : Tryz.prog.cellsOf 26 = 1 := by kernel_rfl

theorem addrk2 (b o k : Nat) : (Addr.mk b o none).add k = ⟨b, o + k, none⟩ := by simp [Addr.add]
section rows
variable {H : Type} {enc : TypeId × Value → H}
/-- A row of structs that came in, whatever its elements are. -/
theorem open_rowK {α : Type} {k : Nat} {en : α → List Value} {Q : α → Prop} {T S : TypeId} (hS : Tryz.prog.underlying S = some (.slice T)) (hk : Tryz.prog.cellsOf T = k) (he : ∀ y, 0 < (en y).length) {W : World} {base : Nat} {spare : Nat → Bool} {held : Bool}
    (hel : ∀ (n : Nat) (cs : List Value) (x : DataW H × List MemPlace), cs.length = k → DataW.trod enc Tryz.prog W base spare held n T cs = some x → ∃ y, Q y ∧ en y = cs)
    {n : Nat} {v : Value} {x : DataW H × List MemPlace} (h : DataW.trod enc Tryz.prog W base spare held n S [v] = some x) :
    ∃ xs, RowK k en W v xs ∧ (∀ y ∈ xs, Q y) ∧ xs.length ≤ maxLen := by
  rcases open_slice hS h with ⟨h0, _⟩ | ⟨a, len, cap, m, n', D, Pl, hcs, hb, hl, hm, hmm, hx, hi⟩
  · injection h0 with h0 _
    exact ⟨[], by rw [h0]; exact RowK.nil, fun y hy => absurd hy (by simp), Nat.zero_le _⟩
  · injection hcs with hcs _
    rw [hk] at hi
    have hle : len ≤ m := by rw [hmm]; split <;> omega
    by_cases h0 : len = 0
    · subst h0
      exact ⟨[], ⟨some a, cap, hcs, hl, fun h => absurd rfl h⟩, fun y hy => absurd hy (by simp), Nat.zero_le _⟩
    · have hex : ∀ i, i < len → ∃ y : α, Q y ∧ ∀ j u, (en y)[j]? = some u → W.cell? ((a.add (i * k)).add j) = some u := by
        intro i hil
        obtain ⟨cs', hc, ht⟩ := hi i (by omega)
        obtain ⟨_, hcl, hat⟩ := World.cells?_some hc
        obtain ⟨y, hq, e⟩ := hel _ _ _ hcl ht
        refine ⟨y, hq, fun j u hu => ?_⟩
        rw [e] at hu
        have hj : j < k := by rw [← hcl]; exact (List.getElem?_eq_some_iff.1 hu).1
        rw [hat j hj]; exact hu
      obtain ⟨y0, _⟩ := hex 0 (by omega)
      have hex2 : ∀ i, ∃ y : α, i < len → (Q y ∧ ∀ j u, (en y)[j]? = some u → W.cell? ((a.add (i * k)).add j) = some u) := fun i => by
        by_cases hil : i < len
        · obtain ⟨y, hy⟩ := hex i hil
          exact ⟨y, fun _ => hy⟩
        · exact ⟨y0, fun h => absurd h hil⟩
      obtain ⟨f, hf⟩ := Classical.axiomOfChoice hex2
      have hlen : ((List.range len).map f).length = len := by simp
      have hpos := he (f 0)
      have hc0 := (hf 0 (by omega)).2 0 _ (List.getElem?_eq_getElem hpos)
      obtain ⟨b, o, sp⟩ := a
      have hsp : sp = none := by
        have := World.cell?_spot hc0
        simpa [Addr.add] using this
      subst hsp
      refine ⟨(List.range len).map f, ⟨some ⟨b, o, none⟩, cap, by rw [hlen]; exact hcs, by rw [hlen]; exact hl, fun _ => ⟨b, o, rfl, fun i hil j u hu => ?_⟩⟩, fun y hy => ?_, by rw [hlen]; omega⟩
      · have hil' : i < len := by simpa using hil
        simp only [List.getElem_map, List.getElem_range] at hu
        have := (hf i hil').2 j u hu
        rwa [addrk2, addrk2] at this
      · obtain ⟨i, hi', rfl⟩ := List.mem_map.1 hy
        exact (hf i (List.mem_range.1 hi')).1
variable {W : World} {base : Nat} {spare : Nat → Bool} {held : Bool} {n : Nat}
set_option maxRecDepth 100000 in
theorem open_rcpt {cs : List Value} {x : DataW H × List MemPlace} (hcl : cs.length = 2) (ht : DataW.trod enc Tryz.prog W base spare held n 57 cs = some x) : ∃ r : RcP, r.1.length ≤ maxLen ∧ rcE r = cs := by
  obtain ⟨f0, f1, hu, ⟨t0, t1⟩, o0, o1⟩ := rcptFields
  obtain ⟨ys, n', _, _, hlen, hyl, hf⟩ := DataW.trod_struct hu ht
  have g0 := hf 0 f0 rfl
  have g1 := hf 1 f1 rfl
  rw [t0, o0, kStr] at g0
  rw [t1, o1, kBool] at g1
  match cs, hcl with
  | [x0, x1], _ =>
    match ys, hyl with
    | [y0, y1], _ =>
      obtain ⟨s, e0, _, hs⟩ := DataW.trod_string Tryz.underlying9 (show DataW.trod enc Tryz.prog W base spare held n' 9 [x0] = some y0 from g0)
      obtain ⟨b, e1, _⟩ := DataW.trod_bool Tryz.underlying4 (show DataW.trod enc Tryz.prog W base spare held n' 4 [x1] = some y1 from g1)
      injection e0 with e0 _
      injection e1 with e1 _
      exact ⟨(s.data.toList, b), hs, by rw [e0, e1]; rfl⟩
set_option maxRecDepth 100000 in
theorem open_fate {cs : List Value} {x : DataW H × List MemPlace} (hcl : cs.length = 2) (ht : DataW.trod enc Tryz.prog W base spare held n 61 cs = some x) : ∃ f : FaP, (f.1 < 256 ∧ f.2.length ≤ maxLen) ∧ faE f = cs := by
  obtain ⟨f0, f1, hu, ⟨t0, t1⟩, o0, o1⟩ := fateFields
  obtain ⟨ys, n', _, _, hlen, hyl, hf⟩ := DataW.trod_struct hu ht
  have g0 := hf 0 f0 rfl
  have g1 := hf 1 f1 rfl
  rw [t0, o0, kU8] at g0
  rw [t1, o1, kStr] at g1
  match cs, hcl with
  | [x0, x1], _ =>
    match ys, hyl with
    | [y0, y1], _ =>
      obtain ⟨k0, e0, _, w0⟩ := DataW.trod_int Tryz.underlying5 (show DataW.trod enc Tryz.prog W base spare held n' 5 [x0] = some y0 from g0)
      obtain ⟨s, e1, _, hs⟩ := DataW.trod_string Tryz.underlying9 (show DataW.trod enc Tryz.prog W base spare held n' 9 [x1] = some y1 from g1)
      injection e0 with e0 _
      injection e1 with e1 _
      have b0 := bounds_u8 w0
      obtain ⟨m, rfl⟩ := Int.eq_ofNat_of_zero_le b0.1
      exact ⟨(m, s.data.toList), ⟨by dsimp only; omega, hs⟩, by rw [e0, e1]; rfl⟩
set_option maxRecDepth 100000 in
theorem open_job {cs : List Value} {x : DataW H × List MemPlace} (hcl : cs.length = 3) (ht : DataW.trod enc Tryz.prog W base spare held n 71 cs = some x) : ∃ j : JoP, (j.dom.length ≤ maxLen ∧ (Lit.int .i64 j.tries).wf = true ∧ (Lit.int .i64 j.due).wf = true) ∧ joE j = cs := by
  obtain ⟨f0, f1, f2, hu, ⟨t0, t1, t2⟩, o0, o1, o2⟩ := jobFields
  obtain ⟨ys, n', _, _, hlen, hyl, hf⟩ := DataW.trod_struct hu ht
  have g0 := hf 0 f0 rfl
  have g1 := hf 1 f1 rfl
  have g2 := hf 2 f2 rfl
  rw [t0, o0, kStr] at g0
  rw [t1, o1, kInt] at g1
  rw [t2, o2, kInt] at g2
  match cs, hcl with
  | [x0, x1, x2], _ =>
    match ys, hyl with
    | [y0, y1, y2], _ =>
      obtain ⟨s, e0, _, hs⟩ := DataW.trod_string Tryz.underlying9 (show DataW.trod enc Tryz.prog W base spare held n' 9 [x0] = some y0 from g0)
      obtain ⟨k1, e1, _, w1⟩ := DataW.trod_int Tryz.underlying3 (show DataW.trod enc Tryz.prog W base spare held n' 3 [x1] = some y1 from g1)
      obtain ⟨k2, e2, _, w2⟩ := DataW.trod_int Tryz.underlying3 (show DataW.trod enc Tryz.prog W base spare held n' 3 [x2] = some y2 from g2)
      injection e0 with e0 _
      injection e1 with e1 _
      injection e2 with e2 _
      exact ⟨⟨s.data.toList, k1, k2⟩, ⟨hs, w1, w2⟩, by rw [e0, e1, e2]; rfl⟩
/-- What the types alone say of a mail, and of an entry. -/
structure InM (m : MailP) : Prop where
  sender : m.sender.length ≤ maxLen
  envid : m.envid.length ≤ maxLen
  text : m.text.length ≤ maxLen
  rcpts : m.rcpts.length ≤ maxLen
  tos : ∀ r ∈ m.rcpts, r.1.length ≤ maxLen
def in64 (k : Int) : Prop := -9223372036854775808 ≤ k ∧ k ≤ 9223372036854775807
structure InE (x : EntP) : Prop where
  id : in64 x.id
  at_ : in64 x.at_
  mail : InM x.mail
  fates : x.fates.length ≤ maxLen
  jobs : x.jobs.length ≤ maxLen
  fate : ∀ f ∈ x.fates, f.1 < 256 ∧ f.2.length ≤ maxLen
  job : ∀ j ∈ x.jobs, j.dom.length ≤ maxLen ∧ in64 j.tries ∧ in64 j.due
set_option maxRecDepth 100000 in
theorem open_mail {cs : List Value} {x : DataW H × List MemPlace} (hcl : cs.length = 5) (ht : DataW.trod enc Tryz.prog W base spare held n 24 cs = some x) : ∃ (m : MailP) (sv : Value), RowK 2 rcE W sv m.rcpts ∧ InM m ∧ mailC m sv = cs := by
  obtain ⟨f0, f1, f2, f3, f4, hu, ⟨t0, t1, t2, t3, t4⟩, o0, o1, o2, o3, o4⟩ := mailFields
  obtain ⟨ys, n', _, _, hlen, hyl, hf⟩ := DataW.trod_struct hu ht
  have g0 := hf 0 f0 rfl
  have g1 := hf 1 f1 rfl
  have g2 := hf 2 f2 rfl
  have g3 := hf 3 f3 rfl
  have g4 := hf 4 f4 rfl
  rw [t0, o0, kStr] at g0
  rw [t1, o1, kRs] at g1
  rw [t2, o2, kBool] at g2
  rw [t3, o3, kStr] at g3
  rw [t4, o4, kStr] at g4
  match cs, hcl with
  | [x0, x1, x2, x3, x4], _ =>
    match ys, hyl with
    | [y0, y1, y2, y3, y4], _ =>
      obtain ⟨s0, e0, _, h0⟩ := DataW.trod_string Tryz.underlying9 (show DataW.trod enc Tryz.prog W base spare held n' 9 [x0] = some y0 from g0)
      obtain ⟨rs, hr, hq, hn⟩ := open_rowK (α := RcP) (k := 2) (en := rcE) (Q := fun r => r.1.length ≤ maxLen) Tryz.underlying22 kRcpt (fun _ => Nat.zero_lt_succ _) (fun _ _ _ hl h => open_rcpt hl h) (show DataW.trod enc Tryz.prog W base spare held n' 22 [x1] = some y1 from g1)
      obtain ⟨b, e2, _⟩ := DataW.trod_bool Tryz.underlying4 (show DataW.trod enc Tryz.prog W base spare held n' 4 [x2] = some y2 from g2)
      obtain ⟨s3, e3, _, h3⟩ := DataW.trod_string Tryz.underlying9 (show DataW.trod enc Tryz.prog W base spare held n' 9 [x3] = some y3 from g3)
      obtain ⟨s4, e4, _, h4⟩ := DataW.trod_string Tryz.underlying9 (show DataW.trod enc Tryz.prog W base spare held n' 9 [x4] = some y4 from g4)
      injection e0 with e0 _
      injection e2 with e2 _
      injection e3 with e3 _
      injection e4 with e4 _
      exact ⟨⟨s0.data.toList, rs, b, s3.data.toList, s4.data.toList⟩, x1, hr, ⟨h0, h3, h4, hn, hq⟩, by rw [e0, e2, e3, e4]; rfl⟩
set_option maxRecDepth 100000 in
theorem open_ent {cs : List Value} {x : DataW H × List MemPlace} (hcl : cs.length = 10) (ht : DataW.trod enc Tryz.prog W base spare held n 28 cs = some x) : ∃ (e : EntP) (sv fv jv : Value), EntAt W e sv fv jv ∧ InE e ∧ entC e sv fv jv = cs := by
  obtain ⟨f0, f1, f2, f3, f4, f5, hu, ⟨t0, t1, t2, t3, t4, t5⟩, o0, o1, o2, o3, o4, o5⟩ := entFields
  obtain ⟨ys, n', _, _, hlen, hyl, hf⟩ := DataW.trod_struct hu ht
  have g0 := hf 0 f0 rfl
  have g1 := hf 1 f1 rfl
  have g2 := hf 2 f2 rfl
  have g3 := hf 3 f3 rfl
  have g4 := hf 4 f4 rfl
  have g5 := hf 5 f5 rfl
  rw [t0, o0, kInt] at g0
  rw [t1, o1, kInt] at g1
  rw [t2, o2, kMail] at g2
  rw [t3, o3, kBool] at g3
  rw [t4, o4, kFs] at g4
  rw [t5, o5, kJs] at g5
  match cs, hcl with
  | [x0, x1, x2, x3, x4, x5, x6, x7, x8, x9], _ =>
    match ys, hyl with
    | [y0, y1, y2, y3, y4, y5], _ =>
      obtain ⟨k0, e0, _, w0⟩ := DataW.trod_int Tryz.underlying3 (show DataW.trod enc Tryz.prog W base spare held n' 3 [x0] = some y0 from g0)
      obtain ⟨k1, e1, _, w1⟩ := DataW.trod_int Tryz.underlying3 (show DataW.trod enc Tryz.prog W base spare held n' 3 [x1] = some y1 from g1)
      obtain ⟨m, sv, hr, hm, e2⟩ := open_mail rfl (show DataW.trod enc Tryz.prog W base spare held n' 24 [x2, x3, x4, x5, x6] = some y2 from g2)
      obtain ⟨b, e3, _⟩ := DataW.trod_bool Tryz.underlying4 (show DataW.trod enc Tryz.prog W base spare held n' 4 [x7] = some y3 from g3)
      obtain ⟨fs, hfr, hfq, hfn⟩ := open_rowK (α := FaP) (k := 2) (en := faE) (Q := fun f => f.1 < 256 ∧ f.2.length ≤ maxLen) Tryz.underlying25 kFate (fun _ => Nat.zero_lt_succ _) (fun _ _ _ hl h => open_fate hl h) (show DataW.trod enc Tryz.prog W base spare held n' 25 [x8] = some y4 from g4)
      obtain ⟨js, hjr, hjq, hjn⟩ := open_rowK (α := JoP) (k := 3) (en := joE) (Q := fun j => j.dom.length ≤ maxLen ∧ (Lit.int .i64 j.tries).wf = true ∧ (Lit.int .i64 j.due).wf = true) Tryz.underlying26 kJob (fun _ => Nat.zero_lt_succ _) (fun _ _ _ hl h => open_job hl h) (show DataW.trod enc Tryz.prog W base spare held n' 26 [x9] = some y5 from g5)
      injection e0 with e0 _
      injection e1 with e1 _
      injection e3 with e3 _
      unfold mailC at e2
      injection e2 with a0 e2
      injection e2 with a1 e2
      injection e2 with a2 e2
      injection e2 with a3 e2
      injection e2 with a4 e2
      exact ⟨⟨k0, k1, m, b, fs, js⟩, sv, x8, x9, ⟨hr, hfr, hjr⟩, ⟨bounds_i64 w0, bounds_i64 w1, hm, hfn, hjn, hfq, fun j hj => ⟨(hjq j hj).1, bounds_i64 (hjq j hj).2.1, bounds_i64 (hjq j hj).2.2⟩⟩, by rw [e0, e1, e3, ← a0, ← a1, ← a2, ← a3, ← a4]; rfl⟩
end rows
end Go.Proofs.YtlpngibdplnieaaGreatDoor

/- The laid variables of the Entry rows: what they give the walks, and a world that has them; the wrap for rows with laid variables whose contract reads the world's shape. -/
namespace Go.Proofs.YtlpngibdplnieaaGreatDoor
open Go Go.ChangeShapes Go.WideShapes Go.ChangeAt Go.RowKit Go.Deep

section wrap
variable {H : Type} {enc : TypeId × Value → H}
/-- The wrap with a condition on the memory and the world's shape. -/
theorem lift_shaped {C : Checked} {os : Os} {f : FuncId} {fn : Func} {s : ChangeSpec} {conds : List PathCond} {apart fresh handsOn again : Bool} {X : World → Array Value → Prop}
    (hX : ∀ (w w' : World) (args : Array Value), w.heap = w'.heap → X w args → X w' args)
    (own : ownKnob C.prog.godebug = none) (started : os.Started) (noInit : C.prog.inits.idxOf? f = none) (hfn : C.prog.funcs[f]? = some fn)
    (witness : ∃ (w : World) (tape : Tape) (i : Input), w.os = os ∧ (w.forCall tape i).Shaped C.prog ∧ i.vars = [] ∧ Input.okWide C.prog (w.forCall tape i) .any w.heap.size f i ∧
      ((s.pre enc C.prog fn conds apart (w.forCall tape i).memory i.args ∧ X (w.forCall tape i).memory i.args) ∧ sizedMet enc C.prog fn (OpenSpec.ofChange s) apart (w.forCall tape i).memory i.args) ∧ ({} : Assume).holds C.prog (lone (Frame.enter C.prog f i.args .normal) [] (w.forCall tape i)))
    (contract : ∀ (W : World) (base : Nat) (args : Array Value) (ds gs : List (DataW H)) (before : List MemPlace),
      (∀ (j : Nat) t v, fn.params[j]? = some t → args[j]? = some v → Value.okWide C.prog W .any base t v) →
      DataW.Whole enc C.prog fn.params.toList s.vars apart W args.toList ds gs before → X W args → W.ShapedOpen C.prog →
      Calls C.prog f args W fun e W' => ∃ v, e = .returned v ∧ s.post enc C.prog fn apart fresh handsOn again W args v W') :
    ReturnsInHanded {} C os f .any (fun w args => (s.pre enc C.prog fn conds apart w args ∧ X w args) ∧ sizedMet enc C.prog fn (OpenSpec.ofChange s) apart w args) (s.post enc C.prog fn apart fresh handsOn again) := by
  refine returnsInHanded_of_calls own started noInit witness ?_
  intro w tape i _ hsh _ hok hpre _
  obtain ⟨_, _, _, fn', hfn', _, _, _, _, hval⟩ := hok
  have e : fn' = fn := Option.some.inj (hfn'.symm.trans hfn)
  subst e
  obtain ⟨⟨⟨ds, gs, before, hw, _⟩, hx⟩, _⟩ := hpre
  have hw' := DataW.Whole.of_heap (w' := w.forCall tape i) (by rfl) hw
  refine (contract (w.forCall tape i) w.heap.size i.args ds gs before hval hw' (hX _ _ _ (by rfl) hx) hsh).mono fun e W' ⟨v, he, hp⟩ => ?_
  subst he
  exact ChangeSpec.post_blind hp
end wrap

def laid6 : List (String × DataW Unit) := [("math/bits.deBruijn32tab", Rows.laid_math_bits_deBruijn32tab), ("math/bits.deBruijn64tab", Rows.laid_math_bits_deBruijn64tab), ("internal/strconv.uint64pow10", Rows.laid_internal_strconv_uint64pow10), ("unicode/utf8.acceptRanges", Rows.laid_unicode_utf8_acceptRanges), ("mailroom/addr.kinds", Rows.laid_mailroom_addr_kinds), ("unicode/utf8.first", Rows.laid_unicode_utf8_first)]
def laid8 : List (String × DataW Unit) := [("math/bits.deBruijn32tab", Rows.laid_math_bits_deBruijn32tab), ("math/bits.deBruijn64tab", Rows.laid_math_bits_deBruijn64tab), ("internal/strconv.uint64pow10", Rows.laid_internal_strconv_uint64pow10), ("unicode/utf8.acceptRanges", Rows.laid_unicode_utf8_acceptRanges), ("strconv.ErrRange", Rows.laid_strconv_ErrRange), ("strconv.ErrSyntax", Rows.laid_strconv_ErrSyntax), ("mailroom/addr.kinds", Rows.laid_mailroom_addr_kinds), ("unicode/utf8.first", Rows.laid_unicode_utf8_first)]
/-- A world with the table of functions. -/
noncomputable def kindsW (os : Os) : World := ((World.holding Tryz.prog os ⟨#[], #[], []⟩).setCell ⟨0, 0, none⟩ (.func (.func 294) #[] #[])).setCell ⟨0, 1, none⟩ (.func (.func 295) #[] #[])
def plainL (l : List (String × DataW Unit)) : List (String × DataW Unit) := l.filter fun x => x.2.handleName?.isNone
/-- .. and with the others of a list. -/
noncomputable def doorW (os : Os) (l : List (String × DataW Unit)) : World := (kindsW os).layVars Tryz.prog (plainL l)
theorem doorW_os (os : Os) (l : List (String × DataW Unit)) : (doorW os l).os = os := World.layVars_os _ _ _
theorem doorW_met (os : Os) (l : List (String × DataW Unit)) (args : Array Value) (hf : (kindsW os).layFits Tryz.prog (plainL l) [] = true)
    (hi : (kindsW os).layIfaces Tryz.prog (plainL l) (doorW os l) = true) : laidMet Tryz.prog (plainL l) ((doorW os l).forCall (fun _ _ => 0) ⟨#[], args, []⟩).memory := by
  have e1 : ((plainL l).filter fun x => ((plainL l).map (·.1)).contains x.1) = plainL l := List.filter_eq_self.2 fun x hx => List.contains_iff_mem.2 (List.mem_map.2 ⟨x, hx, rfl⟩)
  have e2 : ((plainL l).filter fun x => !((plainL l).map (·.1)).contains x.1) = [] := List.filter_eq_nil_iff.2 fun x hx => by rw [List.contains_iff_mem.2 (List.mem_map.2 ⟨x, hx, rfl⟩)]; simp
  have h : laidMet Tryz.prog (plainL l) (doorW os l) := laidMet_layVars (w0 := kindsW os) ((plainL l).map (·.1)) [] (by rw [e1]; rfl) (by rw [e1]; exact hf) (by rw [e1]; exact hi) (by rw [e2]; exact LaidIn.none)
  exact h.of_heap (by simp [World.memory, World.forCall, Input.heap])
set_option maxRecDepth 100000 in
theorem door6 (os : Os) (args : Array Value) : laidMetH Tryz.prog laid6 ((doorW os laid6).forCall (fun _ _ => 0) ⟨#[], args, []⟩).memory :=
  laidMetH_of_parts3 (fuel := 8) (doorW_met os laid6 args (by kernel_rfl) (by kernel_rfl)) (by kernel_rfl) (by kernel_rfl)
theorem gKinds : Tryz.prog.globalNamed "mailroom/addr.kinds" = some 0 := by kernel_rfl
theorem gPow : Tryz.prog.globalNamed "internal/strconv.uint64pow10" = some 4 := by kernel_rfl
theorem tKinds : (Tryz.prog.globals[0]?).map (·.type) = some 195 := by kernel_rfl
theorem tPow : (Tryz.prog.globals[4]?).map (·.type) = some 274 := by kernel_rfl
theorem kFn : Tryz.prog.cellsOf 64 = 1 := by kernel_rfl
theorem kFn2 : Tryz.prog.cellsOf 195 = 2 := by kernel_rfl
theorem kU64 : Tryz.prog.cellsOf 175 = 1 := by kernel_rfl
theorem kPow : Tryz.prog.cellsOf 274 = 20 := by kernel_rfl
theorem powData : (Rows.laid_internal_strconv_uint64pow10 : DataW Unit) = Lib.tabData .u64 Lib.pow10Tab := by kernel_rfl
set_option maxRecDepth 100000 in
theorem glob_of_shaped {W : World} (h : W.ShapedOpen Tryz.prog) : Glob W :=
  Go.Proofs.cell_of_shapedOpen_int (zero := #[.int .i64 0]) (t := 3) h (of_decide_eq_true (by kernel_rfl)) (by kernel_rfl) rfl (by kernel_rfl) (by kernel_rfl) Tryz.underlying3
set_option maxRecDepth 100000 in
/-- What the condition gives the walks. -/
theorem env_of_laid {l : List (String × DataW Unit)} {W : World} (h : laidMetH Tryz.prog l W) (hsh : W.ShapedOpen Tryz.prog) (hk : ("mailroom/addr.kinds", (Rows.laid_mailroom_addr_kinds : DataW Unit)) ∈ l)
    (hp : (l.filter fun x => x.1 == "internal/strconv.uint64pow10") = [("internal/strconv.uint64pow10", Rows.laid_internal_strconv_uint64pow10)]) : Env W := by
  have hkk : W.cell? ⟨0, 0, none⟩ = some (.func (.func 294) #[] #[]) ∧ W.cell? ⟨0, 1, none⟩ = some (.func (.func 295) #[] #[]) := by
    obtain ⟨g, t, cs, fuel, p, hg, ht, hv, hd⟩ := h.funcs hk
    obtain rfl := Option.some.inj (gKinds.symm.trans hg)
    obtain rfl := Option.some.inj (tKinds.symm.trans ht)
    obtain ⟨xs, m, _, ex, hlen, hl, hel⟩ := DataW.trod_array Tryz.underlying195 hd
    rw [kFn2] at hlen
    have hE0 := hel 0 (by decide)
    have hE1 := hel 1 (by decide)
    rw [kFn] at hE0 hE1
    have hex := (Prod.mk.inj ex).1
    have hcell := World.var?_cell hg hv
    obtain ⟨cs⟩ := cs
    match xs, hl with
    | [x0, x1], _ =>
      match cs, hlen with
      | [v0, v1], _ =>
        have h2 := DataW.agg.inj hex
        simp only [List.map_cons, List.map_nil] at h2
        obtain ⟨y0, q0⟩ := x0
        obtain ⟨y1, q1⟩ := x1
        injection h2 with h20 h2
        injection h2 with h21 _
        have e0 := func_of_trod (f0 := 294) Tryz.underlying64 (by kernel_rfl) (hE0.trans (congrArg (fun y => some (y, q0)) h20.symm))
        have e1 := func_of_trod (f0 := 295) Tryz.underlying64 (by kernel_rfl) (hE1.trans (congrArg (fun y => some (y, q1)) h21.symm))
        subst e0 e1
        exact ⟨hcell 0, hcell 1⟩
  refine ⟨glob_of_shaped hsh, hkk.1, hkk.2, ?_⟩
  have h2 := h.filter fun x => x.1 == "internal/strconv.uint64pow10"
  rw [hp, MakeChecks.laidMetH_plain _ _ _ (by kernel_rfl), powData] at h2
  exact Lib.tabIs_of_head gPow tPow Tryz.underlying274 Tryz.underlying175 kU64 kPow h2
end Go.Proofs.YtlpngibdplnieaaGreatDoor
