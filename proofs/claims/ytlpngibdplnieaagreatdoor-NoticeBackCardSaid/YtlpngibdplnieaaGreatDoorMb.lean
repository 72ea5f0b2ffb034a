/- Parts of the proof, joined: Erow, Epl, Eaddr, Eparse, Eprs. -/
import Derived.Test.YtlpngibdplnieaaGreatDoorMa
import Derived.Deep.CutRange
import Derived.Lib.ConvBytes
import Derived.Laws.IdiomStrings
import Derived.Shelf.Strings.LastIndex
import Derived.Lib.LaidTab
import Derived.Lib.ItoaNum
/- Rows of elements of k cells each, wherever they lie. -/
namespace Go.Proofs.YtlpngibdplnieaaGreatDoor
open Go Go.RowKit Go.Shelf Go.Sort

/-- A slice whose elements read as xs, each of k cells. -/
def RowK {α : Type} (k : Nat) (enc : α → List Value) (W : World) (v : Value) (xs : List α) : Prop :=
  ∃ p c, v = .slice p xs.length c ∧ xs.length ≤ c ∧ (xs ≠ [] → ∃ b o, p = some ⟨b, o, none⟩ ∧ ∀ (i : Nat) (hi : i < xs.length) (j : Nat) (u : Value), (enc xs[i])[j]? = some u → W.cell? ⟨b, o + i * k + j, none⟩ = some u)
section
variable {α : Type} {k : Nat} {enc : α → List Value} {W W' : World} {v : Value} {xs : List α}
theorem RowK.nil : RowK k enc W (.slice none 0 0) [] := ⟨none, 0, rfl, Nat.le_refl _, fun h => absurd rfl h⟩
theorem RowK.sh (h : RowK k enc W v xs) : ∃ p c, v = .slice p xs.length c ∧ xs.length ≤ c := by
  obtain ⟨p, c, e, hc, _⟩ := h
  exact ⟨p, c, e, hc⟩
theorem RowK.keep (h : RowK k enc W v xs) (hk : ∀ a u, W.cell? a = some u → W'.cell? a = some u) : RowK k enc W' v xs := by
  obtain ⟨p, c, e, hc, h⟩ := h
  exact ⟨p, c, e, hc, fun hn => by
    obtain ⟨b, o, hp, hx⟩ := h hn
    exact ⟨b, o, hp, fun i hi j u hu => hk _ _ (hx i hi j u hu)⟩⟩
theorem RowK.below (h : RowK k enc W v xs) (hb : Below W.heap.size W W') : RowK k enc W' v xs :=
  h.keep fun a _ hu => (hb.cell (p := a) (cell_lt hu)).trans hu
theorem RowK.at {p : Option Addr} {n c : Nat} (h : RowK k enc W (.slice p n c) xs) (i : Nat) (hi : i < xs.length) :
    ∃ b o, p = some ⟨b, o, none⟩ ∧ ∀ (i : Nat) (hi : i < xs.length) (j : Nat) (u : Value), (enc xs[i])[j]? = some u → W.cell? ⟨b, o + i * k + j, none⟩ = some u := by
  obtain ⟨p', c', e, hc, h⟩ := h
  injection e with e1 _ _
  subst e1
  exact h (fun e => by rw [e] at hi; simp at hi)
theorem RowK.len {p : Option Addr} {n c : Nat} (h : RowK k enc W (.slice p n c) xs) : n = xs.length ∧ n ≤ c := by
  obtain ⟨p', c', e, hc, _⟩ := h
  injection e with _ e2 e3
  subst e2 e3
  exact ⟨rfl, hc⟩
/-- The first ones. -/
theorem RowK.take {p : Option Addr} {n c : Nat} (h : RowK k enc W (.slice p n c) xs) (i : Nat) (hi : i ≤ xs.length) : RowK k enc W (.slice p i c) (xs.take i) := by
  obtain ⟨p', c', e, hc, h⟩ := h
  injection e with e1 e2 e3
  subst e1 e2 e3
  have hl : (xs.take i).length = i := by simp; omega
  refine ⟨p, c, by rw [hl], by omega, fun hn => ?_⟩
  obtain ⟨b, o, hp, hx⟩ := h (fun e => hn (by rw [e]; simp))
  exact ⟨b, o, hp, fun j hj m u hu => hx j (by omega) m u (by simpa using hu)⟩
end
end Go.Proofs.YtlpngibdplnieaaGreatDoor

/- Addresses and mails that may be, in plain Lean. -/
namespace Go.Proofs.YtlpngibdplnieaaGreatDoor
open Go

def letB (c : UInt8) : Bool := (97 ≤ c && c ≤ 122) || (65 ≤ c && c ≤ 90) || (48 ≤ c && c ≤ 57)
/-- The signs of an atom, beside letters and digits. -/
def signB : Bytes := [33, 35, 36, 37, 38, 39, 42, 43, 45, 47, 61, 63, 94, 95, 123, 124, 125, 126, 96]
/-- atoms, behind what came ahead. -/
def atomsF : Bool → Bytes → Bool
  | dot, [] => !dot
  | was, c :: r => ((c == 46 && !was) || (c != 46 && (letB c || signB.contains c))) && atomsF (c == 46) r
def atomsB (s : Bytes) : Bool := atomsF true s
def quotedF : Bool → Bytes → Bool
  | marked, [] => !marked
  | was, c :: r => (32 ≤ c && c ≤ 126 && (was || c != 34)) && quotedF (c == 92 && !was) r
def quotedB (s : Bytes) : Bool := match s with
  | 34 :: r => (r.getLast? == some 34) && quotedF false r.dropLast
  | _ => false
def lowB (c : UInt8) : UInt8 := if 65 ≤ c && c ≤ 90 then c + 32 else c
/-- A name without the dot at its end. -/
def undotB (s : Bytes) : Bytes := if s.getLast? = some 46 then s.dropLast else s
def foldB (s : Bytes) : Option Bytes := if mayB ((undotB s).map lowB) then some ((undotB s).map lowB) else none
/-- What stands ahead of, and behind, the last one. -/
def splitLast (b : UInt8) : Bytes → Option (Bytes × Bytes)
  | [] => none
  | c :: r => match splitLast b r with
    | some (l, d) => some (c :: l, d)
    | none => if c = b then some ([], r) else none
theorem splitLast_none {b : UInt8} : ∀ {s : Bytes}, b ∉ s → splitLast b s = none
  | [], _ => rfl
  | c :: r, h => by
    unfold splitLast
    rw [splitLast_none (s := r) (fun hm => h (List.mem_cons_of_mem _ hm))]
    exact if_neg (fun e => h (by rw [e]; exact List.mem_cons_self))
theorem splitLast_some {b : UInt8} {d : Bytes} (h : b ∉ d) : ∀ (l : Bytes), splitLast b (l ++ b :: d) = some (l, d)
  | [] => by
    show splitLast b (b :: d) = _
    unfold splitLast
    rw [splitLast_none h]
    exact if_pos rfl
  | c :: l => by
    show splitLast b (c :: (l ++ b :: d)) = _
    unfold splitLast
    rw [splitLast_some h l]
/-- The local part and the domain of an address. -/
def partsB (s : Bytes) : Option (Bytes × Bytes) := splitLast 64 s
def parseB (s : Bytes) : Option (Bytes × Bytes) := match partsB s with
  | some (l, d) => if l = [] ∨ 64 < l.length ∨ s.getLast? = some 46 ∨ (atomsB l || quotedB l) = false then none else (foldB d).map fun d => (l, d)
  | none => none
def addrB (s : Bytes) : Bool := (parseB s).isSome
def sameA (a b : Bytes) : Bool := (parseB a).isSome && (parseB b).isSome && decide (parseB a = parseB b)
def pathB (s : Bytes) : Bool := s.isEmpty || addrB s
/-! ### Mails -/
/-- The lines of a text, each with its end, and what is left; n: so many at most. -/
def linesF : Nat → Bytes → List Bytes × Bytes
  | 0, s => ([], s)
  | n + 1, s => match Lib.cut s [13, 10] with
    | (l, r, true) => (l :: (linesF n r).1, (linesF n r).2)
    | (_, _, false) => ([], s)
def linesB (s : Bytes) : List Bytes × Bytes := linesF s.length s
def lineOk (l : Bytes) : Bool := decide (l.length + 2 ≤ 512) && l.all fun c => c == 9 || (32 ≤ c && c ≤ 126)
def textB (s : Bytes) : Bool := (linesB s).1.all lineOk && (linesB s).2.isEmpty
structure MailP where
  sender : Bytes
  rcpts : List (Bytes × Bool)
  req : Bool
  envid : Bytes
  text : Bytes
  deriving DecidableEq
def envB (s : Bytes) : Bool := s.all fun c => letB c || c == 45
/-- No recipient is the same as one ahead of it. -/
def rcptsB : List Bytes → List Bytes → Bool
  | _, [] => true
  | ahead, r :: l => addrB r && !(ahead.any fun x => sameA x r) && rcptsB (ahead ++ [r]) l
def mailB (m : MailP) (rcpts most : Nat) : Nat :=
  if most < m.text.length ∨ rcpts < m.rcpts.length then 40 else
  if pathB m.sender && decide (0 < m.rcpts.length) && decide (m.envid.length ≤ 32) && textB m.text && envB m.envid && rcptsB [] (m.rcpts.map (·.1)) then 0 else 4
/-! ### What stands at a text's head -/
def namedB (s : Bytes) : Bool := (s.all fun c => 33 ≤ c && c ≤ 126 && c != 58) && !s.isEmpty
def blankB (c : UInt8) : Bool := c == 32 || c == 9
def trimB (s : Bytes) : Bytes := (s.reverse.dropWhile blankB).reverse.dropWhile blankB
def beginsB (l : Bytes) : Option (Bytes × Bytes) := match Lib.cut l [58] with
  | (n, v, f) => if f && namedB n then some (n, v) else none
def tellB : Option (Bytes × Bytes) → List (Bytes × Bytes)
  | some (n, v) => [(n, trimB v)]
  | none => []
def goesOn (now : Option (Bytes × Bytes)) (l : Bytes) : Bool := now.isSome && !l.isEmpty && (l.head?.any blankB)
def fieldsF : Option (Bytes × Bytes) → List Bytes → List (Bytes × Bytes)
  | now, [] => tellB now
  | now, l :: r => if goesOn now l then fieldsF (now.map fun f => (f.1, f.2 ++ l)) r else
    tellB now ++ match beginsB l with
      | some f => fieldsF (some f) r
      | none => []
def fieldsB (s : Bytes) : List (Bytes × Bytes) := fieldsF none (linesB s).1
def likeB (a b : Bytes) : Bool := decide (a.map lowB = b.map lowB)
/-- TLS-Required -/
def reqName : Bytes := [84, 76, 83, 45, 82, 101, 113, 117, 105, 114, 101, 100]
def getB (s n : Bytes) : List Bytes := ((fieldsB s).filter fun f => likeB f.1 n).map (·.2)
def plainB (s : Bytes) : Bool := match getB s reqName with
  | [v] => likeB v [78, 111]
  | _ => false
def plainM (m : MailP) : Bool := plainB m.text && !m.req
end Go.Proofs.YtlpngibdplnieaaGreatDoor

/- Package addr, walked: letters, each, atoms, quoted texts. -/
namespace Go.Proofs.YtlpngibdplnieaaGreatDoor
open Go Go.RowKit Go.Shelf Go.Sort

theorem bneI (a b : Int) : (a != b) = !decide (a = b) := by
  by_cases h : a = b <;> simp [h]
attribute [local go_sem] bneI
def natI : Value → Nat | .int _ n => n.toNat | _ => 0
theorem letB_int (c : UInt8) : letB c = ((decide (97 ≤ (c.toNat : Int)) && decide ((c.toNat : Int) ≤ 122)) || (decide (65 ≤ (c.toNat : Int)) && decide ((c.toNat : Int) ≤ 90)) || (decide (48 ≤ (c.toNat : Int)) && decide ((c.toNat : Int) ≤ 57))) := by
  unfold letB
  congr 1
  · congr 1 <;> congr 1 <;> exact decide_eq_decide.2 (by rw [UInt8.le_iff_toNat_le]; simp; omega)
  · congr 1 <;> exact decide_eq_decide.2 (by rw [UInt8.le_iff_toNat_le]; simp; omega)

set_option maxRecDepth 100000 in
set_option maxHeartbeats 1000000 in
theorem letter_any (c : UInt8) (w : World) : Calls Tryz.prog 74 #[.int .u8 (c.toNat : Int)] w fun e w' => e = .returned (.bool (letB c)) ∧ w' = w := by
  have hl := letB_int c
  generalize letB c = r at hl
  have hc := c.toNat_lt
  generalize c.toNat = n at hl hc
  have hk : ((n : Int) < 48 ∧ r = false) ∨ (48 ≤ (n : Int) ∧ (n : Int) ≤ 57 ∧ r = true) ∨ (57 < (n : Int) ∧ (n : Int) < 65 ∧ r = false) ∨ (65 ≤ (n : Int) ∧ (n : Int) ≤ 90 ∧ r = true) ∨ (90 < (n : Int) ∧ (n : Int) < 97 ∧ r = false) ∨ (97 ≤ (n : Int) ∧ (n : Int) ≤ 122 ∧ r = true) ∨ (122 < (n : Int) ∧ r = false) := by
    rw [hl]
    simp only [Bool.or_eq_true, Bool.and_eq_true, decide_eq_true_eq, Bool.or_eq_false_iff, Bool.and_eq_false_iff, decide_eq_false_iff_not]
    omega
  clear hl hc
  rcases hk with ⟨h1, rfl⟩ | ⟨h1, h2, rfl⟩ | ⟨h1, h2, rfl⟩ | ⟨h1, h2, rfl⟩ | ⟨h1, h2, rfl⟩ | ⟨h1, h2, rfl⟩ | ⟨h1, rfl⟩
  all_goals
    go_enter Tryz.func74, Tryz.ntmps74
    go_wp2
    go_ret
    exact ⟨by first | rfl | (simp; omega), rfl⟩

/-- What each answers, and where it stopped. -/
def EachPost (s : Bytes) (f : Bytes → UInt8 → Bool) (J : Bytes → World → Prop) (e : Ending) (w' : World) : Prop :=
  ∃ t : Bytes, J t w' ∧ ((e = .returned (.bool true) ∧ t = s ∧ ∀ (j : Nat) (hj : j < s.length), f (s.take j) s[j] = true) ∨ (e = .returned (.bool false) ∧ ∃ (j : Nat) (hj : j < s.length), f (s.take j) s[j] = false))
set_option maxRecDepth 100000 in
set_option maxHeartbeats 1000000 in
theorem each_any (s : Bytes) (F : FuncId) (hE : ∀ args w, (callFunc F args).run Tryz.prog w = .ok (.enter F args) w) (caps : Array Value) (f : Bytes → UInt8 → Bool) (J : Bytes → World → Prop) (w : World) (hs : s.length ≤ maxLen)
    (hF : ∀ (pre : Bytes) (c : UInt8) (W : World), J pre W → Calls Tryz.prog F (#[.int .u8 (c.toNat : Int)] ++ caps) W fun e W' => e = .returned (.bool (f pre c)) ∧ J (pre ++ [c]) W')
    (h0 : J [] w) :
    Calls Tryz.prog 72 #[.string ⟨s.toArray⟩, .func (.func F) #[] caps] w (EachPost s f J) := by
  unfold maxLen at hs
  obtain ⟨sb, hsb⟩ : ∃ sb : ByteArray, sb = ⟨s.toArray⟩ := ⟨_, rfl⟩
  have hd : sb.data.toList = s := by rw [hsb]
  have hz : sb.size = s.length := by rw [hsb]; simp [ByteArray.size]
  have hget : ∀ (i : Nat) (h1 : i < sb.size) (h2 : i < s.length), sb[i] = s[i] := by intro i h1 h2; subst hsb; rfl
  rw [← hsb]
  have HS := Lib.hid (And.intro hd (And.intro hz hget))
  have hsz : sb.size ≤ 9223372036854775807 := by omega
  have HF := Lib.hid (And.intro hF h0)
  clear hd hz hget hsb hs hF h0
  go_enter Tryz.func72, Tryz.ntmps72
  go_wp2_with fail
  go_loopw [8] (fun iv wr => ∃ i : Nat, iv = .int .i64 (i : Int) ∧ i ≤ sb.size ∧ J (s.take i) wr ∧ ∀ (j : Nat) (hj : j < s.length), j < i → f (s.take j) s[j] = true) (fun iv _ => sb.size - natI iv)
  case atStart => exact ⟨0, rfl, Nat.zero_le _, by simpa using HF.out.2, fun j hj h => absurd h (Nat.not_lt_zero _)⟩
  case round =>
    obtain ⟨i, rfl, hi, hJ, hall⟩ := hrel
    by_cases hlast : i < sb.size
    · have hli : (i : Int) < (sb.size : Int) := by omega
      have hk : i < s.length := by have := HS.out.2.1; omega
      have hcl := HF.out.1 (s.take i) s[i] wr hJ
      rw [← HS.out.2.2 i hlast hk] at hcl
      have htk : s.take (i + 1) = s.take i ++ [s[i]] := List.take_succ_eq_append_getElem hk
      have HR := Lib.hid (And.intro hall (And.intro htk (HS.out.2.2 i hlast hk)))
      clear hall htk hJ
      have hrun : Sem.run Tryz.prog (callFunc F (#[.int .u8 (sb[i].toNat : Int)] ++ caps)) wr = .ok (.enter F (#[.int .u8 (sb[i].toNat : Int)] ++ caps)) wr := hE _ _
      go_wp2_with fail
      refine hcl.mono ?_
      rintro e w1 ⟨rfl, hJ1⟩
      clear hrun hcl
      rw [HS.out.2.2 i hlast hk] at hJ1 ⊢
      rw [← HR.out.2.1] at hJ1
      cases hf : f (s.take i) s[i] with
      | true =>
        have HN := Lib.hid (And.intro hJ1 hf)
        clear hJ1 hf
        go_wp2
        go_roundw
        case rel => exact ⟨i + 1, by simp, by omega, HN.out.1, fun j hj h => by
          by_cases e : j = i
          · subst e; exact HN.out.2
          · exact HR.out.1 j hj (by omega)⟩
        case measure => simp [natI]; omega
      | false =>
        have HN := Lib.hid (And.intro hJ1 hf)
        clear hJ1 hf
        go_wp2
        refine bodyPost_ret (v := .bool false) (by simp [results, Tryz.results72, go_sem]) rfl ⟨_, HN.out.1, .inr ⟨rfl, i, hk, HN.out.2⟩⟩
    · have hli : ¬ (i : Int) < (sb.size : Int) := by omega
      have hil : s.length ≤ i := by have := HS.out.2.1; omega
      have HN := Lib.hid (And.intro hJ (And.intro hall hil))
      clear hJ hall hil
      go_wp2
      refine bodyPost_ret (v := .bool true) (by simp [results, Tryz.results72, go_sem]) rfl ⟨_, HN.out.1, .inl ⟨rfl, List.take_of_length_le HN.out.2.2, fun j hj => HN.out.2.1 j hj (by have := HN.out.2.2; omega)⟩⟩

/-! ### Atoms -/
def atomC (was : Bool) (c : UInt8) : Bool := (c == 46 && !was) || (c != 46 && (letB c || signB.contains c))
def dotB (pre : Bytes) : Bool := match pre.getLast? with | some c => c == 46 | none => true
theorem sign_index (c : UInt8) : decide (0 ≤ Lib.indexByte signB c) = signB.contains c := by
  have h : ∀ n : Fin 256, decide (0 ≤ Lib.indexByte signB (UInt8.ofNat n.val)) = signB.contains (UInt8.ofNat n.val) := by decide +kernel
  have := h ⟨c.toNat, c.toNat_lt⟩
  simpa using this
set_option maxRecDepth 100000 in
set_option maxHeartbeats 1000000 in
theorem atom1_any (c : UInt8) (b : Nat) (was : Bool) (w : World) (hb : w.heap[b]? = some (.cells #[.bool was] 4 (0, 0))) :
    Calls Tryz.prog 296 (#[.int .u8 (c.toNat : Int)] ++ #[.pointer (some ⟨b, 0, none⟩)]) w fun e w' => e = .returned (.bool (atomC was c)) ∧ w' = w.setCell ⟨b, 0, none⟩ (.bool (c == 46)) := by
  have hb2 := box_set (.bool (c == 46)) hb
  obtain ⟨x0, f0⟩ := box_cell hb
  obtain ⟨y0, -⟩ := box_cell hb2
  have hL := fun w => letter_any c w
  have hI := fun w => Tryz.strings_IndexByte ⟨signB.toArray⟩ (c.toNat : Int) w
  have hsi := sign_index c
  have hcc : ((c.toNat : Int)).toNat.toUInt8 = c := by simp
  simp only [hcc] at hI
  clear hcc hb hb2
  have hat : atomC was c = ((c == 46 && !was) || (c != 46 && (letB c || signB.contains c))) := rfl
  rw [hat]
  rw [← hsi]
  clear hat hsi
  obtain ⟨ix, hix⟩ : ∃ ix, ix = Lib.indexByte signB c := ⟨_, rfl⟩
  have e0 : (⟨signB.toArray⟩ : ByteArray).data.toList = signB := rfl
  simp only [← hix] at hI ⊢
  clear e0 hix
  unfold signB at hI
  generalize letB c = lt at *
  by_cases hc : c = 46
  · subst hc
    go_enter Tryz.func296, Tryz.ntmps296
    cases was
    · go_wp2
      refine bodyPost_ret (v := .bool true) (by simp [results, Tryz.results296, go_sem]) rfl ⟨by simp, rfl⟩
    · go_wp2
      refine bodyPost_ret (v := .bool false) (by simp [results, Tryz.results296, go_sem]) rfl ⟨by simp, rfl⟩
  · have hcf : (c == 46) = false := by simpa using hc
    have hn : ((c.toNat : Int) == 46) = false := by
      rw [beq_eq_false_iff_ne]
      intro e
      exact hc (UInt8.toNat_inj.1 (by simpa using (show c.toNat = 46 by omega)))
    have hnd : decide ((c.toNat : Int) = 46) = false := by simpa using hn
    rw [hcf] at y0 ⊢
    have hne : (c != 46) = true := by simpa using hc
    rw [hne]
    clear hc hcf hne
    generalize c.toNat = n at *
    go_enter Tryz.func296, Tryz.ntmps296
    go_wp2_with fail
    refine (hL _).mono ?_
    rintro e w1 ⟨rfl, rfl⟩
    cases lt
    · go_wp2_with fail
      refine (hI _).mono ?_
      rintro e w1 ⟨rfl, rfl⟩
      clear hI hL
      go_wp2
      refine bodyPost_ret (v := .bool (decide (0 ≤ ix))) (by simp [results, Tryz.results296, go_sem]) rfl ⟨by simp, rfl⟩
    · go_wp2
      refine bodyPost_ret (v := .bool true) (by simp [results, Tryz.results296, go_sem]) rfl ⟨by simp, rfl⟩
theorem atomsF_iff : ∀ (s pre : Bytes), (atomsF (dotB pre) s = true ↔ (∀ (j : Nat) (hj : j < s.length), atomC (dotB (pre ++ s.take j)) s[j] = true) ∧ dotB (pre ++ s) = false)
  | [], pre => by simp [atomsF]
  | c :: r, pre => by
    have hd : dotB (pre ++ [c]) = (c == 46) := by simp [dotB]
    have ih := atomsF_iff r (pre ++ [c])
    rw [hd] at ih
    unfold atomsF
    rw [Bool.and_eq_true, ih]
    constructor
    · rintro ⟨h1, h2, h3⟩
      refine ⟨fun j hj => ?_, by simpa using h3⟩
      cases j with
      | zero => simpa [atomC] using h1
      | succ j => have := h2 j (by simpa using hj); simpa using this
    · rintro ⟨h2, h3⟩
      refine ⟨by have := h2 0 (by simp); simpa [atomC] using this, fun j hj => ?_, by simpa using h3⟩
      have := h2 (j + 1) (by simpa using hj)
      simpa using this
set_option maxRecDepth 100000 in
set_option maxHeartbeats 1000000 in
theorem atoms_any (s : Bytes) (w : World) (hs : s.length ≤ maxLen) : Calls Tryz.prog 294 #[.string ⟨s.toArray⟩] w fun e w' => e = .returned (.bool (atomsB s)) ∧ Below w.heap.size w w' := by
  have hE := fun W (h0 : W.heap[w.heap.size]? = some (.cells #[.bool (dotB [])] 4 (0, 0)) ∧ Below w.heap.size w W) => each_any s 296 (enters_of Tryz.func296 (by kernel_rfl) rfl) #[.pointer (some ⟨w.heap.size, 0, none⟩)] (fun pre c => atomC (dotB pre) c)
    (fun pre W => W.heap[w.heap.size]? = some (.cells #[.bool (dotB pre)] 4 (0, 0)) ∧ Below w.heap.size w W) W hs
    (fun pre c W h => (atom1_any c w.heap.size (dotB pre) W h.1).mono fun e w' hh => by
      obtain ⟨rfl, rfl⟩ := hh
      have hd : dotB (pre ++ [c]) = (c == 46) := by simp [dotB]
      refine ⟨rfl, ?_, h.2.setCell (p := ⟨w.heap.size, 0, none⟩) (Nat.le_refl _) _⟩
      rw [hd]
      exact box_set _ h.1) h0
  have hF := atomsF_iff s []
  have hd0 : dotB [] = true := rfl
  rw [hd0] at hF
  have HS := Lib.hid hF
  have h1 := hE (w.alloc (.cells #[.bool true] 4)) ⟨ha_eq rfl, (Below.refl _ w).alloc (Nat.le_refl _) _⟩
  clear hE hF hs
  go_enter Tryz.func294, Tryz.ntmps294
  go_wp2_with fail
  refine h1.mono ?_
  rintro e w1 ⟨t, ⟨hb, hB⟩, h | h⟩
  · obtain ⟨rfl, rfl, hall⟩ := h
    obtain ⟨x0, -⟩ := box_cell hb
    have hr : atomsB t = !dotB t := by
      have h2 := HS.out
      simp only [List.nil_append] at h2
      unfold atomsB
      rw [Bool.eq_iff_iff, h2]
      constructor
      · rintro ⟨_, h⟩; simp [h]
      · intro h; exact ⟨hall, by simpa using h⟩
    have HB := Lib.hid (And.intro hB hr)
    clear hall hB hb h1 hr
    go_wp2
    refine bodyPost_ret (v := .bool (!dotB t)) (by simp [results, Tryz.results294, go_sem]) rfl ⟨by rw [HB.out.2], HB.out.1⟩
  · obtain ⟨rfl, j, hj, hf⟩ := h
    obtain ⟨x0, -⟩ := box_cell hb
    have hr : atomsB s = false := by
      have h2 := HS.out
      simp only [List.nil_append] at h2
      unfold atomsB
      rw [← Bool.not_eq_true, h2]
      rintro ⟨h, _⟩
      exact Bool.noConfusion ((show atomC (dotB (s.take j)) s[j] = false from hf).symm.trans (h j hj))
    have HB := Lib.hid (And.intro hB hr)
    clear hf hB hb h1 hr
    go_wp2
    refine bodyPost_ret (v := .bool false) (by simp [results, Tryz.results294, go_sem]) rfl ⟨by rw [HB.out.2], HB.out.1⟩

/-! ### Quoted texts -/
def quoteC (was : Bool) (c : UInt8) : Bool := 32 ≤ c && c ≤ 126 && (was || c != 34)
def markF : Bool → Bytes → Bool
  | m, [] => m
  | m, c :: r => markF (c == 92 && !m) r
theorem markF_snoc : ∀ (s : Bytes) (m : Bool) (c : UInt8), markF m (s ++ [c]) = (c == 92 && !markF m s)
  | [], _, _ => rfl
  | _ :: r, _, c => markF_snoc r _ c
theorem quotedF_iff : ∀ (s : Bytes) (m : Bool), (quotedF m s = true ↔ (∀ (j : Nat) (hj : j < s.length), quoteC (markF m (s.take j)) s[j] = true) ∧ markF m s = false)
  | [], m => by simp [quotedF, markF]
  | c :: r, m => by
    have ih := quotedF_iff r (c == 92 && !m)
    unfold quotedF
    rw [Bool.and_eq_true, ih]
    constructor
    · rintro ⟨h1, h2, h3⟩
      refine ⟨fun j hj => ?_, h3⟩
      cases j with
      | zero => exact h1
      | succ j => exact h2 j (by simpa using hj)
    · rintro ⟨h2, h3⟩
      exact ⟨h2 0 (by simp), fun j hj => h2 (j + 1) (by simpa using hj), h3⟩
theorem quoteC_int (was : Bool) (c : UInt8) : quoteC was c = (decide (32 ≤ (c.toNat : Int)) && decide ((c.toNat : Int) ≤ 126) && (was || !decide ((c.toNat : Int) = 34))) := by
  unfold quoteC
  congr 1
  · congr 1 <;> exact decide_eq_decide.2 (by rw [UInt8.le_iff_toNat_le]; simp; omega)
  · congr 1
    rw [Bool.eq_iff_iff]
    simp only [bne_iff_ne, ne_eq, Bool.not_eq_true', decide_eq_false_iff_not, ← UInt8.toNat_inj]
    simp
    omega
theorem eqI (c : UInt8) (k : Nat) (hk : k < 256) : (c == UInt8.ofNat k) = decide ((c.toNat : Int) = k) := by
  rw [Bool.eq_iff_iff]
  simp only [beq_iff_eq, decide_eq_true_eq, ← UInt8.toNat_inj]
  simp [Nat.mod_eq_of_lt hk]
  omega
set_option maxRecDepth 100000 in
set_option maxHeartbeats 1000000 in
theorem quoted1_any (c : UInt8) (b : Nat) (was : Bool) (w : World) (hb : w.heap[b]? = some (.cells #[.bool was] 4 (0, 0))) :
    Calls Tryz.prog 297 (#[.int .u8 (c.toNat : Int)] ++ #[.pointer (some ⟨b, 0, none⟩)]) w fun e w' => e = .returned (.bool (quoteC was c)) ∧ w' = w.setCell ⟨b, 0, none⟩ (.bool (c == 92 && !was)) := by
  rw [quoteC_int, show (92 : UInt8) = UInt8.ofNat 92 from rfl, eqI c 92 (by decide), show ((92 : Nat) : Int) = 92 from rfl]
  have hc := c.toNat_lt
  generalize c.toNat = n at *
  obtain ⟨x0, f0⟩ := box_cell hb
  by_cases h92 : (n : Int) = 92
  · have h1 : ((n : Int) == 92) = true := by rw [h92]; rfl
    have h2 : decide ((n : Int) = 92) = true := by rw [h92]; rfl
    have h3 : (32 : Int) ≤ n := by omega
    have h4 : (n : Int) ≤ 126 := by omega
    have h5 : decide ((n : Int) = 34) = false := by rw [h92]; rfl
    have hb2 := box_set (.bool (!was)) hb
    obtain ⟨y0, -⟩ := box_cell hb2
    clear hb hb2
    have hp : decide (32 ≤ (n : Int)) = true := decide_eq_true h3
    have hq : decide ((n : Int) ≤ 126) = true := decide_eq_true h4
    rw [h2, h5, hp, hq]
    clear hp hq h92
    cases was
    all_goals
      go_enter Tryz.func297, Tryz.ntmps297
      go_wp2
      refine bodyPost_ret (v := .bool true) (by simp [results, Tryz.results297, go_sem]) rfl ⟨by simp, rfl⟩
  · have h1 : ((n : Int) == 92) = false := by simpa using h92
    have h2 : decide ((n : Int) = 92) = false := by simpa using h92
    have hb2 := box_set (.bool false) hb
    obtain ⟨y0, -⟩ := box_cell hb2
    clear hb hb2
    rw [h2]
    clear h92
    have hk : (n : Int) < 32 ∨ 126 < (n : Int) ∨ ((32 ≤ (n : Int) ∧ (n : Int) ≤ 126) ∧ (n : Int) = 34) ∨ ((32 ≤ (n : Int) ∧ (n : Int) ≤ 126) ∧ ¬ (n : Int) = 34) := by omega
    rcases hk with h3 | h3 | ⟨⟨h3, h4⟩, h5⟩ | ⟨⟨h3, h4⟩, h5⟩
    · have hp : decide (32 ≤ (n : Int)) = false := decide_eq_false (by omega)
      rw [hp]
      go_enter Tryz.func297, Tryz.ntmps297
      go_wp2
      refine bodyPost_ret (v := .bool false) (by simp [results, Tryz.results297, go_sem]) rfl ⟨by simp, rfl⟩
    · have hp : decide ((n : Int) ≤ 126) = false := decide_eq_false (by omega)
      have h4 : (32 : Int) ≤ n := by omega
      have hq : decide (32 ≤ (n : Int)) = true := decide_eq_true h4
      rw [hp, hq]
      clear hq
      go_enter Tryz.func297, Tryz.ntmps297
      go_wp2
      refine bodyPost_ret (v := .bool false) (by simp [results, Tryz.results297, go_sem]) rfl ⟨by simp, rfl⟩
    · have hp : decide ((n : Int) ≤ 126) = true := decide_eq_true h4
      have hq : decide (32 ≤ (n : Int)) = true := decide_eq_true h3
      have hr : decide ((n : Int) = 34) = true := decide_eq_true h5
      have hr2 : ((n : Int) == 34) = true := by rw [h5]; rfl
      rw [hp, hq, hr]
      clear hp hq h5
      cases was
      · go_enter Tryz.func297, Tryz.ntmps297
        go_wp2
        refine bodyPost_ret (v := .bool false) (by simp [results, Tryz.results297, go_sem]) rfl ⟨by simp, rfl⟩
      · go_enter Tryz.func297, Tryz.ntmps297
        go_wp2
        refine bodyPost_ret (v := .bool true) (by simp [results, Tryz.results297, go_sem]) rfl ⟨by simp, rfl⟩
    · have hp : decide ((n : Int) ≤ 126) = true := decide_eq_true h4
      have hq : decide (32 ≤ (n : Int)) = true := decide_eq_true h3
      have hr : decide ((n : Int) = 34) = false := decide_eq_false h5
      have hr2 : ((n : Int) == 34) = false := by simpa using h5
      rw [hp, hq, hr]
      clear hp hq h5
      cases was
      all_goals
        go_enter Tryz.func297, Tryz.ntmps297
        go_wp2
        refine bodyPost_ret (v := .bool true) (by simp [results, Tryz.results297, go_sem]) rfl ⟨by simp, rfl⟩

theorem trimPrefix34 (s : Bytes) : Lib.hasPrefix s [34] = (s.head? == some 34) ∧ Lib.trimPrefix s [34] = if s.head? = some 34 then s.tail else s := by
  cases s with
  | nil => simp [Lib.hasPrefix, Lib.trimPrefix, List.isPrefixOf]
  | cons c r =>
    by_cases h : c = 34
    · subst h; simp [Lib.hasPrefix, Lib.trimPrefix, List.isPrefixOf]
    · have h' : ¬ 34 = c := fun e => h e.symm
      simp [Lib.hasPrefix, Lib.trimPrefix, List.isPrefixOf, h, h']
      exact BEq.comm
theorem trimSuffix1 (s : Bytes) (b : UInt8) : Lib.hasSuffix s [b] = (s.getLast? == some b) ∧ Lib.trimSuffix s [b] = if s.getLast? = some b then s.dropLast else s := by
  rcases List.eq_nil_or_concat s with rfl | ⟨r, c, rfl⟩
  · simp [Lib.hasSuffix, Lib.trimSuffix, List.isSuffixOf]
  · by_cases h : c = b
    · subst h; simp [Lib.hasSuffix, Lib.trimSuffix, List.isSuffixOf, List.isPrefixOf]
    · have h' : ¬ b = c := fun e => h e.symm
      simp [Lib.hasSuffix, Lib.trimSuffix, List.isSuffixOf, List.isPrefixOf, h, h']
      exact BEq.comm

def isHead (s : Bytes) : Bool := s.head? == some 34
def isLast (s : Bytes) : Bool := s.getLast? == some 34
def unHead (s : Bytes) : Bytes := if s.head? = some 34 then s.tail else s
def unLast (s : Bytes) : Bytes := if s.getLast? = some 34 then s.dropLast else s
theorem quotedB_eq (s : Bytes) : quotedB s = (isHead s && isLast (unHead s) && quotedF false (unLast (unHead s))) := by
  unfold quotedB isHead isLast unHead unLast
  cases s with
  | nil => rfl
  | cons c r =>
    by_cases h : c = 34
    · subst h
      by_cases hl : r.getLast? = some 34
      · simp [hl]
      · have hl' : (r.getLast? == some 34) = false := by simpa using hl
        simp [hl']
    · simp [h]
theorem unHead_le (s : Bytes) : (unHead s).length ≤ s.length := by
  unfold unHead
  split <;> simp <;> omega
theorem unLast_le (s : Bytes) : (unLast (unHead s)).length ≤ s.length := by
  unfold unLast unHead
  split <;> split <;> simp <;> omega
set_option maxRecDepth 100000 in
set_option maxHeartbeats 1000000 in
theorem quoted_any (s : Bytes) (w : World) (hs : s.length ≤ maxLen) : Calls Tryz.prog 295 #[.string ⟨s.toArray⟩] w fun e w' => e = .returned (.bool (quotedB s)) ∧ Below w.heap.size w w' := by
  have hP := Tryz.strings_CutPrefix ⟨s.toArray⟩ ⟨#[34]⟩ w
  have hQ := Tryz.strings_CutSuffix ⟨(unHead s).toArray⟩ ⟨#[34]⟩ w (by have := unHead_le s; unfold maxLen at hs; simp [ByteArray.size]; omega)
  have e1 : (⟨s.toArray⟩ : ByteArray).data.toList = s := rfl
  have e2 : (⟨(unHead s).toArray⟩ : ByteArray).data.toList = unHead s := rfl
  have e3 : (⟨#[34]⟩ : ByteArray).data.toList = [34] := rfl
  rw [e1, e3, (trimPrefix34 s).1, (trimPrefix34 s).2] at hP
  rw [e2, e3, (trimSuffix1 _ _).1, (trimSuffix1 _ _).2] at hQ
  have hP' : Calls Tryz.prog 141 #[.string ⟨s.toArray⟩, .string ⟨#[34]⟩] w fun e w' => e = .returned (.tuple #[.string ⟨(unHead s).toArray⟩, .bool (isHead s)]) ∧ w' = w := hP
  have hQ' : Calls Tryz.prog 142 #[.string ⟨(unHead s).toArray⟩, .string ⟨#[34]⟩] w fun e w' => e = .returned (.tuple #[.string ⟨(unLast (unHead s)).toArray⟩, .bool (isLast (unHead s))]) ∧ w' = w := hQ
  have hlen : (unLast (unHead s)).length ≤ maxLen := Nat.le_trans (unLast_le s) hs
  have hq := quotedB_eq s
  clear hP hQ e1 e2 e3 hs
  generalize unLast (unHead s) = u at *
  generalize unHead s = v at *
  generalize isHead s = r1 at *
  generalize isLast v = r2 at *
  have hE := fun W (h0 : W.heap[w.heap.size]? = some (.cells #[.bool (markF false [])] 4 (0, 0)) ∧ Below w.heap.size w W) => each_any u 297 (enters_of Tryz.func297 (by kernel_rfl) rfl) #[.pointer (some ⟨w.heap.size, 0, none⟩)] (fun pre c => quoteC (markF false pre) c)
    (fun pre W => W.heap[w.heap.size]? = some (.cells #[.bool (markF false pre)] 4 (0, 0)) ∧ Below w.heap.size w W) W hlen
    (fun pre c W h => (quoted1_any c w.heap.size (markF false pre) W h.1).mono fun e w' hh => by
      obtain ⟨rfl, rfl⟩ := hh
      refine ⟨rfl, ?_, h.2.setCell (p := ⟨w.heap.size, 0, none⟩) (Nat.le_refl _) _⟩
      rw [markF_snoc]
      exact box_set _ h.1) h0
  have h1 := hE (w.alloc (.cells #[.bool false] 4)) ⟨ha_eq rfl, (Below.refl _ w).alloc (Nat.le_refl _) _⟩
  have hF := quotedF_iff u false
  have HS := Lib.hid (And.intro hF hq)
  clear hE hF hq hlen
  go_enter Tryz.func295, Tryz.ntmps295
  go_wp2_with fail
  refine hP'.mono ?_
  rintro e w1 ⟨rfl, rfl⟩
  go_wp2_with fail
  refine hQ'.mono ?_
  rintro e w1 ⟨rfl, rfl⟩
  clear hP' hQ'
  go_wp2_with fail
  refine h1.mono ?_
  rintro e w2 ⟨t, ⟨hb, hB⟩, h⟩
  obtain ⟨x0, -⟩ := box_cell hb
  obtain ⟨ok, m, rfl, rfl, hr⟩ : ∃ ok m : Bool, e = .returned (.bool ok) ∧ m = markF false t ∧ quotedB s = (r1 && r2 && ok && !m) := by
    rcases h with ⟨rfl, rfl, hall⟩ | ⟨rfl, j, hj, hf⟩
    · refine ⟨true, _, rfl, rfl, ?_⟩
      rw [HS.out.2, Bool.and_true]
      congr 1
      rw [Bool.eq_iff_iff, HS.out.1]
      constructor
      · rintro ⟨_, h⟩; simp [h]
      · intro h; exact ⟨hall, by simpa using h⟩
    · refine ⟨false, _, rfl, rfl, ?_⟩
      rw [HS.out.2, Bool.and_false, Bool.false_and]
      have : quotedF false u = false := by
        rw [← Bool.not_eq_true, HS.out.1]
        rintro ⟨h, _⟩
        exact Bool.noConfusion ((show quoteC (markF false (u.take j)) u[j] = false from hf).symm.trans (h j hj))
      rw [this, Bool.and_false]
  generalize markF false t = m at x0 hr
  have HR := Lib.hid (And.intro hr hB)
  clear h hb hB hr h1
  cases r1 <;> cases r2 <;> cases ok
  all_goals
    go_wp2
    first
    | (refine bodyPost_ret (v := .bool false) (by simp [results, Tryz.results295, go_sem]) rfl ⟨by rw [HR.out.1]; rfl, HR.out.2⟩)
    | (refine bodyPost_ret (v := .bool (!m)) (by simp [results, Tryz.results295, go_sem]) rfl ⟨by rw [HR.out.1]; rfl, HR.out.2⟩)
end Go.Proofs.YtlpngibdplnieaaGreatDoor

/- name.Fold, addr.Parse, May, Same, Path. -/
namespace Go.Proofs.YtlpngibdplnieaaGreatDoor
open Go Go.RowKit Go.Shelf Go.Sort
attribute [local go_sem] bneI

/-! ### Bytes that are written over -/
def ByAt (W : World) (g : Nat) (l : Bytes) : Prop :=
  ∃ cs : Array Value, W.heap[g]? = some (.cells cs 5 (cs.size, cs.size + 1)) ∧ ∀ (i : Nat) (hi : i < l.length), cs[i]? = some (.int .u8 (l[i].toNat : Int))
theorem ByAt.cell {W : World} {g : Nat} {l : Bytes} (h : ByAt W g l) (i : Nat) (hi : i < l.length) : W.cell? ⟨g, i, none⟩ = some (.int .u8 (l[i].toNat : Int)) ∧ W.frozen? ⟨g, i, none⟩ = false := by
  obtain ⟨cs, hb, hc⟩ := h
  have hlt : i < cs.size := (Array.getElem?_eq_some_iff.1 (hc i hi)).1
  refine ⟨by simp [World.cell?, hb, hc i hi], ?_⟩
  simp [World.frozen?, hb]
  omega
theorem ByAt.set {W : World} {g : Nat} {l : Bytes} (h : ByAt W g l) (i : Nat) (hi : i < l.length) (c : UInt8) : ByAt (W.setCell ⟨g, i, none⟩ (.int .u8 (c.toNat : Int))) g (l.set i c) := by
  obtain ⟨cs, hb, hc⟩ := h
  have hlt : i < cs.size := (Array.getElem?_eq_some_iff.1 (hc i hi)).1
  refine ⟨cs.setIfInBounds i (.int .u8 (c.toNat : Int)), ?_, fun j hj => ?_⟩
  · simp [World.setCell, Array.getElem?_modify, hb]
  · have hj' : j < l.length := by simpa using hj
    by_cases e : i = j
    · subst e; simp [hlt]
    · rw [Array.getElem?_setIfInBounds_ne e, List.getElem_set_ne e]
      exact hc j hj'
theorem ByAt.below {W W' : World} {g : Nat} {l : Bytes} (h : ByAt W g l) (hb : Below W.heap.size W W') : ByAt W' g l := by
  obtain ⟨cs, h1, h2⟩ := h
  exact ⟨cs, (hb.block g (Array.getElem?_eq_some_iff.1 h1).1).trans h1, h2⟩
theorem ByAt.new (w : World) (l : Bytes) : ByAt (Lib.bytesWorld w 5 ⟨l.toArray⟩) w.heap.size l := by
  refine ⟨_, Lib.bytesWorld_at_new w 5 ⟨l.toArray⟩, fun i hi => ?_⟩
  simp [Lib.bytesCells, Array.getElem?_append, hi]
theorem bytes_below (w : World) (e : TypeId) (s : ByteArray) : Below w.heap.size w (Lib.bytesWorld w e s) :=
  ⟨rfl, rfl, rfl, by rw [Lib.bytesWorld_size]; omega, fun k hk => Lib.bytesWorld_at_old w e s k hk⟩
theorem ByAt.str {W : World} {g : Nat} {l : Bytes} (h : ByAt W g l) (cap : Nat) : (convert 116 9 (.slice (some ⟨g, 0, none⟩) l.length cap)).run Tryz.prog W = .ok (.string ⟨l.toArray⟩) W :=
  run_convert_bytes_back W 116 9 5 ⟨g, 0, none⟩ cap l Tryz.underlying116 Tryz.underlying5 Tryz.underlying9 (fun j hj => by
    have := (h.cell j hj).1
    rw [addr0]
    exact this)
theorem Glob.keep {w w' : World} (hg : Glob w) (hb : Below w.heap.size w w') : Glob w' := by
  obtain ⟨m, hm⟩ := hg
  exact ⟨m, (hb.cell (p := ⟨_, 0, none⟩) (cell_lt hm)).trans hm⟩
theorem lowB_int (c : UInt8) : ((65 ≤ (c.toNat : Int) ∧ (c.toNat : Int) ≤ 90) ∧ ((lowB c).toNat : Int) = (c.toNat : Int) - 65 + 97) ∨ (¬ (65 ≤ (c.toNat : Int) ∧ (c.toNat : Int) ≤ 90) ∧ lowB c = c) := by
  unfold lowB
  by_cases h : (65 ≤ c && c ≤ 90) = true
  · left
    rw [if_pos h]
    simp only [Bool.and_eq_true, decide_eq_true_eq, UInt8.le_iff_toNat_le] at h
    have h1 : (65 : UInt8).toNat = 65 := rfl
    have h2 : (90 : UInt8).toNat = 90 := rfl
    rw [h1, h2] at h
    refine ⟨by omega, ?_⟩
    rw [UInt8.toNat_add]
    have h3 : (32 : UInt8).toNat = 32 := rfl
    rw [h3]
    omega
  · right
    rw [if_neg h]
    simp only [Bool.and_eq_true, decide_eq_true_eq, UInt8.le_iff_toNat_le] at h
    have h1 : (65 : UInt8).toNat = 65 := rfl
    have h2 : (90 : UInt8).toNat = 90 := rfl
    rw [h1, h2] at h
    exact ⟨by omega, rfl⟩
/-- The first i bytes made small. -/
def lowTo (u : Bytes) (i : Nat) : Bytes := (u.take i).map lowB ++ u.drop i
theorem lowTo_len (u : Bytes) (i : Nat) (hi : i ≤ u.length) : (lowTo u i).length = u.length := by simp [lowTo]; omega
theorem lowTo_get (u : Bytes) (i : Nat) (hi : i < u.length) (h : i < (lowTo u i).length) : (lowTo u i)[i] = u[i] := by
  have e : lowTo u i = (u.take i).map lowB ++ u.drop i := rfl
  simp only [e]
  rw [List.getElem_append_right (by simp; omega)]
  simp [Nat.min_eq_left (Nat.le_of_lt hi)]
theorem lowTo_succ (u : Bytes) (i : Nat) (hi : i < u.length) : (lowTo u i).set i (lowB u[i]) = lowTo u (i + 1) := by
  unfold lowTo
  rw [List.set_append_right _ _ (by simp; omega), List.take_succ_eq_append_getElem hi, List.map_append, List.append_assoc]
  congr 1
  have : i - ((u.take i).map lowB).length = 0 := by simp; omega
  rw [this, ← List.getElem_cons_drop hi]
  rfl
theorem undot_eq (s : Bytes) : Lib.trimSuffix s [46] = undotB s := (trimSuffix1 s 46).2
/-- What Fold answers. -/
def FoldPost (s : Bytes) (e : Ending) : Prop := (∃ d, foldB s = some d ∧ e = .returned (.tuple #[.string ⟨d.toArray⟩, .int .i64 0])) ∨ (foldB s = none ∧ e = .returned (.tuple #[.string ⟨#[]⟩, .int .i64 4]))

set_option maxRecDepth 100000 in
set_option maxHeartbeats 2000000 in
theorem fold_any (s : Bytes) (w : World) (hs : s.length ≤ maxLen) (hg : Glob w) : Calls Tryz.prog 164 #[.string ⟨s.toArray⟩] w fun e w' => FoldPost s e ∧ Below w.heap.size w w' := by
  have hT := Tryz.strings_TrimSuffix ⟨s.toArray⟩ ⟨#[46]⟩ w (by unfold maxLen at hs; show s.length ≤ _; omega)
  have e1 : (⟨s.toArray⟩ : ByteArray).data.toList = s := rfl
  have e3 : (⟨#[46]⟩ : ByteArray).data.toList = [46] := rfl
  rw [e1, e3, undot_eq] at hT
  obtain ⟨u, hu⟩ : ∃ u, u = undotB s := ⟨_, rfl⟩
  rw [← hu] at hT
  have hul : u.length ≤ maxLen := by
    rw [hu]; unfold undotB
    split
    · rw [List.length_dropLast]; omega
    · exact hs
  have hfo : foldB s = if mayB (u.map lowB) then some (u.map lowB) else none := by rw [hu]; rfl
  have hconv := Lib.run_convert_string_bytes (P := Tryz.prog) w 9 116 5 ⟨u.toArray⟩ Tryz.underlying9 Tryz.underlying116 Tryz.underlying5
  have hsz : (⟨u.toArray⟩ : ByteArray).size = u.length := rfl
  rw [hsz] at hconv
  have hB := bytes_below w 5 ⟨u.toArray⟩
  have hN := ByAt.new w u
  generalize Lib.bytesWorld w 5 ⟨u.toArray⟩ = w1 at *
  generalize grownCap w u.length 0 5 = cap at *
  have HB := Lib.hid (And.intro hB (And.intro hN (And.intro hfo (And.intro hg hul))))
  have hub : u.length ≤ 9223372036854775807 := by unfold maxLen at hul; omega
  clear hB hN hfo hg hul hs e1 e3 hu hsz
  go_enter Tryz.func164, Tryz.ntmps164
  go_wp2_with fail
  refine hT.mono ?_
  rintro e w2 ⟨rfl, rfl⟩
  clear hT
  go_wp2_with fail
  clear hconv
  go_loopw [12] (fun iv wr => ∃ i : Nat, iv = .int .i64 (i : Int) ∧ i ≤ u.length ∧ ByAt wr w2.heap.size (lowTo u i) ∧ Below w2.heap.size w2 wr) (fun iv _ => u.length - natI iv)
  case atStart => exact ⟨0, rfl, Nat.zero_le _, by simpa [lowTo] using HB.out.2.1, HB.out.1⟩
  case round =>
    obtain ⟨i, rfl, hi, hA, hBl⟩ := hrel
    by_cases hlast : i < u.length
    · have hli : (i : Int) < (u.length : Int) := by omega
      have hll := lowTo_len u i (by omega)
      have hil : i < (lowTo u i).length := by omega
      obtain ⟨c0, f0⟩ := hA.cell i hil
      have hst := hA.set i hil (lowB u[i])
      rw [lowTo_get u i hlast hil] at c0
      rw [lowTo_succ u i hlast] at hst
      have hlow := lowB_int u[i]
      have hBl2 := fun v => hBl.setCell (p := ⟨w2.heap.size, i, none⟩) (Nat.le_refl _) v
      have hsame : lowB u[i] = u[i] → lowTo u (i + 1) = lowTo u i := fun h => by
        rw [← lowTo_succ u i hlast, h]
        have := lowTo_get u i hlast hil
        conv => lhs; rw [← this]
        exact List.set_getElem_self hil
      have HR := Lib.hid (And.intro hA (And.intro hBl (And.intro hst (And.intro hBl2 hsame))))
      have hcl := u[i].toNat_lt
      clear hA hBl hst hBl2 hsame hll hil
      generalize u[i] = c at *
      rcases hlow with ⟨⟨h1, h2⟩, h3⟩ | ⟨hno, hsm⟩
      · rw [h3] at HR
        have h3' := Lib.hid h3
        clear h3
        go_wp2
        go_roundw
        case rel => exact ⟨i + 1, by simp, by omega, HR.out.2.2.1, HR.out.2.2.2.1 _⟩
        case measure => simp [natI]; omega
      · have HS := Lib.hid hsm
        clear hsm
        by_cases h1 : 65 ≤ (c.toNat : Int)
        · have h2 : ¬ (c.toNat : Int) ≤ 90 := fun h => hno ⟨h1, h⟩
          clear hno
          go_wp2
          go_roundw
          case rel => exact ⟨i + 1, by simp, by omega, by rw [HR.out.2.2.2.2 HS.out]; exact HR.out.1, HR.out.2.1⟩
          case measure => simp [natI]; omega
        · clear hno
          go_wp2
          go_roundw
          case rel => exact ⟨i + 1, by simp, by omega, by rw [HR.out.2.2.2.2 HS.out]; exact HR.out.1, HR.out.2.1⟩
          case measure => simp [natI]; omega
    · have hli : ¬ (i : Int) < (u.length : Int) := by omega
      have hfin : lowTo u i = u.map lowB := by unfold lowTo; rw [List.take_of_length_le (by omega), List.drop_of_length_le (by omega), List.append_nil]
      rw [hfin] at hA
      have hstr := fun W (h : ByAt W w2.heap.size (u.map lowB)) => h.str cap
      simp only [List.length_map] at hstr
      have hs1 := hstr wr hA
      have hml : (u.map lowB).length ≤ maxLen := by simpa using HB.out.2.2.2.2
      have hMay := nameMay_any ⟨(u.map lowB).toArray⟩ wr hml ((HB.out.2.2.2.1.keep hBl))
      have e4 : (⟨(u.map lowB).toArray⟩ : ByteArray).data.toList = u.map lowB := rfl
      rw [e4] at hMay
      obtain ⟨v, hv⟩ : ∃ v, v = u.map lowB := ⟨_, rfl⟩
      rw [← hv] at hMay hs1 hA
      simp only [← hv] at hstr
      have HV := Lib.hid (And.intro hA (And.intro hBl (And.intro hstr hv)))
      clear hA hBl hstr hv hfin e4 hml
      go_wp2_with fail
      refine hMay.mono ?_
      rintro e w3 ⟨rfl, hb3⟩
      clear hMay hs1
      have hs2 := HV.out.2.2.1 w3 (HV.out.1.below hb3)
      have hbf := HV.out.2.1.trans (hb3.mono HV.out.2.1.size)
      have HF := Lib.hid hbf
      clear hb3 hbf
      cases hm : mayB v with
      | true =>
        have HM := Lib.hid hm
        clear hm
        go_wp2
        refine bodyPost_ret (v := .tuple #[.string ⟨v.toArray⟩, .int .i64 0]) (by simp [results, Tryz.results164, go_sem]) rfl ⟨.inl ⟨v, ?_, rfl⟩, HF.out⟩
        rw [HB.out.2.2.1, ← HV.out.2.2.2, if_pos HM.out]
      | false =>
        have HM := Lib.hid hm
        clear hm
        go_wp2
        refine bodyPost_ret (v := .tuple #[.string ⟨#[]⟩, .int .i64 4]) (by simp [results, Tryz.results164, go_sem]) rfl ⟨.inr ⟨?_, rfl⟩, HF.out⟩
        rw [HB.out.2.2.1, ← HV.out.2.2.2, if_neg (by rw [HM.out]; simp)]
end Go.Proofs.YtlpngibdplnieaaGreatDoor

/- addr.Parse, May, Same, Path. -/
namespace Go.Proofs.YtlpngibdplnieaaGreatDoor
open Go Go.RowKit Go.Shelf Go.Sort
attribute [local go_sem] bneI

/-- What the variables hold. -/
structure Env (w : World) : Prop where
  glob : Glob w
  k0 : w.cell? ⟨0, 0, none⟩ = some (.func (.func 294) #[] #[])
  k1 : w.cell? ⟨0, 1, none⟩ = some (.func (.func 295) #[] #[])
  pow : Lib.TabIs Tryz.prog w "internal/strconv.uint64pow10" .u64 Lib.pow10Tab
theorem Env.keep {w w' : World} (h : Env w) (hb : Below w.heap.size w w') : Env w' := by
  have hg : Tryz.prog.globalNamed "internal/strconv.uint64pow10" = some 4 := by kernel_rfl
  refine ⟨h.glob.keep hb, (hb.cell (p := ⟨_, 0, none⟩) (cell_lt h.k0)).trans h.k0, (hb.cell (p := ⟨_, 1, none⟩) (cell_lt h.k1)).trans h.k1, ?_⟩
  have hp := h.pow
  unfold Lib.TabIs World.var? at hp ⊢
  rw [hg] at hp ⊢
  simp only [Option.bind_some] at hp ⊢
  have hlt : 4 < w.heap.size := by
    cases hh : w.heap[4]? with
    | none => rw [hh] at hp; simp at hp
    | some o => exact (Array.getElem?_eq_some_iff.1 hh).1
  rw [hb.block _ hlt]
  exact hp

/-! ### The last @ -/
theorem byte_at (s : Bytes) (j : Nat) (hj : j < s.length) : ((⟨s.toArray⟩ : ByteArray).data[j]!) = s[j] := by
  show (s.toArray)[j]! = s[j]
  simp [hj]
theorem last_parts (s : Bytes) : (Lib.lastIndexByte ⟨s.toArray⟩ 64 = -1 ∧ partsB s = none) ∨ ∃ i : Nat, i < s.length ∧ Lib.lastIndexByte ⟨s.toArray⟩ 64 = (i : Int) ∧ partsB s = some (s.take i, s.drop (i + 1)) := by
  have hsz : (⟨s.toArray⟩ : ByteArray).size = s.length := rfl
  have h := Lib.lastIdx_spec ⟨s.toArray⟩ 64 s.length
  have hl : Lib.lastIndexByte ⟨s.toArray⟩ 64 = Lib.lastIdx ⟨s.toArray⟩ 64 s.length := rfl
  rw [hl]
  rcases h with ⟨h1, h2⟩ | ⟨i, hi, h1, h2, h3⟩
  · refine .inl ⟨h1, splitLast_none fun hm => ?_⟩
    obtain ⟨j, hj, e⟩ := List.getElem_of_mem hm
    have := h2 j hj
    rw [byte_at s j hj, e] at this
    exact this rfl
  · refine .inr ⟨i, hi, h1, ?_⟩
    rw [byte_at s i hi] at h2
    have h4 : s[i] = 64 := UInt8.toNat_inj.1 (by have : (64 : UInt8).toNat = 64 := rfl; omega)
    have hs : s = s.take i ++ 64 :: s.drop (i + 1) := by
      rw [← h4, List.getElem_cons_drop, List.take_append_drop]
    have hd : (64 : UInt8) ∉ s.drop (i + 1) := fun hm => by
      obtain ⟨j, hj, e⟩ := List.getElem_of_mem hm
      have hj' : i + 1 + j < s.length := by simp at hj; omega
      have := h3 (i + 1 + j) (by omega) hj'
      rw [byte_at s _ hj'] at this
      rw [List.getElem_drop] at e
      rw [e] at this
      exact this rfl
    unfold partsB
    conv => lhs; rw [hs]
    exact splitLast_some hd _
theorem extract_take (s : Bytes) (i : Nat) : (⟨s.toArray⟩ : ByteArray).extract 0 i = ⟨(s.take i).toArray⟩ := by
  apply ByteArray.ext
  apply Array.toList_inj.1
  simp [List.extract_eq_take_drop]
theorem extract_drop (s : Bytes) (i n : Nat) (hn : n = s.length) : (⟨s.toArray⟩ : ByteArray).extract i n = ⟨(s.drop i).toArray⟩ := by
  apply ByteArray.ext
  apply Array.toList_inj.1
  subst hn
  simp only [ByteArray.data_extract, Array.toList_extract, List.extract_eq_take_drop]
  rw [List.take_of_length_le (by simp)]

/-! ### The kinds -/
set_option maxRecDepth 100000 in
set_option maxHeartbeats 1000000 in
theorem parse1_any (F : FuncId) (hE : ∀ args w, (callFunc F args).run Tryz.prog w = .ok (.enter F args) w) (r : Bool) (b1 b2 : Nat) (s : Bytes) (i : Nat) (w : World) (hi : i ≤ s.length) (hs : s.length ≤ maxLen)
    (h1 : w.cell? ⟨b1, 0, none⟩ = some (.string ⟨s.toArray⟩)) (h2 : w.cell? ⟨b2, 0, none⟩ = some (.int .i64 (i : Int)))
    (hF : Calls Tryz.prog F #[.string ⟨(s.take i).toArray⟩] w fun e w' => e = .returned (.bool r) ∧ Below w.heap.size w w') :
    Calls Tryz.prog 163 (#[.func (.func F) #[] #[]] ++ #[.pointer (some ⟨b1, 0, none⟩), .pointer (some ⟨b2, 0, none⟩)]) w fun e w' => e = .returned (.bool r) ∧ Below w.heap.size w w' := by
  unfold maxLen at hs
  have hsz : (⟨s.toArray⟩ : ByteArray).size = s.length := rfl
  have hx := extract_take s i
  obtain ⟨sb, hsb⟩ : ∃ sb : ByteArray, sb = ⟨s.toArray⟩ := ⟨_, rfl⟩
  rw [← hsb] at h1 hsz hx
  have hi' : i ≤ sb.size := by omega
  have hz' : sb.size ≤ 9223372036854775807 := by omega
  rw [← hx] at hF
  clear hsb hsz hx hs hi
  have hrun : Sem.run Tryz.prog (callFunc F #[.string (sb.extract 0 i)]) w = .ok (.enter F #[.string (sb.extract 0 i)]) w := hE _ _
  go_enter Tryz.func163, Tryz.ntmps163
  go_wp2_with fail
  refine hF.mono ?_
  rintro e w1 ⟨rfl, hb⟩
  have HB := Lib.hid hb
  clear hb hF hrun
  go_wp2
  refine bodyPost_ret (v := .bool r) (by simp [results, Tryz.results163, go_sem]) rfl ⟨rfl, HB.out⟩

set_option maxRecDepth 100000 in
set_option maxHeartbeats 1000000 in
theorem kindsIx_any (b1 b2 : Nat) (s : Bytes) (i : Nat) (w : World) (hi : i ≤ s.length) (hs : s.length ≤ maxLen) (hE : Env w)
    (h1 : w.cell? ⟨b1, 0, none⟩ = some (.string ⟨s.toArray⟩)) (h2 : w.cell? ⟨b2, 0, none⟩ = some (.int .i64 (i : Int))) :
    Calls Tryz.prog 198 #[.slice (some ⟨0, 0, none⟩) 2 2, .func (.func 163) #[] #[.pointer (some ⟨b1, 0, none⟩), .pointer (some ⟨b2, 0, none⟩)]] w fun e w' =>
      e = .returned (.int .i64 (if atomsB (s.take i) then 0 else if quotedB (s.take i) then 1 else -1)) ∧ Below w.heap.size w w' := by
  have htl : (s.take i).length ≤ maxLen := by simp; omega
  have hP1 := fun W (hb : Below w.heap.size w W) => parse1_any 294 (enters_of Tryz.func294 (by kernel_rfl) rfl) (atomsB (s.take i)) b1 b2 s i W hi hs ((hb.cell (p := ⟨b1, 0, none⟩) (cell_lt h1)).trans h1) ((hb.cell (p := ⟨b2, 0, none⟩) (cell_lt h2)).trans h2) (atoms_any _ W htl)
  have hP2 := fun W (hb : Below w.heap.size w W) => parse1_any 295 (enters_of Tryz.func295 (by kernel_rfl) rfl) (quotedB (s.take i)) b1 b2 s i W hi hs ((hb.cell (p := ⟨b1, 0, none⟩) (cell_lt h1)).trans h1) ((hb.cell (p := ⟨b2, 0, none⟩) (cell_lt h2)).trans h2) (quoted_any _ W htl)
  obtain ⟨r1, hr1⟩ : ∃ r, r = atomsB (s.take i) := ⟨_, rfl⟩
  obtain ⟨r2, hr2⟩ : ∃ r, r = quotedB (s.take i) := ⟨_, rfl⟩
  rw [← hr1, ← hr2]
  simp only [← hr1] at hP1
  simp only [← hr2] at hP2
  have HE := Lib.hid hE
  have HP := Lib.hid (And.intro hP1 hP2)
  clear hP1 hP2 hr1 hr2 htl hE h1 h2 hi hs
  go_enter Tryz.func198, Tryz.ntmps198
  go_wp2_with fail
  go_loopw [8] (fun iv wr => ((iv = .int .i64 0 ∧ wr = w) ∨ (iv = .int .i64 1 ∧ r1 = false) ∨ (iv = .int .i64 2 ∧ r1 = false ∧ r2 = false)) ∧ Below w.heap.size w wr) (fun iv _ => 2 - natI iv)
  case atStart => exact ⟨.inl ⟨rfl, rfl⟩, Below.refl _ _⟩
  case round =>
    obtain ⟨h, hB⟩ := hrel
    rcases h with ⟨rfl, rfl⟩ | ⟨rfl, rfl⟩ | ⟨rfl, rfl, rfl⟩
    · have k0 := HE.out.k0
      have hc := HP.out.1 wr hB
      clear hB
      go_wp2_with fail
      refine hc.mono ?_
      rintro e w1 ⟨rfl, hb⟩
      have HB := Lib.hid hb
      clear hb hc k0
      cases r1
      · go_wp2
        go_roundw
        case rel => exact ⟨by simp, HB.out⟩
        case measure => simp [natI]
      · go_wp2
        refine bodyPost_ret (v := .int .i64 0) (by simp [results, Tryz.results198, go_sem]) rfl ⟨by simp, HB.out⟩
    · have k1 := (HE.out.keep hB).k1
      have hc := HP.out.2 wr hB
      have HB0 := Lib.hid hB
      clear hB
      go_wp2_with fail
      refine hc.mono ?_
      rintro e w1 ⟨rfl, hb⟩
      have HB := Lib.hid (HB0.out.trans (hb.mono HB0.out.size))
      clear hb hc k1
      cases r2
      · go_wp2
        go_roundw
        case rel => exact ⟨by simp, HB.out⟩
        case measure => simp [natI]
      · go_wp2
        refine bodyPost_ret (v := .int .i64 1) (by simp [results, Tryz.results198, go_sem]) rfl ⟨by simp, HB.out⟩
    · have HB := Lib.hid hB
      clear hB
      go_wp2
      refine bodyPost_ret (v := .int .i64 (-1)) (by simp [results, Tryz.results198, go_sem]) rfl ⟨by simp, HB.out⟩

set_option maxRecDepth 100000 in
set_option maxHeartbeats 1000000 in
theorem kinds_any (b1 b2 : Nat) (s : Bytes) (i : Nat) (w : World) (hi : i ≤ s.length) (hs : s.length ≤ maxLen) (hE : Env w)
    (h1 : w.cell? ⟨b1, 0, none⟩ = some (.string ⟨s.toArray⟩)) (h2 : w.cell? ⟨b2, 0, none⟩ = some (.int .i64 (i : Int))) :
    Calls Tryz.prog 162 #[.slice (some ⟨0, 0, none⟩) 2 2, .func (.func 163) #[] #[.pointer (some ⟨b1, 0, none⟩), .pointer (some ⟨b2, 0, none⟩)]] w fun e w' =>
      e = .returned (.bool (atomsB (s.take i) || quotedB (s.take i))) ∧ Below w.heap.size w w' := by
  have hI := kindsIx_any b1 b2 s i w hi hs hE h1 h2
  generalize atomsB (s.take i) = r1 at *
  generalize quotedB (s.take i) = r2 at *
  clear hE h1 h2 hi hs
  cases r1 <;> cases r2
  all_goals
    simp only [if_true, if_false, Bool.false_eq_true] at hI
    go_enter Tryz.func162, Tryz.ntmps162
    go_wp2_with fail
    refine hI.mono ?_
    rintro e w1 ⟨rfl, hb⟩
    have HB := Lib.hid hb
    clear hb hI
    go_wp2
    go_ret
    exact ⟨rfl, HB.out⟩

/-! ### Parse -/
def ParsePost (s : Bytes) (e : Ending) : Prop := (∃ l d, parseB s = some (l, d) ∧ l.length ≤ s.length ∧ e = .returned (.tuple #[.string ⟨l.toArray⟩, .string ⟨d.toArray⟩, .int .i64 0])) ∨ (parseB s = none ∧ e = .returned (.tuple #[.string ⟨#[]⟩, .string ⟨#[]⟩, .int .i64 4]))
theorem parse_no {s l d : Bytes} (hp : partsB s = some (l, d)) (h : l = [] ∨ 64 < l.length ∨ s.getLast? = some 46 ∨ (atomsB l || quotedB l) = false) : parseB s = none := by
  unfold parseB
  rw [hp]
  exact if_pos h
theorem parse_yes {s l d : Bytes} (hp : partsB s = some (l, d)) (h : ¬ (l = [] ∨ 64 < l.length ∨ s.getLast? = some 46 ∨ (atomsB l || quotedB l) = false)) : parseB s = (foldB d).map fun d => (l, d) := by
  unfold parseB
  rw [hp]
  exact if_neg h
set_option maxRecDepth 100000 in
set_option maxHeartbeats 4000000 in
theorem parse_any (s : Bytes) (w : World) (hs : s.length ≤ 1000000) (hE : Env w) : Calls Tryz.prog 116 #[.string ⟨s.toArray⟩] w fun e w' => ParsePost s e ∧ Below w.heap.size w w' := by
  have hsm : s.length ≤ maxLen := by unfold maxLen; omega
  have hL := fun W => Tryz.strings_LastIndexByte ⟨s.toArray⟩ 64 (by show s.length < _; omega) W
  have hS := fun W => Tryz.strings_HasSuffix ⟨s.toArray⟩ ⟨#[46]⟩ W (by show s.length ≤ _; omega)
  have e1 : (⟨s.toArray⟩ : ByteArray).data.toList = s := rfl
  have e3 : (⟨#[46]⟩ : ByteArray).data.toList = [46] := rfl
  simp only [(trimSuffix1 s 46).1] at hS
  have hK := fun i hi W hE h1 h2 => kinds_any w.heap.size (w.heap.size + 1) s i W hi hsm hE h1 h2
  have hF := fun i W hg => fold_any (s.drop i) W (by simp; omega) hg
  have hsl : ∀ W, (Instr.sliceAt 195 (.pointer (some ⟨0, 0, none⟩)) none none none).run Tryz.prog W = .ok (.slice (some ⟨0, 0, none⟩) 2 2) W := fun W => by kernel_rfl
  obtain ⟨W1, hW1⟩ : ∃ W1, W1 = (w.alloc (.cells #[.string ⟨s.toArray⟩] 9)) := ⟨_, rfl⟩
  have hB1 : Below w.heap.size w W1 := by rw [hW1]; exact (Below.refl _ w).alloc (Nat.le_refl _) _
  have hb1 : W1.heap[w.heap.size]? = some (.cells #[.string ⟨s.toArray⟩] 9 (0, 0)) := by rw [hW1]; exact ha_eq rfl
  have hz1 : W1.heap.size = w.heap.size + 1 := by rw [hW1]; simp
  obtain ⟨b0, hb0⟩ : ∃ b, b = w.heap.size := ⟨_, rfl⟩
  rw [← hb0] at hb1 hz1 hK
  rcases last_parts s with ⟨hi, hp⟩ | ⟨i, hi, hie, hp⟩
  · have hno : parseB s = none := by unfold parseB; rw [hp]
    rw [hi] at hL
    obtain ⟨x0, -⟩ := box_cell hb1
    have HB := Lib.hid (And.intro hB1 (And.intro hno hb0))
    clear hB1 hno hp hS hK hF hsl hi hb1 hsm e1 e3 hE
    go_enter Tryz.func116, Tryz.ntmps116
    go_wp2_with fail
    rw [← hW1, ← hb0]
    clear hW1 hb0
    refine (hL W1).mono ?_
    rintro e w2 ⟨rfl, rfl⟩
    clear hL
    go_wp2
    refine bodyPost_ret (v := .tuple #[.string ⟨#[]⟩, .string ⟨#[]⟩, .int .i64 4]) (by simp [results, Tryz.results116, go_sem]) rfl ⟨.inr ⟨HB.out.2.1, rfl⟩, ?_⟩
    exact HB.out.1.alloc HB.out.1.size _
  · rw [hie] at hL
    obtain ⟨W2, hW2⟩ : ∃ W2, W2 = W1.alloc (.cells #[.int .i64 (i : Int)] 3) := ⟨_, rfl⟩
    have hB2 : Below w.heap.size w W2 := by rw [hW2]; exact hB1.alloc hB1.size _
    have hb2 : W2.heap[b0]? = some (.cells #[.string ⟨s.toArray⟩] 9 (0, 0)) := by rw [hW2, ha_ne (by omega)]; exact hb1
    have hb3 : W2.heap[b0 + 1]? = some (.cells #[.int .i64 (i : Int)] 3 (0, 0)) := by rw [hW2]; exact ha_eq hz1.symm
    obtain ⟨x0, -⟩ := box_cell hb1
    obtain ⟨y0, -⟩ := box_cell hb2
    obtain ⟨y1, -⟩ := box_cell hb3
    have hE2 := hE.keep hB2
    have HB := Lib.hid (And.intro hB2 (And.intro hp (And.intro hb0 (And.intro hE2 (And.intro hi hs)))))
    have hsz : (⟨s.toArray⟩ : ByteArray).size = s.length := rfl
    have hx1 := extract_take s i
    have hx2 := extract_drop s (i + 1) s.length rfl
    rw [← hsz] at hx2
    have hK2 := hK i (Nat.le_of_lt hi) W2 hE2 y0 y1
    have hib : (i : Int) < 1000000 := by omega
    have his : i < (⟨s.toArray⟩ : ByteArray).size := hi
    have his2 : (⟨s.toArray⟩ : ByteArray).size ≤ 1000000 := hs
    obtain ⟨sb, hsb⟩ : ∃ sb : ByteArray, sb = ⟨s.toArray⟩ := ⟨_, rfl⟩
    rw [← hsb] at hL hS x0 y0 hx1 hx2 his his2
    rw [← hsb] at hW1
    have HX := Lib.hid (And.intro hx1 (And.intro hx2 (And.intro y0 y1)))
    clear hB1 hB2 hp hb1 hb2 hb3 hE2 hsm e1 e3 hE hie hsz hx1 hx2 hi hs hK
    rw [← hsb]
    subst hb0
    clear hsb
    go_enter Tryz.func116, Tryz.ntmps116
    go_wp2_with fail
    rw [← hW1]
    clear hW1
    refine (hL W1).mono ?_
    rintro e w2 ⟨rfl, rfl⟩
    clear hL
    go_upto_region 2 with (fail)
    rw [← hW2]
    clear hW2 hz1 x0
    have hF2 := fun W hg => hF (i + 1) W hg
    simp only [← HX.out.2.1] at hF2
    clear hF
    by_cases h1 : (i : Int) < 1
    · clear hS hF2 hsl hK2
      go_wp2
      refine bodyPost_ret (v := .tuple #[.string ⟨#[]⟩, .string ⟨#[]⟩, .int .i64 4]) (by simp [results, Tryz.results116, go_sem]) rfl ⟨.inr ⟨?_, rfl⟩, ?_⟩
      · exact parse_no HB.out.2.1 (.inl (by have : i = 0 := by omega
                                            subst this; rfl))
      · exact HB.out.1
    · by_cases h2 : (64 : Int) < (i : Int)
      · clear hS hF2 hsl hK2
        go_wp2
        refine bodyPost_ret (v := .tuple #[.string ⟨#[]⟩, .string ⟨#[]⟩, .int .i64 4]) (by simp [results, Tryz.results116, go_sem]) rfl ⟨.inr ⟨?_, rfl⟩, ?_⟩
        · exact parse_no HB.out.2.1 (.inr (.inl (by have := HB.out.2.2.2.2.1; simp; omega)))
        · exact HB.out.1
      · cases hd : (s.getLast? == some 46) with
        | true =>
          rw [hd] at hS
          have HD := Lib.hid hd
          clear hF2 hsl hK2 hd
          go_wp2_with fail
          refine (hS W2).mono ?_
          rintro e w3 ⟨rfl, rfl⟩
          clear hS
          go_wp2
          refine bodyPost_ret (v := .tuple #[.string ⟨#[]⟩, .string ⟨#[]⟩, .int .i64 4]) (by simp [results, Tryz.results116, go_sem]) rfl ⟨.inr ⟨?_, rfl⟩, ?_⟩
          · exact parse_no HB.out.2.1 (.inr (.inr (.inl (by simpa using HD.out))))
          · exact HB.out.1
        | false =>
          rw [hd] at hS
          have HD := Lib.hid hd
          clear hd
          go_wp2_with fail
          refine (hS W2).mono ?_
          rintro e w3 ⟨rfl, rfl⟩
          clear hS
          go_wp2_with fail
          refine hK2.mono ?_
          rintro e w4 ⟨rfl, hb4⟩
          have y0' := (hb4.cell (p := ⟨w.heap.size, 0, none⟩) (cell_lt y0)).trans y0
          have y1' := (hb4.cell (p := ⟨w.heap.size + 1, 0, none⟩) (cell_lt y1)).trans y1
          have hE4 := HB.out.2.2.2.1.keep hb4
          have H4 := Lib.hid (And.intro (HB.out.1.trans (hb4.mono HB.out.1.size)) hE4)
          clear hK2 y0 y1 hsl hb4 hE4
          cases hr : (atomsB (s.take i) || quotedB (s.take i)) with
          | false =>
            have HR := Lib.hid hr
            clear hr hF2
            go_wp2
            refine bodyPost_ret (v := .tuple #[.string ⟨#[]⟩, .string ⟨#[]⟩, .int .i64 4]) (by simp [results, Tryz.results116, go_sem]) rfl ⟨.inr ⟨?_, rfl⟩, ?_⟩
            · exact parse_no HB.out.2.1 (.inr (.inr (.inr HR.out)))
            · exact H4.out.1
          | true =>
            have HR := Lib.hid hr
            clear hr
            have hF4 := hF2 w4 H4.out.2.glob
            clear hF2
            have hpar := parse_yes HB.out.2.1 (by
              have h5 := HB.out.2.2.2.2.1
              intro h
              rcases h with h | h | h | h
              · have := congrArg List.length h
                rw [List.length_take, List.length_nil] at this
                omega
              · simp at h; omega
              · have := HD.out
                rw [h] at this
                simp at this
              · rw [HR.out] at h; cases h)
            have HP := Lib.hid hpar
            clear hpar
            go_wp2_with fail
            refine hF4.mono ?_
            rintro e w5 ⟨hFP, hb5⟩
            have y0 := (hb5.cell (p := ⟨w.heap.size, 0, none⟩) (cell_lt y0')).trans y0'
            have y1 := (hb5.cell (p := ⟨w.heap.size + 1, 0, none⟩) (cell_lt y1')).trans y1'
            have H5 := Lib.hid (H4.out.1.trans (hb5.mono H4.out.1.size))
            clear hF4 y0' y1' hb5
            rcases hFP with ⟨d, hd, rfl⟩ | ⟨hd, rfl⟩
            · have HD2 := Lib.hid hd
              clear hd
              go_wp2
              refine bodyPost_ret (v := .tuple #[.string (sb.extract 0 i), .string ⟨d.toArray⟩, .int .i64 0]) (by simp [results, Tryz.results116, go_sem]) rfl ⟨.inl ⟨s.take i, d, ?_, ?_, ?_⟩, H5.out⟩
              · rw [HP.out, HD2.out]; rfl
              · simp; omega
              · rw [HX.out.1]
            · have HD2 := Lib.hid hd
              clear hd
              go_wp2
              refine bodyPost_ret (v := .tuple #[.string ⟨#[]⟩, .string ⟨#[]⟩, .int .i64 4]) (by simp [results, Tryz.results116, go_sem]) rfl ⟨.inr ⟨?_, rfl⟩, ?_⟩
              · rw [HP.out, HD2.out]; rfl
              · exact H5.out
end Go.Proofs.YtlpngibdplnieaaGreatDoor
