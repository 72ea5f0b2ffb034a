/- TallyNames: the rows that it names; the plain facts. -/
import Derived.Test.YthhcigmdocldnaaDoorOfE
import Derived.Test.YthhcigmdocldnaaDoorLawC
import Derived.Laws.MakeOwn
namespace Go.Proofs.YthhcigmdocldnaaDoor
open Go Go.RowKit Go.Shelf Go.Sort
theorem infoInt2 : (Tryd.prog.info? 3).map (fun i => (i.zero, i.size, i.bytes)) = some (some (.int .i64 0), 1, 8) := by kernel_rfl
theorem run_ten (w : World) : (Instr.makeSlice 39 (.int .i64 10) (.int .i64 10)).run Tryd.prog w = .ok (.slice (some ⟨w.heap.size, 0, none⟩) 10 10) (w.alloc (.cells #[.int .i64 0, .int .i64 0, .int .i64 0, .int .i64 0, .int .i64 0, .int .i64 0, .int .i64 0, .int .i64 0, .int .i64 0, .int .i64 0] 3)) := by
  obtain ⟨i, hi, h0, h1, h2⟩ := info_parts infoInt2
  rw [run_makeSlice w 39 3 i (.int .i64 0) Tryd.underlying39 hi h0 .i64 .i64 10 10 (by decide) (by decide) (by rw [h1]; decide) (by rw [h2]; decide) (by decide), h1]
  have e : madeCells (Value.int .i64 0).cells (Int.toNat 10 * 1) = #[.int .i64 0, .int .i64 0, .int .i64 0, .int .i64 0, .int .i64 0, .int .i64 0, .int .i64 0, .int .i64 0, .int .i64 0, .int .i64 0] := by kernel_rfl
  rw [e]
  rfl
theorem rowsG_of {W : World} {g n : Nat} {cs : Array Value} {T : TypeId} {xs : Ent} (hh : W.heap[g]? = some (.cells cs T (0, 0))) (hn : xs.length = n) (h : ∀ i (hi : i < xs.length), ∃ fv, cs[i * 4]? = some (.string ⟨xs[i].1.1.toArray⟩) ∧ cs[i * 4 + 1]? = some (.int .u8 (xs[i].1.2 : Int)) ∧ cs[i * 4 + 2]? = some (.int .i64 (xs[i].2.getD 0 0)) ∧ cs[i * 4 + 3]? = some fv ∧ RowIn W W.heap.size fv (xs[i].2.length - 1) ((xs[i].2.drop 1).map (Value.int .i64)) ∧ xs[i].2 ≠ [])
    (hlim : ∀ x ∈ xs, x.1.1.length ≤ maxLen ∧ x.1.2 < 256) : RowsG W (.slice (some ⟨g, 0, none⟩) n n) xs := by
  subst hn
  refine ⟨.inr ⟨⟨g, 0, none⟩, _, rfl, Nat.le_refl _, fun i hi => ?_⟩, hlim⟩
  obtain ⟨fv, h0, h1, h2, h3, h4, h5⟩ := h i hi
  refine ⟨g, i * 4, none, fv, addr0 g (i * 4), (Array.getElem?_eq_some_iff.1 hh).1, ?_, ?_, ?_, ?_, h4, h5⟩
  · simp [World.cell?, hh, h0]
  · simp [World.cell?, hh, h1]
  · simp [World.cell?, hh, h2]
  · simp [World.cell?, hh, h3]
theorem of_no {w : World} {names : Int} {v : Value} {xs : Ent} (h : RowsG w v xs) (hno : ¬ RowsOk xs) (h1 : 1 ≤ names) (h8 : names ≤ 8) (hxl : xs.length ≤ 1000) (hfl : ∀ x ∈ xs, x.2.length ≤ 1000) (hg : Glob w) (hm : MayT w) :
    Calls Tryd.prog 27 #[.int .i64 names, v] w fun e w' => e = .returned (.tuple #[.pointer none, .int .i64 4]) ∧ Below w.heap.size w w' := by
  refine (of_any w names v xs h hxl hfl hg hm).mono ?_
  rintro e w' ⟨hb, ⟨_, hbad⟩ | ⟨_, ⟨he, _⟩ | ⟨hok, _⟩⟩⟩
  · omega
  · exact ⟨he, hb⟩
  · exact absurd hok hno
theorem of_full {w : World} {names : Int} {v : Value} {xs : Ent} (h : RowsG w v xs) (hok : RowsOk xs) (hd : names < ((domsL xs).length : Int)) (h1 : 1 ≤ names) (h8 : names ≤ 8) (hxl : xs.length ≤ 1000) (hfl : ∀ x ∈ xs, x.2.length ≤ 1000) (hg : Glob w) (hm : MayT w) :
    Calls Tryd.prog 27 #[.int .i64 names, v] w fun e w' => e = .returned (.tuple #[.pointer none, .int .i64 41]) ∧ Below w.heap.size w w' := by
  refine (of_any w names v xs h hxl hfl hg hm).mono ?_
  rintro e w' ⟨hb, ⟨_, hbad⟩ | ⟨_, ⟨_, hno⟩ | ⟨_, ⟨he, _⟩ | ⟨_, hle, _⟩⟩⟩⟩
  · omega
  · exact absurd hok hno
  · exact ⟨he, hb⟩
  · omega
theorem of_yes {w : World} {names : Int} {v : Value} {xs : Ent} (h : RowsG w v xs) (hok : RowsOk xs) (hd : ((domsL xs).length : Int) ≤ names) (h1 : 1 ≤ names) (h8 : names ≤ 8) (hxl : xs.length ≤ 1000) (hfl : ∀ x ∈ xs, x.2.length ≤ 1000) (hg : Glob w) (hm : MayT w) :
    Calls Tryd.prog 27 #[.int .i64 names, v] w fun e w' => e = .returned (.tuple #[.pointer (some ⟨w.heap.size + 1, 0, none⟩), .int .i64 0]) ∧ TallyAt w' (w.heap.size + 1) w.heap.size names xs ∧ Below w.heap.size w w' := by
  refine (of_any w names v xs h hxl hfl hg hm).mono ?_
  rintro e w' ⟨hb, ⟨_, hbad⟩ | ⟨_, ⟨_, hno⟩ | ⟨_, ⟨_, hlt⟩ | ⟨he, _, hT⟩⟩⟩⟩
  · omega
  · exact absurd hok hno
  · omega
  · exact ⟨he, hT, hb⟩
def zer10 : List Int := [0, 0, 0, 0, 0, 0, 0, 0, 0, 0]
def bad10 : List Int := [0, 0, 0, 0, 0, 1, 0, 0, 0, 0]
def less10 : List Int := [-1, 0, 0, 0, 0, 0, 0, 0, 0, 0]
def rowOne : (Bytes × Nat) × List Int := (([98], 2), 1 :: zer10)
def rowTwo : (Bytes × Nat) × List Int := (([98], 1), 0 :: bad10)
def rowThree : (Bytes × Nat) × List Int := (([99], 1), 4 :: bad10)
theorem rows_doms : domsL [rowTwo, rowOne, rowThree] = [[98], [99]] := by decide
theorem rows_ok : RowsOk [rowTwo, rowOne, rowThree] := ⟨by decide, by unfold Asc; decide⟩
theorem rows_no1 : ¬ RowsOk [rowOne, rowTwo] := fun h => by
  have := h.asc
  unfold Asc at this
  revert this
  decide
theorem rows_no2 : ¬ RowsOk [rowOne, rowOne] := fun h => by
  have := h.asc
  unfold Asc at this
  revert this
  decide
/-- The results whose rows these are. -/
def accN : List Res := [(([98], 1), 6), (([98], 2), 0), (([99], 1), 0), (([99], 1), 0), (([99], 1), 0), (([99], 1), 0), (([99], 1), 6)]
theorem inv_names : Inv 2 [rowTwo, rowOne, rowThree] accN := by
  have h0 := Inv.nil (names := 2) (by decide)
  have h1 := h0.add (d := [98]) (t := 1) (what := 6) (by decide)
  have h2 := h1.add (d := [98]) (t := 2) (what := 0) (by decide)
  have h3 := h2.add (d := [99]) (t := 1) (what := 0) (by decide)
  have h4 := h3.add (d := [99]) (t := 1) (what := 0) (by decide)
  have h5 := h4.add (d := [99]) (t := 1) (what := 0) (by decide)
  have h6 := h5.add (d := [99]) (t := 1) (what := 0) (by decide)
  exact h6.add (d := [99]) (t := 1) (what := 6) (by decide)
theorem add_full : addB 2 [rowTwo, rowOne, rowThree] [100] 1 0 = 41 := by decide
theorem add_good : addB 2 [rowTwo, rowOne, rowThree] [99] 3 0 = 0 := by decide
/-- Zeros and a bad row's failures, where they lie. -/
structure KeepZB (w₀ W : World) (gz gb : Nat) : Prop where
  sess : Sess w₀ W
  z : W.heap[gz]? = some (.cells #[.int .i64 0, .int .i64 0, .int .i64 0, .int .i64 0, .int .i64 0, .int .i64 0, .int .i64 0, .int .i64 0, .int .i64 0, .int .i64 0] 3 (0, 0))
  b : W.heap[gb]? = some (.cells #[.int .i64 0, .int .i64 0, .int .i64 0, .int .i64 0, .int .i64 0, .int .i64 1, .int .i64 0, .int .i64 0, .int .i64 0, .int .i64 0] 3 (0, 0))
theorem KeepZB.next {w₀ W W' : World} {gz gb : Nat} (h : KeepZB w₀ W gz gb) (hb : Below W.heap.size W W') : KeepZB w₀ W' gz gb :=
  ⟨h.sess.next hb, (hb.block _ (Array.getElem?_eq_some_iff.1 h.z).1).trans h.z, (hb.block _ (Array.getElem?_eq_some_iff.1 h.b).1).trans h.b⟩
theorem KeepZB.rz {w₀ W : World} {gz gb : Nat} (h : KeepZB w₀ W gz gb) : RowIn W W.heap.size (.slice (some ⟨gz, 0, none⟩) 10 10) 10 (zer10.map (Value.int .i64)) :=
  .inr ⟨_, _, rfl, fun _ => (Array.getElem?_eq_some_iff.1 h.z).1, World.news_of_block h.z⟩
theorem KeepZB.rb {w₀ W : World} {gz gb : Nat} (h : KeepZB w₀ W gz gb) : RowIn W W.heap.size (.slice (some ⟨gb, 0, none⟩) 10 10) 10 (bad10.map (Value.int .i64)) :=
  .inr ⟨_, _, rfl, fun _ => (Array.getElem?_eq_some_iff.1 h.b).1, World.news_of_block h.b⟩
/-- The three rows' boxes besides. -/
structure KeepN (w₀ W : World) (gz gb g1 : Nat) : Prop where
  zb : KeepZB w₀ W gz gb
  one : W.heap[g1]? = some (.cells #[.string ⟨#[98]⟩, .int .u8 2, .int .i64 1, .slice (some ⟨gz, 0, none⟩) 10 10] 41 (0, 0))
  two : W.heap[g1 + 1]? = some (.cells #[.string ⟨#[98]⟩, .int .u8 1, .int .i64 0, .slice (some ⟨gb, 0, none⟩) 10 10] 41 (0, 0))
  three : W.heap[g1 + 2]? = some (.cells #[.string ⟨#[99]⟩, .int .u8 1, .int .i64 4, .slice (some ⟨gb, 0, none⟩) 10 10] 41 (0, 0))
theorem KeepN.next {w₀ W W' : World} {gz gb g1 : Nat} (h : KeepN w₀ W gz gb g1) (hb : Below W.heap.size W W') : KeepN w₀ W' gz gb g1 :=
  ⟨h.zb.next hb, (hb.block _ (Array.getElem?_eq_some_iff.1 h.one).1).trans h.one, (hb.block _ (Array.getElem?_eq_some_iff.1 h.two).1).trans h.two, (hb.block _ (Array.getElem?_eq_some_iff.1 h.three).1).trans h.three⟩
theorem KeepN.cells {w₀ W : World} {gz gb g1 : Nat} (h : KeepN w₀ W gz gb g1) : W.cell? ⟨g1, 0, none⟩ = some (.string ⟨#[98]⟩) ∧ W.cell? ⟨g1, 1, none⟩ = some (.int .u8 2) ∧ W.cell? ⟨g1, 2, none⟩ = some (.int .i64 1) ∧ W.cell? ⟨g1, 3, none⟩ = some (.slice (some ⟨gz, 0, none⟩) 10 10) ∧ W.cell? ⟨g1 + 1, 0, none⟩ = some (.string ⟨#[98]⟩) ∧ W.cell? ⟨g1 + 1, 1, none⟩ = some (.int .u8 1) ∧ W.cell? ⟨g1 + 1, 2, none⟩ = some (.int .i64 0) ∧ W.cell? ⟨g1 + 1, 3, none⟩ = some (.slice (some ⟨gb, 0, none⟩) 10 10) ∧ W.cell? ⟨g1 + 2, 0, none⟩ = some (.string ⟨#[99]⟩) ∧ W.cell? ⟨g1 + 2, 1, none⟩ = some (.int .u8 1) ∧ W.cell? ⟨g1 + 2, 2, none⟩ = some (.int .i64 4) ∧ W.cell? ⟨g1 + 2, 3, none⟩ = some (.slice (some ⟨gb, 0, none⟩) 10 10) :=
  ⟨by simp [World.cell?, h.one], by simp [World.cell?, h.one], by simp [World.cell?, h.one], by simp [World.cell?, h.one], by simp [World.cell?, h.two], by simp [World.cell?, h.two], by simp [World.cell?, h.two], by simp [World.cell?, h.two], by simp [World.cell?, h.three], by simp [World.cell?, h.three], by simp [World.cell?, h.three], by simp [World.cell?, h.three]⟩
end Go.Proofs.YthhcigmdocldnaaDoor
