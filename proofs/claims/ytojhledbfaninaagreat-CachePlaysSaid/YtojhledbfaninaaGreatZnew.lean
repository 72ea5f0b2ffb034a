/- The document's New; what is appended. -/
import Derived.Test.YtojhledbfaninaaGreatCrefp
import Derived.Test.YtojhledbfaninaaGreatCrsame
namespace Go.Proofs.YtojhledbfaninaaGreat
open Go Go.RowKit Go.Shelf Go.Sort
attribute [local go_sem] bneI

set_option maxRecDepth 100000 in
theorem refNew_bad (most : Int) (w : World) (h : most < 1 ∨ 8 < most) : Calls Tryz.prog 7 #[.int .i64 most] w fun e w' => e = .returned (.tuple #[.pointer none, .int .i64 1]) ∧ w = w' := by
  go_enter Tryz.func7, Tryz.ntmps7
  by_cases h1 : most < 1
  · clear h
    go_wp2
    refine bodyPost_ret (v := .tuple #[.pointer none, .int .i64 1]) (by simp [results, Tryz.results7, go_sem]) rfl ⟨rfl, rfl⟩
  · have h2 : 8 < most := by omega
    clear h
    go_wp2
    refine bodyPost_ret (v := .tuple #[.pointer none, .int .i64 1]) (by simp [results, Tryz.results7, go_sem]) rfl ⟨rfl, rfl⟩
set_option maxRecDepth 100000 in
theorem refNew_is (most : Int) (w : World) (h1 : 1 ≤ most) (h2 : most ≤ 8) : Calls Tryz.prog 7 #[.int .i64 most] w fun e w' => e = .returned (.tuple #[.pointer (some ⟨w.heap.size, 0, none⟩), .int .i64 0]) ∧ Below w.heap.size w w' ∧ w'.heap[w.heap.size]? = some (.cells #[.int .i64 most, .slice none 0 0] 60 (0, 0)) := by
  go_enter Tryz.func7, Tryz.ntmps7
  go_wp2
  refine bodyPost_ret (v := .tuple #[.pointer (some ⟨w.heap.size, 0, none⟩), .int .i64 0]) (by simp [results, Tryz.results7, go_sem]) rfl ⟨rfl, (Below.refl _ w).alloc (Nat.le_refl _) _, ha_eq rfl⟩

theorem ec_one (zs : List EM) : ∀ u ∈ ec zs, u.oneCell' = true := by
  intro u hu
  unfold ec at hu
  obtain ⟨x, _, hx⟩ := List.mem_flatMap.1 hu
  exact ecells_one x u hx
theorem RowE.rowIn {W : World} {v : Value} {zs : List EM} (h : RowE W v zs) (hz : zs ≠ []) : RowIn W W.heap.size v zs.length (ec zs) := by
  rcases h with ⟨h0, _⟩ | ⟨_, b, o, c, rfl, hc⟩
  · exact absurd h0 hz
  · have hcell : ∀ (j : Nat) (u : Value), (ec zs)[j]? = some u → W.cell? ⟨b, o + j, none⟩ = some u := by
      intro j u hj
      have hjl : j < zs.length * 6 := by
        have := (List.getElem?_eq_some_iff.1 hj).1
        rwa [ec_length] at this
      have hq : j / 6 < zs.length := by omega
      rw [ec_get zs j hjl] at hj
      have e1 : zs[j / 6]! = zs[j / 6] := by rw [getElem!_pos zs _ hq]
      rw [e1, getElem!_pos (ecells zs[j / 6]) (j % 6) (by rw [ecells_len]; omega)] at hj
      have := hc (j / 6) hq (j % 6) u (by rw [List.getElem?_eq_getElem (by rw [ecells_len]; omega)]; exact hj)
      rwa [show o + j / 6 * 6 + j % 6 = o + j by omega] at this
    refine .inr ⟨_, c, rfl, fun _ => ?_, fun j u hj => by rw [addrk]; exact hcell j u hj⟩
    have h0 : (ec zs)[0]? = some (ec zs)[0]! := by
      have hl : 0 < (ec zs).length := by rw [ec_length]; have := List.length_pos_iff.2 hz; omega
      rw [List.getElem?_eq_getElem hl, getElem!_pos (ec zs) _ hl]
    exact cell_lt (hcell 0 _ h0)
theorem rowE_setCell {W : World} {v : Value} {zs : List EM} (h : RowE W v zs) {a : Addr} {x : Value} (hne : ∀ k, v.ownBlock = some k → k ≠ a.block) : RowE (W.setCell a x) v zs := by
  rcases h with h | ⟨h1, b, o, c, rfl, hc⟩
  · exact .inl h
  · exact .inr ⟨h1, b, o, c, rfl, fun i hi k u hu => (World.cell?_of_block (Below.heap_setCell W a x b (hne b rfl))).trans (hc i hi k u hu)⟩

theorem wpList_append_zero {P : Program} {w : World} {ops : Array Oper} {rest : List Oper} {o : Oper} {a : Act} {Q : Exit → Act → World → Prop} (hgd : o.guard = none) (s x : Operand) (t : TypeId)
    (ho : o.op = .call { callee := .builtin .append, args := #[s, x], argTypes := #[t, t] }) (e : TypeId) (i : TypeInfo) (ht : P.underlying t = some (.slice e)) (hi : P.info? e = some i)
    (p : Option Addr) (n c : Nat) (hn : n ≤ c) (q : Option Addr) (d : Nat) (hs : a.eval s = .slice p n c) (hx : a.eval x = .slice q 0 d) (h : wpList P ops Q rest (a.put o.dst (.slice p n c)) w) : wpList P ops Q (o :: rest) a w :=
  wpList_plain hgd fun _ hK => by
    have hr := run_append_zero (P := P) w t o.type e i ht hi p n c hn q d
    unfold Oper.wp execOp
    simp only [ho, resolve, invoke, builtin, Sem.run_bind, Sem.run_pure, Result.andThen_ok, List.map_toArray, List.map_cons, List.map_nil, hs, hx, hr]
    exact hK _ _ h

end Go.Proofs.YtojhledbfaninaaGreat
