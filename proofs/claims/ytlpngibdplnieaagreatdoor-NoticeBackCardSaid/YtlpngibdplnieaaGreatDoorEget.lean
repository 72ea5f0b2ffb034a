/- head.those, Get, Plain; entry.plain. -/
import Derived.Test.YtlpngibdplnieaaGreatDoorEfl2
import Derived.Deep.AppendLies
namespace Go.Proofs.YtlpngibdplnieaaGreatDoor
open Go Go.RowKit Go.Shelf Go.Sort
attribute [local go_sem] bneI Oper.semAt_some

theorem wpListIn_append_lies {F : Fence} {n : Nat} {P : Program} (w : World) {ops : Array Oper} {rest : List Oper} {o : Oper} {a : Act} {Q : Exit → Act → World → Prop}
    (hg : o.guard = none) (s x : Operand) (t : TypeId) (hop : o.op = Op.call { callee := Callee.builtin Builtin.append, args := #[s, x], argTypes := #[t, t] })
    (base : Nat) (e : TypeId) (i : TypeInfo) (z : Value) (size bytes : Nat) (h1 : P.underlying t = some (.slice e)) (h2 : P.info? e = some i) (h3 : i.zero = some z) (h4 : i.size = size) (h5 : i.bytes = bytes) (h6 : z.cells.size = size) (h7 : 0 < size)
    (v : Value) (k : Nat) (xs : List Value) (hs : a.eval s = v) (hown : w.ownsRow base e size v k xs) (ad : Addr) (m c : Nat) (news : List Value) (hx : a.eval x = .slice (some ad) m c) (hn : news.length = m * size)
    (hc : ∀ j u, news[j]? = some u → w.cell? (ad.add j) = some u) (h1c : ∀ u ∈ news, u.oneCell' = true) (hm : 0 < m) (b1 : k + m ≤ maxLen) (b2 : (k + m) * bytes ≤ 140737488355328) (b3 : base ≤ w.heap.size) (H : Nat) (hH : w.heap.size = H)
    (hK : ∀ g cap w', w'.ownsRow base e size (.slice (some ⟨g, 0, none⟩) (k + m) cap) (k + m) (xs ++ news) → w.grownBy w' v.ownBlock → (v.ownBlock = some g ∨ g = H) → wpListIn F n P ops Q rest (a.put o.dst (.slice (some ⟨g, 0, none⟩) (k + m) cap)) w') :
    wpListIn F n P ops Q (o :: rest) a w := by
  refine wpListIn_plain hg fun K hK' => ?_
  obtain ⟨g, cap, w', hrun, r1, r2, r3, -⟩ := run_append_lies (P := P) w t o.type base e i z size bytes h1 h2 h3 h4 h5 h6 h7 v k xs hown ad m c news hn hc h1c hm b1 b2 b3 H hH
  unfold Oper.wpIn
  refine ⟨?_, ?_⟩
  · simp [Oper.about, hop, resolve, Target.leads, Sem.run_pure]
  · rw [Oper.semAt_plain F _ _ (by rw [hop]; intro c hc'; cases hc')]
    simp [execOp, hop, resolve, invoke, builtin, hs, hx, hrun, Result.andThen]
    exact hK' _ _ (hK g cap w' r1 r2 r3)

theorem fields_stops (n Bs bo : Nat) (s : Bytes) (hs : s.length ≤ 1000000) (w : World) (hB : w.heap[Bs]? = some (.cells #[str s] 9 (0, 0))) (hg : Glob w) :
    SeqFree Fence.wide n Tryz.prog 252 #[.pointer (some ⟨Bs, 0, none⟩)] fiE bo (· = 1) (fun xs => xs = fieldsB s) (FldY s) w := fun l J W hW hJ hJo hY h0 hcap => by
  have hlt := (Array.getElem?_eq_some_iff.1 hB).1
  obtain ⟨o, ho, _⟩ := hg.cells
  exact fields1_in n l Bs bo s hs J W hJ hJo hY ((hW.block Bs hlt).trans hB) (hg.below hW (lt_of_cells ho)) h0 (hcap _ rfl)
theorem fields_in (n : Nat) (s : ByteArray) (w : World) :
    CallsIn Fence.wide n Tryz.prog 229 #[.string s] w fun e w' => e = .returned (.func (.func 252) #[] #[.pointer (some ⟨w.heap.size, 0, none⟩)]) ∧ w.alloc (.cells #[.string s] 9) = w' := by
  refine callsIn_of_wp Tryz.func229 rfl trivial ?_ rfl
  simp only [Tryz.ntmps229, List.size_toArray, List.length_cons, List.length_nil, Nat.reduceAdd, Nat.reduceSub, Array.replicate_succ, Array.replicate_zero, List.push_toArray, List.append_toArray, List.nil_append, List.cons_append]
  gi_wp2
  go_ret
  exact ⟨rfl, rfl⟩
theorem keepsF_below {bo : Nat} {W W' : World} (hB : Below W.heap.size W W') (hbo : bo < W.heap.size) : KeepsF bo W W' :=
  ⟨hB.size, fun r _ hr _ hn => ⟨(hB.block r (lt_of_cells hr)).trans hr, fun k => hn ((ownB_block (hB.block bo hbo)).1 k)⟩⟩
/-- The values that count. -/
def thoseB (f : Bytes × Bytes → Bool) (l : List (Bytes × Bytes)) : List Bytes := (l.filter f).map (·.2)
theorem thoseB_snoc (f : Bytes × Bytes → Bool) (l : List (Bytes × Bytes)) (x : Bytes × Bytes) : thoseB f (l ++ [x]) = thoseB f l ++ (if f x = true then [x.2] else []) := by
  unfold thoseB
  rw [List.filter_append, List.map_append]
  cases h : f x <;> simp [h]
/-- What a round has done. -/
structure ThJ (w : World) (fv : Value) (f : Bytes × Bytes → Bool) (pre : List (Bytes × Bytes)) (W : World) : Prop where
  below : Below w.heap.size w W
  size : w.heap.size + 3 ≤ W.heap.size
  isb : W.heap[w.heap.size]? = some (.cells #[fv] 221 (0, 0))
  box : ∃ v, W.heap[w.heap.size + 1]? = some (.cells #[v] 81 (0, 0)) ∧ W.ownsRow (w.heap.size + 3) 9 1 v (thoseB f pre).length ((thoseB f pre).map str)
theorem ownF_th {w : World} {fv : Value} {f : Bytes × Bytes → Bool} {B : Nat} (hB : w.heap.size + 2 ≤ B) : OwnF B (w.heap.size + 1) (ThJ w fv f) := fun s W W' row h hg hr => by
  obtain ⟨v, hv, ho⟩ := h.box
  refine ⟨h.below.grown hg h.below.size (fun k e => by have := (hr k e).1; omega), Nat.le_trans h.size hg.size, (hg.block _ (lt_of_cells h.isb) (fun e => by have := (hr _ e.symm).1; omega)).trans h.isb, v, (hg.block _ (lt_of_cells hv) (fun e => by have := (hr _ e.symm).1; omega)).trans hv, ho.kept hg ?_⟩
  by_cases hn : v.ownBlock = none
  · exact .inl hn
  · refine .inr fun e => ?_
    cases hvb : v.ownBlock with
    | none => exact hn hvb
    | some r =>
      rw [hvb] at e
      obtain ⟨h1, h2⟩ := hr r e.symm
      rcases h2 with h2 | ⟨o, ho', hc⟩
      · refine h2 (.inr ?_)
        obtain ⟨p, n, c, rfl⟩ : ∃ p n c, v = .slice (some p) n c := by
          cases v with
          | slice p n c => cases p with
            | none => simp [Value.ownBlock] at hvb
            | some p => exact ⟨p, n, c, rfl⟩
          | _ => simp [Value.ownBlock] at hvb
        exact ⟨p, n, c, (box_cell hv).1, by simpa [Value.ownBlock] using hvb⟩
      · have := row_cells ho r o hvb ho'
        rw [this] at hc; cases hc
theorem thJ_own {w : World} {fv : Value} {f : Bytes × Bytes → Bool} {pre : List (Bytes × Bytes)} {W : World} (h : ThJ w fv f pre W) : (∃ o, W.heap[w.heap.size + 1]? = some o ∧ o.isCells = true) ∧ ∀ r, OwnB (w.heap.size + 1) W r → ∃ o, W.heap[r]? = some o ∧ o.isCells = true := by
  obtain ⟨v, hv, ho⟩ := h.box
  refine ⟨⟨_, hv, rfl⟩, fun r hr => ?_⟩
  rcases hr with rfl | ⟨p, n, c, h1, rfl⟩
  · exact ⟨_, hv, rfl⟩
  · rw [(box_cell hv).1] at h1
    injection h1 with h1
    subst h1
    have hlt := (ho.lt p.block rfl).2
    exact ⟨_, Array.getElem?_eq_getElem hlt, row_cells ho p.block _ rfl (Array.getElem?_eq_getElem hlt)⟩
/-- A box with a field. -/
def ThX (w : World) (fv : Value) (s : Bytes) (x : Bytes × Bytes) (a' : Act) (W : World) : Prop :=
  ∃ Bv, a' = { tmps := #[.string ⟨s.toArray⟩, fv, undef, .pointer (some ⟨w.heap.size, 0, none⟩), .slice none 0 0, .pointer (some ⟨w.heap.size + 1, 0, none⟩), .pointer (some ⟨Bv, 0, none⟩), .string ⟨s.toArray⟩, .func (.func 252) #[] #[.pointer (some ⟨w.heap.size + 2, 0, none⟩)], .agg #[.string ⟨x.1.toArray⟩, .string ⟨x.2.toArray⟩], undef, undef, undef, undef, undef, undef, undef, undef, undef], defers := [] } ∧ W.heap[Bv]? = some (.cells #[.string ⟨x.1.toArray⟩, .string ⟨x.2.toArray⟩] 220 (0, 0)) ∧ ¬ OwnB (w.heap.size + 1) W Bv ∧ w.heap.size + 3 ≤ Bv

set_option maxRecDepth 100000 in
set_option maxHeartbeats 4000000 in
theorem those_any (F : FuncId) (hE : ∀ args w, (callFunc F args).run Tryz.prog w = .ok (.enter F args) w) (caps : Array Value) (f : Bytes × Bytes → Bool) (s : Bytes) (w : World) (hs : s.length ≤ 1000000) (hg : Glob w)
    (hF : ∀ x : Bytes × Bytes, x.1.length ≤ 1000000 → x.2.length ≤ 1000000 → ∀ W, Below w.heap.size w W → Calls Tryz.prog F (#[.agg #[.string ⟨x.1.toArray⟩, .string ⟨x.2.toArray⟩]] ++ caps) W fun e W' => e = .returned (.bool (f x)) ∧ Below W.heap.size W W') :
    Calls Tryz.prog 193 #[.string ⟨s.toArray⟩, .func (.func F) #[] caps] w fun e w' => (∃ v, e = .returned v ∧ w'.ownsRow (w.heap.size + 3) 9 1 v (thoseB f (fieldsB s)).length ((thoseB f (fieldsB s)).map str)) ∧ Below w.heap.size w w' := by
  obtain ⟨i0, hi0, hz0, hz1, hz2⟩ := info_parts infoStr
  refine (callsIn_wide (n := 8)).1 ?_
  refine callsIn_of_wp_marks Tryz.func193 rfl trivial ?_ rfl
  simp only [Tryz.ntmps193, List.size_toArray, List.length_cons, List.length_nil, Nat.reduceAdd, Nat.reduceSub, Array.replicate_succ, Array.replicate_zero, List.push_toArray, List.append_toArray, List.nil_append, List.cons_append]
  gi_wp2_with fail
  refine ⟨trivial, (fields_in 7 ⟨s.toArray⟩ _).mono ?_⟩
  rintro e w' ⟨rfl, hw⟩
  have hs1 : w'.heap.size = w.heap.size + 3 := by rw [← hw]; simp
  have hb0 : w'.heap[w.heap.size]? = some (.cells #[.func (.func F) #[] caps] 221 (0, 0)) := by rw [← hw, ha_ne (by simp; omega), ha_ne (by simp), ha_eq rfl]
  have hb1 : w'.heap[w.heap.size + 1]? = some (.cells #[.slice none 0 0] 81 (0, 0)) := by rw [← hw, ha_ne (by simp), ha_eq (by simp)]
  have hb2 : w'.heap[w.heap.size + 2]? = some (.cells #[str s] 9 (0, 0)) := by rw [← hw]; exact ha_eq (by simp)
  have hbl : Below w.heap.size w w' := by rw [← hw]; exact (((Below.refl _ _).alloc (Nat.le_refl _) _).alloc (by simp) _).alloc (by simp; omega) _
  have hgl : 1 < w.heap.size := by obtain ⟨o, ho, _⟩ := hg.cells; exact lt_of_cells ho
  have hg' := hg.below hbl hgl
  simp only [World.size_alloc]
  clear hw
  gi_wp2_with fail
  have HD := Lib.hid (And.intro hb0 (And.intro hb1 (And.intro hb2 (And.intro hg' (And.intro hF hgl)))))
  have hno : ∀ r, r = 1 → ¬ OwnB (w.heap.size + 1) w' r := by
    rintro r rfl (e | ⟨p, n, c, h, -⟩)
    · omega
    · rw [(box_cell hb1).1] at h; cases h
  clear hb0 hb1 hb2 hg' hF hgl
  refine wpIn_rangeFunc_F (w0 := w') (encs := fiE) (bo := w.heap.size + 1) (Cap := (· = 1)) (S := fun xs => xs = fieldsB s) (Y := FldY s) rfl (by decide) (gf := 252) (lb := #[.pointer (some ⟨w.heap.size + 2, 0, none⟩)]) rfl trivial (enters_of Tryz.func252 (by kernel_rfl) rfl)
    (fields_stops 7 (w.heap.size + 2) (w.heap.size + 1) s hs w' HD.out.2.2.1 HD.out.2.2.2.1)
    (Below.refl _ _) (fun _ => rfl) (by omega) hno
    (ThJ w (.func (.func F) #[] caps) f) (ownF_th (by omega)) (fun pre W h => thJ_own h)
    ⟨hbl, by omega, HD.out.1, _, HD.out.2.1, ⟨rfl, .inl ⟨rfl, rfl⟩⟩⟩ (ThX w (.func (.func F) #[] caps) s) ?ax ?assign ?body ?done
  case ax =>
    rintro x a' W lo o o' ⟨Bv, e, hb, hno, hge⟩ hl ho hc
    have hne : Bv ≠ lo := fun e => by
      subst e
      rw [hb] at ho
      cases ho
      cases hc
    have hne2 : w.heap.size + 1 ≠ lo := by omega
    exact ⟨Bv, e, (World.putObj_heap_other hne).trans hb, fun k => hno ((ownB_block (World.putObj_heap_other hne2)).1 k), hge⟩
  case assign =>
    intro l pre x W K hI hK
    unfold fiE
    gi_wp2
    have hbv : (W.alloc (.cells #[.string ⟨x.1.toArray⟩, .string ⟨x.2.toArray⟩] 220)).heap[W.heap.size]? = some (.cells #[.string ⟨x.1.toArray⟩, .string ⟨x.2.toArray⟩] 220 (0, 0)) := ha_eq rfl
    have hbo : w.heap.size + 1 < W.heap.size := by have := hI.size; omega
    refine hK _ _ ((KeepsOthers.alloc _ _).from _) (keepsF_below ((Below.refl _ _).alloc (Nat.le_refl _) _) hbo) ((ownF_th (by omega) : OwnF w'.heap.size _ _).alloc _ hI) ⟨W.heap.size, rfl, hbv, ?_, hI.size⟩
    intro k
    have h1 := (ownB_block (bo := w.heap.size + 1) (W := W) (ha_ne (by omega))).1 k
    obtain ⟨o, ho, _⟩ := (thJ_own hI).2 _ h1
    have := lt_of_cells ho
    omega
  case body =>
    intro l pre x a' W hlv hloop hI ha hlen
    obtain ⟨Bv, rfl, hBv, hBo, hBg⟩ := ha
    obtain ⟨k0, g0⟩ := box_cell hI.isb
    have d0 : W.cell? ⟨Bv, 0, none⟩ = some (.string ⟨x.1.toArray⟩) := by simp [World.cell?, hBv]
    have d1 : W.cell? ⟨Bv, 1, none⟩ = some (.string ⟨x.2.toArray⟩) := by simp [World.cell?, hBv]
    have hcl := HD.out.2.2.2.2.1 x hlen.2.1 hlen.2.2 W hI.below
    have hbo : w.heap.size + 1 < W.heap.size := by have := hI.size; omega
    have hsn := thoseB_snoc f pre x
    have hmany : (thoseB f pre).length ≤ 1000000 := by
      have h1 : (thoseB f pre).length ≤ pre.length := by unfold thoseB; rw [List.length_map]; exact List.length_filter_le _ _
      have := hlen.1
      omega
    have hHI := Lib.hid (And.intro hI (And.intro hBv (And.intro hBo (And.intro hsn (And.intro hbo (And.intro hmany hlv))))))
    clear hI hBv hBo hsn hmany
    have hrun : Sem.run Tryz.prog (callFunc F (#[.agg #[.string ⟨x.1.toArray⟩, .string ⟨x.2.toArray⟩]] ++ caps)) W = .ok (.enter F (#[.agg #[.string ⟨x.1.toArray⟩, .string ⟨x.2.toArray⟩]] ++ caps)) W := hE _ _
    gi_wp2_with fail
    refine ⟨trivial, CallsIn.inRound l (callsIn_wide.2 (hcl.mono ?_))⟩
    rintro e w2 ⟨rfl, hB2⟩
    have hI2 : ThJ w (.func (.func F) #[] caps) f pre w2 := (ownF_th (B := w.heap.size + 2) (Nat.le_refl _)) _ _ _ none hHI.out.1 (grownBy_of_below hB2 none) (fun r e => by cases e)
    have hkf : KeepsF (w.heap.size + 1) W w2 := keepsF_below hB2 hbo
    have hkr : KeepsFrom w'.heap.size W w2 := ⟨hB2.size, fun k o _ hk _ => (hB2.block k (lt_of_cells hk)).trans hk⟩
    have hBv2 := (hB2.block _ (lt_of_cells hHI.out.2.1)).trans hHI.out.2.1
    have hsz2 : W.heap.size ≤ w2.heap.size := hB2.size
    clear hcl hrun d0 d1 k0 g0 hB2
    cases hfx : f x with
    | false =>
      have hsame : thoseB f (pre ++ [x]) = thoseB f pre := by rw [hHI.out.2.2.2.1, hfx]; simp
      have H2 := Lib.hid (And.intro hI2 (And.intro hkf (And.intro hkr hsame)))
      clear hI2 hkf hkr hBv2 hfx hsame hsz2
      gi_wp2
      refine ⟨H2.out.2.2.1, H2.out.2.1, H2.out.1.below, H2.out.1.size, H2.out.1.isb, ?_⟩
      rw [H2.out.2.2.2]
      exact H2.out.1.box
    | true =>
      have hmore : thoseB f (pre ++ [x]) = thoseB f pre ++ [x.2] := by rw [hHI.out.2.2.2.1, hfx]; simp
      obtain ⟨v, hv, ho⟩ := hI2.box
      obtain ⟨c1, f1⟩ := box_cell hv
      have d1 : w2.cell? ⟨Bv, 1, none⟩ = some (.string ⟨x.2.toArray⟩) := by simp [World.cell?, hBv2]
      have H2 := Lib.hid (And.intro hI2 (And.intro hkf (And.intro hkr (And.intro hmore (And.intro hv (And.intro ho hsz2))))))
      clear hI2 hkf hkr hBv2 hfx hmore hv ho hsz2
      gi_wp2_with (gi_at_builtin; refine Bx.h ?_)
      refine ⟨?_⟩
      refine wpListIn_append_lies _ rfl _ _ 81 rfl (w.heap.size + 3) 9 i0 (.string ⟨#[]⟩) 1 16 Tryz.underlying81 hi0 hz0 hz1 hz2 rfl (by decide) _ _ _ rfl (H2.out.2.2.2.2.2.1.alloc _) ⟨w2.heap.size, 0, none⟩ 1 1 [.string ⟨x.2.toArray⟩] rfl rfl (cell_list1 rfl) (by simp [Value.oneCell']) (by decide) (by have := hHI.out.2.2.2.2.2.1; unfold maxLen; omega) (by have := hHI.out.2.2.2.2.2.1; omega) (by have h1 := H2.out.2.2.2.2.2.2; have h2 := hHI.out.1.size; simp; omega) _ rfl ?_
      intro g cap w3 hown3 hgrow3 hat3
      replace hgrow3 : (w2.alloc _).grownBy w3 v.ownBlock := hgrow3
      replace hat3 : v.ownBlock = some g ∨ g = w2.heap.size + 1 := by
        rcases hat3 with h | h
        · exact .inl h
        · exact .inr (by simpa using h)
      have hx : w2.grownBy w3 v.ownBlock := World.grownBy.trans (World.grownBy_alloc _ _ _) hgrow3
      have hrne : ∀ b, b < w.heap.size + 3 → v.ownBlock ≠ some b := fun b hb' e => by
        have := (H2.out.2.2.2.2.2.1.lt b e).1; omega
      have hsw := H2.out.1.size
      have hv3 : w3.heap[w.heap.size + 1]? = some (.cells #[v] 81 (0, 0)) := (hx.block _ (by omega) (fun e => hrne _ (by omega) e.symm)).trans H2.out.2.2.2.2.1
      have hi3 : w3.heap[w.heap.size]? = some (.cells #[.func (.func F) #[] caps] 221 (0, 0)) := (hx.block _ (by omega) (fun e => hrne _ (by omega) e.symm)).trans H2.out.1.isb
      obtain ⟨c3, f3⟩ := box_cell hv3
      have hb3 : Below w.heap.size w w3 := H2.out.1.below.grown hx H2.out.1.below.size (fun k e => Nat.le_trans (by omega) (H2.out.2.2.2.2.2.1.lt k e).1)
      have hko : KeepsOthers w2 w3 := KeepsOthers.of_grownBy hx (row_cells H2.out.2.2.2.2.2.1)
      have H3 := Lib.hid (And.intro hx (And.intro hv3 (And.intro hi3 (And.intro hb3 (And.intro hko (And.intro hown3 hat3))))))
      clear hx hv3 hi3 hb3 hko hown3 hgrow3 hat3 hrne c1 f1 d1 hsw
      gi_wp2
      have hown := H3.out.2.2.2.2.2.1
      have hs1 := grown_set w3 (w.heap.size + 1) (.slice (some ⟨g, 0, none⟩) ((thoseB f pre).length + 1) cap)
      have hr0 : (Value.slice (some ⟨g, 0, none⟩) ((thoseB f pre).length + 1) cap).ownBlock ≠ some (w.heap.size + 1) := fun e => by
        have := (hown.lt _ e).1; omega
      have hc5 := (box_cell (box_set (.slice (some ⟨g, 0, none⟩) ((thoseB f pre).length + 1) cap) H3.out.2.1)).1
      have hkf5 : KeepsF (w.heap.size + 1) w2 (w3.setCell ⟨w.heap.size + 1, 0, none⟩ (.slice (some ⟨g, 0, none⟩) ((thoseB f pre).length + 1) cap)) := by
        refine ⟨by have := H3.out.1.size; simpa [World.setCell] using this, fun r o hr hc hn => ?_⟩
        have hr1 : r ≠ w.heap.size + 1 := fun e => hn (.inl e)
        have hr2 : some r ≠ v.ownBlock := fun e => hn (.inr (by
          obtain ⟨p, n, c, rfl⟩ : ∃ p n c, v = .slice (some p) n c := by
            cases v with
            | slice p n c => cases p with
              | none => simp [Value.ownBlock] at e
              | some p => exact ⟨p, n, c, rfl⟩
            | _ => simp [Value.ownBlock] at e
          exact ⟨p, n, c, (box_cell H2.out.2.2.2.2.1).1, by simpa [Value.ownBlock] using e.symm⟩))
        refine ⟨(Below.heap_setCell w3 ⟨w.heap.size + 1, 0, none⟩ _ r hr1).trans ((H3.out.1.block r (lt_of_cells hr) hr2).trans hr), fun k => ?_⟩
        rcases k with k | ⟨p, n, c, h1, h2⟩
        · exact hr1 k
        · rw [hc5] at h1
          have h4 : p.block = g := by
            injection h1 with h1
            injection h1 with h1 _ _
            injection h1 with h1
            rw [← h1]
          rw [h4] at h2
          rcases H3.out.2.2.2.2.2.2 with h3 | h3
          · exact hr2 (by rw [h3, h2])
          · have hlt := lt_of_cells hr
            omega
      refine ⟨H2.out.2.2.1.trans ((H3.out.2.2.2.2.1.trans (KeepsOthers.setCell _ _ _)).from _), H2.out.2.1.trans hkf5, H3.out.2.2.2.1.setCell (p := ⟨w.heap.size + 1, 0, none⟩) (by simp) _, ?_, box_other _ H3.out.2.2.1 (by omega), _, box_set _ H3.out.2.1, ?_⟩
      · have h1 := H3.out.1.size
        have h2 := H2.out.1.size
        simp [World.setCell]
        omega
      · rw [H2.out.2.2.2.1, List.length_append, List.map_append]
        exact hown.kept hs1 (.inr hr0)
  case done =>
    intro D xs W hD hS hI hK
    obtain ⟨v, hv, ho⟩ := hI.box
    obtain ⟨p, c, rfl⟩ := own_shape ho
    obtain ⟨c1, f1⟩ := box_cell hv
    have hH := Lib.hid (And.intro hI.below (And.intro hv (And.intro ho hS)))
    clear hI hv ho hS
    gi_wp2
    refine ⟨by simp, .inl ⟨_, _, rfl, run_takeDeferred hK, ?_⟩⟩
    have hg := grownBy_putObj' W D (.deferred none)
    have hn : (Value.slice p (thoseB f xs).length c).ownBlock = none ∨ (Value.slice p (thoseB f xs).length c).ownBlock ≠ some D := row_ne hH.out.2.2.1 (fun r e => by cases e; exact ⟨_, hK, fun cur e => by cases e⟩)
    refine ⟨_, results_tmp rfl _ _ _, ⟨_, rfl, ?_⟩, hH.out.1.grown hg hH.out.1.size (fun k e => by cases e; omega)⟩
    have := hH.out.2.2.1.kept hg hn
    rw [hH.out.2.2.2] at this ⊢
    exact this

theorem enterGet : ∀ args w, (callFunc 194 args).run Tryz.prog w = .ok (.enter 194 args) w := enters_of Tryz.func194 (by kernel_rfl) rfl
set_option maxRecDepth 100000 in
theorem get1_any (x : Bytes × Bytes) (nm : Bytes) (b : Nat) (w : World) (hx : x.1.length ≤ maxLen) (hn : nm.length ≤ maxLen) (hb : w.cell? ⟨b, 0, none⟩ = some (.string ⟨nm.toArray⟩)) :
    Calls Tryz.prog 194 (#[.agg #[.string ⟨x.1.toArray⟩, .string ⟨x.2.toArray⟩]] ++ #[.pointer (some ⟨b, 0, none⟩)]) w fun e w' => e = .returned (.bool (likeB x.1 nm)) ∧ Below w.heap.size w w' := by
  obtain ⟨t, v⟩ := x
  dsimp only at hx ⊢
  obtain ⟨W1, hW1⟩ : ∃ W1, W1 = (w.alloc (.cells #[.string ⟨t.toArray⟩, .string ⟨v.toArray⟩] 220)) := ⟨_, rfl⟩
  have hB1 : Below w.heap.size w W1 := by rw [hW1]; exact (Below.refl _ w).alloc (Nat.le_refl _) _
  have hb1 : W1.heap[w.heap.size]? = some (.cells #[.string ⟨t.toArray⟩, .string ⟨v.toArray⟩] 220 (0, 0)) := by rw [hW1]; exact ha_eq rfl
  have x0 : W1.cell? ⟨w.heap.size, 0, none⟩ = some (.string ⟨t.toArray⟩) := by simp [World.cell?, hb1]
  have y0 := (hB1.cell (p := ⟨b, 0, none⟩) (cell_lt hb)).trans hb
  have hL := like_any t nm W1 hx hn
  have HB := Lib.hid hB1
  clear hB1 hb1 hb hx hn
  show Calls Tryz.prog 194 #[.agg #[.string ⟨t.toArray⟩, .string ⟨v.toArray⟩], .pointer (some ⟨b, 0, none⟩)] w _
  generalize likeB t nm = r at *
  go_enter Tryz.func194, Tryz.ntmps194
  go_upto_region 1 with (fail)
  rw [← hW1]
  clear hW1
  go_wp2_with fail
  refine hL.mono ?_
  rintro e w1 ⟨rfl, hb⟩
  have HB2 := Lib.hid (HB.out.trans (hb.mono HB.out.size))
  clear hb hL x0 y0
  go_wp2
  refine bodyPost_ret (v := .bool r) (by simp [results, Tryz.results194, go_sem]) rfl ⟨rfl, HB2.out⟩
theorem getB_those (s nm : Bytes) : thoseB (fun x => likeB x.1 nm) (fieldsB s) = getB s nm := rfl
/-- What Get hands back: its own row. -/
def GetPost (w : World) (l : List Bytes) (e : Ending) (w' : World) : Prop := ∃ v, e = .returned v ∧ w'.ownsRow (w.heap.size + 1) 9 1 v l.length (l.map str)
set_option maxRecDepth 100000 in
theorem get_any (s nm : Bytes) (w : World) (hs : s.length ≤ 1000000) (hn : nm.length ≤ 1000000) (hg : Glob w) :
    Calls Tryz.prog 158 #[.string ⟨s.toArray⟩, .string ⟨nm.toArray⟩] w fun e w' => GetPost w (getB s nm) e w' ∧ Below w.heap.size w w' := by
  obtain ⟨W1, hW1⟩ : ∃ W1, W1 = (w.alloc (.cells #[.string ⟨nm.toArray⟩] 9)) := ⟨_, rfl⟩
  have hB1 : Below w.heap.size w W1 := by rw [hW1]; exact (Below.refl _ w).alloc (Nat.le_refl _) _
  have hb1 : W1.heap[w.heap.size]? = some (.cells #[.string ⟨nm.toArray⟩] 9 (0, 0)) := by rw [hW1]; exact ha_eq rfl
  have hsz : W1.heap.size = w.heap.size + 1 := by rw [hW1]; simp
  have x0 := (box_cell hb1).1
  have hT := those_any 194 enterGet #[.pointer (some ⟨w.heap.size, 0, none⟩)] (fun x => likeB x.1 nm) s W1 hs (hg.keep hB1) (fun x h1 h2 W hW => get1_any x nm w.heap.size W (by unfold maxLen; omega) (by unfold maxLen; omega) ((hW.cell (p := ⟨w.heap.size, 0, none⟩) (cell_lt x0)).trans x0))
  rw [getB_those] at hT
  have HB := Lib.hid (And.intro hB1 hsz)
  clear hB1 hb1 hsz hs hn hg x0
  generalize getB s nm = l at *
  go_enter Tryz.func158, Tryz.ntmps158
  go_upto_region 1 with (fail)
  rw [← hW1]
  clear hW1
  go_wp2_with fail
  refine hT.mono ?_
  rintro e w1 ⟨⟨v, rfl, ho⟩, hb⟩
  have HB2 := Lib.hid (And.intro (HB.out.1.trans (hb.mono HB.out.1.size)) (own_base ho (show w.heap.size + 1 ≤ W1.heap.size + 3 by have := HB.out.2; omega)))
  clear hb hT ho
  go_wp2
  refine bodyPost_ret (v := v) (by simp [results, Tryz.results158, go_sem]) rfl ⟨⟨_, rfl, HB2.out.2⟩, HB2.out.1⟩
theorem begins_le {l : Bytes} {f : Bytes × Bytes} (h : beginsB l = some f) : f.2.length ≤ l.length := by
  have hc := cut58_le l
  unfold beginsB at h
  generalize Lib.cut l [58] = c at *
  obtain ⟨n, v, b⟩ := c
  dsimp only at h hc
  split at h
  · injection h with h
    rw [← h]
    exact hc.2
  · cases h
theorem tellB_le {now : Option (Bytes × Bytes)} {k : Nat} (h : ∀ p, now = some p → p.2.length ≤ k) : ∀ f ∈ tellB now, f.2.length ≤ k := by
  intro f hf
  cases now with
  | none => cases hf
  | some p =>
    obtain ⟨n, v⟩ := p
    have : f = (n, trimB v) := by simpa [tellB] using hf
    rw [this]
    exact Nat.le_trans (trimB_le v) (h _ rfl)
theorem fieldsF_le : ∀ (L : List Bytes) (now : Option (Bytes × Bytes)) (k : Nat), (∀ p, now = some p → p.2.length ≤ k) → ∀ f ∈ fieldsF now L, f.2.length ≤ k + lenSum L
  | [], now, k, h, f, hf => by
    have := tellB_le h f (by simpa [fieldsF] using hf)
    omega
  | l :: r, now, k, h, f, hf => by
    rw [lenSum_cons]
    unfold fieldsF at hf
    split at hf
    · have := fieldsF_le r (now.map fun f => (f.1, f.2 ++ l)) (k + l.length) (fun p hp => by
        cases now with
        | none => cases hp
        | some q =>
          have hq := h q rfl
          have : p = (q.1, q.2 ++ l) := by simpa using hp.symm
          rw [this]
          simp; omega) f hf
      omega
    · rcases List.mem_append.1 hf with hf | hf
      · have := tellB_le h f hf
        omega
      · split at hf
        · rename_i g hg
          have := fieldsF_le r (some g) (k + l.length) (fun p hp => by
            cases hp
            have := begins_le hg
            omega) f hf
          omega
        · cases hf
theorem getB_le (s nm : Bytes) : ∀ v ∈ getB s nm, v.length ≤ s.length := by
  intro v hv
  unfold getB at hv
  obtain ⟨f, hf, rfl⟩ := List.mem_map.1 hv
  have hf := (List.mem_filter.1 hf).1
  have := fieldsF_le (linesB s).1 none 0 (fun p h => by cases h) f hf
  have h2 := linesF_sum s.length s
  rw [show linesF s.length s = linesB s from rfl] at h2
  omega
set_option maxRecDepth 100000 in
set_option maxHeartbeats 1000000 in
theorem plainH_any (s : Bytes) (w : World) (hs : s.length ≤ 1000000) (hg : Glob w) :
    Calls Tryz.prog 114 #[.string ⟨s.toArray⟩] w fun e w' => e = .returned (.bool (plainB s)) ∧ Below w.heap.size w w' := by
  have hG := get_any s reqName w hs (by decide) hg
  have hp : plainB s = match getB s reqName with | [v] => likeB v [78, 111] | _ => false := rfl
  have hle := getB_le s reqName
  unfold reqName at hG hp hle
  generalize getB s [84, 76, 83, 45, 82, 101, 113, 117, 105, 114, 101, 100] = l at *
  have HP := Lib.hid (And.intro hp hle)
  clear hp hle
  go_enter Tryz.func114, Tryz.ntmps114
  go_wp2_with fail
  refine hG.mono ?_
  rintro e w1 ⟨⟨v, rfl, ho⟩, hb⟩
  clear hG
  have HB := Lib.hid hb
  clear hb
  obtain ⟨p, c, rfl⟩ := own_shape ho
  have HO := Lib.hid ho
  clear ho
  match l with
  | [] =>
    go_wp2
    refine bodyPost_ret (v := .bool false) (by simp [results, Tryz.results114, go_sem]) rfl ⟨by rw [HP.out.1], HB.out⟩
  | [v1] =>
    obtain ⟨g, rfl, hcell⟩ : ∃ g, p = some ⟨g, 0, none⟩ ∧ w1.cell? ⟨g, 0, none⟩ = some (.string ⟨v1.toArray⟩) := by
      obtain ⟨g, cap, hv, -⟩ := HO.out.form (by simp)
      injection hv with h1 h2 h3
      subst h1
      exact ⟨g, rfl, by rw [HO.out.cellAt 0 (by simp)]; rfl⟩
    have hL := like_any v1 [78, 111] w1 (by have := HP.out.2 v1 (by simp); unfold maxLen; omega) (by decide)
    have HQ := Lib.hid HP.out.1
    clear HP HO
    dsimp only [List.length_cons, List.length_nil] at *
    go_wp2_with fail
    refine hL.mono ?_
    rintro e w2 ⟨rfl, hb2⟩
    have HB2 := Lib.hid (HB.out.trans (hb2.mono HB.out.size))
    clear hL hb2 hcell
    go_wp2
    refine bodyPost_ret (v := .bool (likeB v1 [78, 111])) (by simp [results, Tryz.results114, go_sem]) rfl ⟨by rw [HQ.out], HB2.out⟩
  | a :: b :: r =>
    have hne : ((((a :: b :: r).length : Nat) : Int) == 1) = false := by simp; omega
    have hne2 : decide ((((a :: b :: r).length : Nat) : Int) = 1) = false := by simp; omega
    have hk : 1 < (a :: b :: r).length := by simp
    have HP2 := Lib.hid HP.out.1
    clear HP HO
    generalize (a :: b :: r).length = k at *
    go_wp2
    refine bodyPost_ret (v := .bool false) (by simp [results, Tryz.results114, go_sem]) rfl ⟨by rw [HP2.out], HB.out⟩

set_option maxRecDepth 100000 in
set_option maxHeartbeats 1000000 in
theorem plainE_any (m : MailP) (sv : Value) (w : World) (hs : m.text.length ≤ 1000000) (hg : Glob w) :
    Calls Tryz.prog 54 #[mailV m sv] w fun e w' => e = .returned (.bool (plainM m)) ∧ Below w.heap.size w w' := by
  obtain ⟨W1, hW1⟩ : ∃ W1, W1 = (w.alloc (.cells (mailC m sv).toArray 24)) := ⟨_, rfl⟩
  have hB1 : Below w.heap.size w W1 := by rw [hW1]; exact (Below.refl _ w).alloc (Nat.le_refl _) _
  have hb1 : W1.heap[w.heap.size]? = some (.cells (mailC m sv).toArray 24 (0, 0)) := by rw [hW1]; exact ha_eq rfl
  unfold mailV
  unfold mailC at hW1 hb1 ⊢
  have hx := mbox hb1
  obtain ⟨-, -, x2, -, x4⟩ := hx
  have hP := plainH_any m.text W1 hs (hg.keep hB1)
  have hpm : plainM m = (plainB m.text && !m.req) := rfl
  have HB := Lib.hid (And.intro hB1 (And.intro hb1 hpm))
  clear hB1 hb1 hs hg hpm
  generalize plainB m.text = r at *
  have hnv : ∃ p n c, sv = .slice p n c ∨ True := ⟨none, 0, 0, .inr trivial⟩
  clear hnv
  go_enter Tryz.func54, Tryz.ntmps54
  go_upto_region 1 with (fail)
  rw [← hW1]
  clear hW1
  go_wp2_with fail
  refine hP.mono ?_
  rintro e w2 ⟨rfl, hb2⟩
  have x2' := (hb2.cell (p := ⟨w.heap.size, 2, none⟩) (cell_lt x2)).trans x2
  have HB2 := Lib.hid (HB.out.1.trans (hb2.mono HB.out.1.size))
  clear hP hb2 x2 x4
  cases r with
  | true =>
    go_wp2
    refine bodyPost_ret (v := .bool (!m.req)) (by simp [results, Tryz.results54, go_sem]) rfl ⟨by rw [HB.out.2.2]; rfl, HB2.out⟩
  | false =>
    go_wp2
    refine bodyPost_ret (v := .bool false) (by simp [results, Tryz.results54, go_sem]) rfl ⟨by rw [HB.out.2.2]; rfl, HB2.out⟩
end Go.Proofs.YtlpngibdplnieaaGreatDoor
