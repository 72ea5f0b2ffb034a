/- Parts of the proof, joined: Nbst, Ntr. -/
import Derived.Test.YtlpngibdplnieaaGreatDoorNlin
import Derived.Test.YtlpngibdplnieaaGreatDoorMg
import Derived.Deep.RegionHeld3
/- (*strings.Builder).String; slices.Clone of failures. -/
namespace Go.Proofs.YtlpngibdplnieaaGreatDoor
open Go Go.RowKit Go.Shelf Go.Sort
attribute [local go_sem] bneI
set_option maxRecDepth 100000 in
set_option maxHeartbeats 1000000 in
theorem bstrN_any (w0 : World) (b : Nat) (l : Bytes) (w : World) (h : BdAt w0 b l w) (h0 : l ≠ []) :
    Calls Tryz.prog 66 #[.pointer (some ⟨b, 0, none⟩)] w fun e w' => e = .returned (.string ⟨l.toArray⟩) ∧ Below w0.heap.size w0 w' := by
  obtain ⟨p, hB, v, hbk, hown, hne⟩ : ∃ p, Lib.BuilderAt BT 5 w0.heap.size b p (Lib.byteCells l) w := by
    rcases h.bld with h | h
    · exact ⟨_, h⟩
    · exact ⟨_, h⟩
  have hl0 : l.length ≠ 0 := by simpa using h0
  rw [Lib.byteCells_length] at hown
  obtain ⟨g, cap, cur, rfl, hbg, hg, hnc, hcm, hcs, htake⟩ : ∃ g cap cur, v = .slice (some ⟨g, 0, none⟩) l.length cap ∧ w0.heap.size ≤ g ∧ w.heap[g]? = some (.cells cur 5 (0, 0)) ∧ l.length ≤ cap ∧ cap ≤ maxLen ∧ cur.size = cap * 1 ∧ cur.toList.take (l.length * 1) = Lib.byteCells l := by
    rcases hown.2 with ⟨_, hz⟩ | ⟨g, cap, cur, hv, r⟩
    · exact absurd hz hl0
    · exact ⟨g, cap, cur, hv, r⟩
  have c1 : w.drew.cell? ⟨b, 1, none⟩ = some (.slice (some ⟨g, 0, none⟩) l.length cap) := by
    have : w.drew.heap[b]? = some (.cells #[p, .slice (some ⟨g, 0, none⟩) l.length cap] BT (0, 0)) := hbk
    rw [Lib.cell_of_heap this]; rfl
  have hSD : ∀ ty, (Builtin.unsafeSliceData_ #[116] ty #[.slice (some ⟨g, 0, none⟩) l.length cap]).run Tryz.prog w.drew = .ok (.pointer (some ⟨g, 0, none⟩)) w.drew := fun ty =>
    Lib.run_unsafeSliceData_row _ _ _ _ _ _ (by omega)
  have hUS : (Builtin.unsafeString_ #[169, 3] 9 #[.pointer (some ⟨g, 0, none⟩), .int .i64 l.length]).run Tryz.prog w.drew = .ok (.string ⟨l.toArray⟩) (w.drew.freeze ⟨g, 0, none⟩ l.length) := by
    refine Lib.run_unsafeString_row w.drew 169 3 9 5 Tryz.underlying169 cellsByteE g cur.size (by have hg' : w.drew.heap[g]? = some (.cells cur 5 (0, 0)) := hg; simp [World.shape?, hg']) l h0 (by omega) (by unfold maxLen at hcm; omega) ?_
    intro j x hx
    have := hown.cells (g := g) rfl j (.int .u8 x.toNat) (by simp [Lib.byteCells, hx])
    exact this
  have HB := Lib.hid (And.intro h.below hbg)
  clear h hbk hown hne hg hnc hcm hcs htake hbg hB h0 hl0
  go_enter Tryz.func66, Tryz.ntmps66
  go_wp2
  go_region
  all_goals (go_wp2; go_ret; exact ⟨rfl, Lib.below_freeze (show Below w0.heap.size w0 w.drew from HB.out.1.trans ⟨rfl, rfl, rfl, Nat.le_refl _, fun _ _ => rfl⟩) (p := ⟨g, 0, none⟩) HB.out.2 _⟩)
set_option maxRecDepth 100000 in
set_option maxHeartbeats 1000000 in
theorem cloneFl_any (xs : List FlP) (v : Value) (w : World) (hr : RowK 3 flE w v xs) (hn : xs.length ≤ 1000000) :
    Calls Tryz.prog 79 #[v] w fun e w' => ClonePost 3 flE 55 w xs e w' := by
  obtain ⟨p, c, rfl, hc⟩ := hr.sh
  have hinfo : (Tryz.prog.info? 55).map (fun i => (i.zero, i.size, i.bytes)) = some (some (.agg #[.string ⟨#[]⟩, .string ⟨#[]⟩, .string ⟨#[]⟩]), 3, 48) := by kernel_rfl
  obtain ⟨i9, hi9, hr0, hr1, hr2⟩ := info_parts hinfo
  have q : ∀ (w : World) (a : Option Addr) (n c n' c' : Nat), (binOp .eql 32 (.slice a n c) (.slice none n' c')).run Tryz.prog w = .ok (.bool a.isNone) w := fun w a n c n' c' => Lib.run_eql_slice_nil w _ 55 a n c n' c' (by kernel_rfl)
  cases p with
  | none =>
    have h0 : xs = [] := by
      cases xs with
      | nil => rfl
      | cons x l =>
        obtain ⟨b, o, e, _⟩ := hr.at 0 (by simp)
        cases e
    subst h0
    clear hr
    go_enter Tryz.func79, Tryz.ntmps79
    go_wp2
    refine bodyPost_ret (v := .slice none 0 0) (by simp [results, Tryz.results79, go_sem]) rfl ⟨_, rfl, ⟨rfl, .inl ⟨rfl, rfl⟩⟩, Below.refl _ _⟩
  | some a =>
    have hR := hr.rowIn (fun x => by rfl) (by decide)
    have hfl := flat_len (enc := flE) (k := 3) (fun x => by rfl) xs
    have hone : ∀ u ∈ xs.flatMap flE, u.oneCell' = true := fun u hu => by
      obtain ⟨x, _, hx⟩ := List.mem_flatMap.1 hu
      simp [flE] at hx
      rcases hx with rfl | rfl | rfl <;> rfl
    have HR := Lib.hid (And.intro hR (And.intro hfl hone))
    clear hr hR hfl hone
    go_enter Tryz.func79, Tryz.ntmps79
    go_wp2_with (at_builtin; refine Bx.h ?_)
    refine ⟨?_⟩
    refine wpList_append_any rfl _ _ 32 rfl w.heap.size 55 i9 (.agg #[.string ⟨#[]⟩, .string ⟨#[]⟩, .string ⟨#[]⟩]) 3 48 Tryz.underlying32 hi9 hr0 hr1 hr2 rfl (by decide) (.slice (some ⟨w.heap.size, 0, none⟩) 0 0) 0 [] rfl (own_empty (heap_new rfl) (Nat.le_refl _)) w.heap.size _ xs.length (xs.flatMap flE) rfl (HR.out.1.below ((Below.refl _ _).alloc (Nat.le_refl _) _)) HR.out.2.1 HR.out.2.2 (by unfold maxLen; omega) (by omega) (by simp) ?_
    intro v' w3 hown hgrow hge hor
    have hB3 : Below w.heap.size w w3 := ((Below.refl _ w).alloc (Nat.le_refl _) _).grown hgrow (by simp) (fun k e => hge k e)
    rw [List.nil_append, Nat.zero_add] at hown
    have HZ := Lib.hid (And.intro hown hB3)
    clear hown hgrow hge hor hB3
    go_wp2
    refine bodyPost_ret (v := v') (by simp [results, Tryz.results79, go_sem]) rfl ⟨_, rfl, HZ.out.1, HZ.out.2⟩
end Go.Proofs.YtlpngibdplnieaaGreatDoor

/- notice.Text: its drawn region. -/
namespace Go.Proofs.YtlpngibdplnieaaGreatDoor
open Go Go.RowKit Go.Shelf Go.Sort
attribute [local go_sem] bneI

def cA : Code → Code
  | .seq a _ => a
  | .block _ a => a
  | .loop a => a
  | .cond _ a _ => a
  | c => c
def cB : Code → Code
  | .seq _ b => b
  | .cond _ _ b => b
  | c => c
def bodyOf (f : Func) : Code := match f.body with
  | some c => c
  | none => .skip
def codeT5 (f : Func) : Code := cA (cB (cB (cB (cB (bodyOf f)))))
set_option linter.unusedSimpArgs false in
set_option linter.unusedVariables false in
set_option maxRecDepth 1000000 in
set_option maxHeartbeats 16000000 in
theorem textR5 {u0 u2 u3 u4 u5 u6 u7 u8 u9 u10 u11 u12 u13 u14 u15 u16 u17 u18 u19 u20 u21 u22 u23 u24 u25 u26 u27 : Value} {ds : List Deferred} (K' : Act → World → Prop) (Q' : Exit → Act → World → Prop) (n : NotP) (fv : Value) (bn : Nat) (W : World)
    (hb : W.heap[bn]? = some (.cells (notC n fv).toArray 34 (0, 0))) (hE : Env W) (hid : 0 ≤ n.id ∧ n.id ≤ 1000000000000000) (hat : 0 ≤ n.at_ ∧ n.at_ ≤ 1000000000000000)
    (hP : ∀ (c : List PanicEntry) (a : Act) (d : Tmp) (v : Value) (w : World), Q' (.panic c) (a.put (some d) v) w → Q' (.panic c) a w)
    (hK : ∀ (v5 v6 v15 v16 v17 v18 v19 v20 : Value) (W' : World), ((∃ b1 b2, v5 = .pointer (some ⟨b1, 0, none⟩) ∧ v6 = .pointer (some ⟨b2, 0, none⟩) ∧ W'.heap[b1]? = some (.cells #[.string ⟨(Lib.itoa n.id).toArray⟩] 9 (0, 0)) ∧ W'.heap[b2]? = some (.cells #[.string ⟨(Lib.itoa n.at_).toArray⟩] 9 (0, 0)) ∧ b1 ≠ b2 ∧ W.heap.size ≤ b1 ∧ W.heap.size ≤ b2) ∧ Below W.heap.size W W') → K' ⟨(u0 :: .pointer (some ⟨bn, 0, none⟩) :: u2 :: u3 :: u4 :: v5 :: v6 :: u7 :: u8 :: u9 :: u10 :: u11 :: u12 :: u13 :: u14 :: v15 :: v16 :: v17 :: v18 :: v19 :: v20 :: u21 :: u22 :: u23 :: u24 :: u25 :: u26 :: u27 :: []).toArray, ds⟩ W') :
    (codeT5 Tryz.f29).wp Tryz.prog (Exit.then K' Q') ⟨(u0 :: .pointer (some ⟨bn, 0, none⟩) :: u2 :: u3 :: u4 :: u5 :: u6 :: u7 :: u8 :: u9 :: u10 :: u11 :: u12 :: u13 :: u14 :: u15 :: u16 :: u17 :: u18 :: u19 :: u20 :: u21 :: u22 :: u23 :: u24 :: u25 :: u26 :: u27 :: []).toArray, ds⟩ W := by
  obtain ⟨wd, hwd⟩ : ∃ wd, wd = W.drew := ⟨_, rfl⟩
  have hBD : Below W.heap.size W wd := by rw [hwd]; exact below_drew W
  have hbd := (hBD.block _ (lt_of_cells hb)).trans hb
  unfold notC at hbd
  obtain ⟨x0, -, -, -, x4, -⟩ := nobox hbd
  have hSk : ∀ W, Below wd.heap.size wd W → W.cell? ⟨bn, 0, none⟩ = some (.int .i64 n.id) ∧ W.cell? ⟨bn, 4, none⟩ = some (.int .i64 n.at_) := fun W' hB => by
    have hh := fun (a : Addr) (u : Value) (h : wd.cell? a = some u) => (hB.cell (p := a) (cell_lt h)).trans h
    exact ⟨hh _ _ x0, hh _ _ x4⟩
  have hEk : ∀ W, Below wd.heap.size wd W → Env W := fun W' hB => (hE.keep hBD).keep hB
  have hS0 := hSk wd (Below.refl _ _)
  have HK := Lib.hid hK
  have HP := Lib.hid hP
  have hr0 : Below wd.heap.size wd wd := Below.refl _ _
  clear hb hK hP hbd x0 x4
  conv => arg 2; whnf
  refine wp_region_held_drew (S := (fun W => W.cell? ⟨bn, 0, none⟩ = some (.int .i64 n.id) ∧ W.cell? ⟨bn, 4, none⟩ = some (.int .i64 n.at_))) (by kernel_rfl) (by rw [hwd] at hS0; exact hS0) (fun hHeld => ?_)
  rw [← hwd]
  rw [← hwd] at hHeld
  clear hwd
  refine wpAnyH_take (i := 0) (oi := ?oiq0) (v := ?vq0) ?h1q0 (by kernel_rfl) (by kernel_rfl) (by kernel_rfl) ?h2q0 ?hyq0 (by assumption) ?restq0
  case h1q0 => (simp only [List.getElem?_toArray, List.getElem?_cons_succ, List.getElem?_cons_zero]; try rfl)
  case h2q0 => exact fun c a w h => HP.out c a _ _ w h
  case hyq0 => (refine Or.inl ⟨by rfl, ?_⟩; intro w hSw; (try dsimp only at hSw); go_simp; (try with_reducible rfl))
  try simp only [Act.put, List.setIfInBounds_toArray, List.set_cons_zero, List.set_cons_succ]
  refine wpAnyH_take (i := 1) (oi := ?oiq1) (v := ?vq1) ?h1q1 (by kernel_rfl) (by kernel_rfl) (by kernel_rfl) ?h2q1 ?hyq1 (by assumption) ?restq1
  case h1q1 => (simp only [List.getElem?_toArray, List.getElem?_cons_succ, List.getElem?_cons_zero]; try rfl)
  case h2q1 => exact fun c a w h => HP.out c a _ _ w h
  case hyq1 => (refine Or.inl ⟨by rfl, ?_⟩; intro w hSw; (try dsimp only at hSw); go_simp; (try with_reducible rfl))
  try simp only [Act.put, List.setIfInBounds_toArray, List.set_cons_zero, List.set_cons_succ]
  refine wpAnyH_take (i := 3) (oi := ?oiq3) (v := ?vq3) ?h1q3 (by kernel_rfl) (by kernel_rfl) (by kernel_rfl) ?h2q3 ?hyq3 (by assumption) ?restq3
  case h1q3 => (simp only [List.getElem?_toArray, List.getElem?_cons_succ, List.getElem?_cons_zero]; try rfl)
  case h2q3 => exact fun c a w h => HP.out c a _ _ w h
  case hyq3 => (refine Or.inl ⟨by rfl, ?_⟩; intro w hSw; (try dsimp only at hSw); go_simp; (try with_reducible rfl))
  try simp only [Act.put, List.setIfInBounds_toArray, List.set_cons_zero, List.set_cons_succ]
  refine wpAnyH_take (i := 4) (oi := ?oiq4) (v := ?vq4) ?h1q4 (by kernel_rfl) (by kernel_rfl) (by kernel_rfl) ?h2q4 ?hyq4 (by assumption) ?restq4
  case h1q4 => (simp only [List.getElem?_toArray, List.getElem?_cons_succ, List.getElem?_cons_zero]; try rfl)
  case h2q4 => exact fun c a w h => HP.out c a _ _ w h
  case hyq4 => (refine Or.inl ⟨by rfl, ?_⟩; intro w hSw; (try dsimp only at hSw); go_simp; (try with_reducible rfl))
  try simp only [Act.put, List.setIfInBounds_toArray, List.set_cons_zero, List.set_cons_succ]
  refine wpAnyH_ready (rs := [2, 6, 7]) (by kernel_rfl) (by simp) ?_
  refine AllReadyH.cons (o := ?on1) ?h1n1 (fun K hK => ?armn1) (AllReadyH.cons (o := ?on2) ?h1n2 (fun K hK => ?armn2) (AllReadyH.cons (o := ?on3) ?h1n3 (fun K hK => ?armn3) AllReadyH.nil))
  case h1n1 => (simp only [List.getElem?_toArray, List.getElem?_cons_succ, List.getElem?_cons_zero]; try rfl)
  case h1n2 => (simp only [List.getElem?_toArray, List.getElem?_cons_succ, List.getElem?_cons_zero]; try rfl)
  case h1n3 => (simp only [List.getElem?_toArray, List.getElem?_cons_succ, List.getElem?_cons_zero]; try rfl)
  case armn1 =>
    go_simp
    go_at_call 80
    refine (show_any n.id wd hid.1 hid.2 (hEk _ hr0)).mono ?_
    rintro e y4 ⟨rfl, hby4⟩
    have hy4 := hr0.trans (hby4.mono hr0.size)
    refine hK.out _ _ (hSk _ hy4) (fun hHeld => ?_)
    clear hK K
    try simp only [Act.put, List.setIfInBounds_toArray, List.set_cons_zero, List.set_cons_succ]
    refine wpAnyH_ready (rs := [5, 6, 7]) (by kernel_rfl) (by simp) ?_
    refine AllReadyH.cons (o := ?on5) ?h1n5 (fun K hK => ?armn5) (AllReadyH.cons (o := ?on6) ?h1n6 (fun K hK => ?armn6) (AllReadyH.cons (o := ?on7) ?h1n7 (fun K hK => ?armn7) AllReadyH.nil))
    case h1n5 => (simp only [List.getElem?_toArray, List.getElem?_cons_succ, List.getElem?_cons_zero]; try rfl)
    case h1n6 => (simp only [List.getElem?_toArray, List.getElem?_cons_succ, List.getElem?_cons_zero]; try rfl)
    case h1n7 => (simp only [List.getElem?_toArray, List.getElem?_cons_succ, List.getElem?_cons_zero]; try rfl)
    case armn5 =>
      go_simp
      go_at_call 80
      refine (show_any n.at_ y4 hat.1 hat.2 (hEk _ hy4)).mono ?_
      rintro e y8 ⟨rfl, hby8⟩
      have hy8 := hy4.trans (hby8.mono hy4.size)
      refine hK.out _ _ (hSk _ hy8) (fun hHeld => ?_)
      clear hK K
      try simp only [Act.put, List.setIfInBounds_toArray, List.set_cons_zero, List.set_cons_succ]
      refine wpAnyH_ready (rs := [6, 7]) (by kernel_rfl) (by simp) ?_
      refine AllReadyH.cons (o := ?on9) ?h1n9 (fun K hK => ?armn9) (AllReadyH.cons (o := ?on10) ?h1n10 (fun K hK => ?armn10) AllReadyH.nil)
      case h1n9 => (simp only [List.getElem?_toArray, List.getElem?_cons_succ, List.getElem?_cons_zero]; try rfl)
      case h1n10 => (simp only [List.getElem?_toArray, List.getElem?_cons_succ, List.getElem?_cons_zero]; try rfl)
      case armn9 =>
        go_simp
        have hal : Below y8.heap.size y8 (y8.alloc (.cells #[.string ⟨#[]⟩] 9)) := (Below.refl _ _).alloc (Nat.le_refl _) _
        have hbl : (y8.alloc (.cells #[.string ⟨#[]⟩] 9)).heap[y8.heap.size]? = some (.cells #[.string ⟨#[]⟩] 9 (0, 0)) := ha_eq rfl
        generalize hgy11 : y8.alloc (.cells #[.string ⟨#[]⟩] 9) = y11 at hal hbl ⊢
        have hy11 := hy8.trans (hal.mono hy8.size)
        obtain ⟨b6y11, hBb6y11⟩ : ∃ b6y11, b6y11 = y8.heap.size := ⟨_, rfl⟩
        have geb6y11 : wd.heap.size ≤ b6y11 := by rw [hBb6y11]; exact hy8.size
        rw [← hBb6y11] at hbl ⊢
        have fby11 := hbl
        clear hbl hal hBb6y11
        refine hK.out _ _ (hSk _ hy11) (fun hHeld => ?_)
        clear hK K
        try simp only [Act.put, List.setIfInBounds_toArray, List.set_cons_zero, List.set_cons_succ]
        refine wpAnyH_ready (rs := [7]) (by kernel_rfl) (by simp) ?_
        refine AllReadyH.cons (o := ?on12) ?h1n12 (fun K hK => ?armn12) AllReadyH.nil
        case h1n12 => (simp only [List.getElem?_toArray, List.getElem?_cons_succ, List.getElem?_cons_zero]; try rfl)
        case armn12 =>
          go_simp
          have hal : Below y11.heap.size y11 (y11.alloc (.cells #[.string ⟨#[]⟩] 9)) := (Below.refl _ _).alloc (Nat.le_refl _) _
          have hbl : (y11.alloc (.cells #[.string ⟨#[]⟩] 9)).heap[y11.heap.size]? = some (.cells #[.string ⟨#[]⟩] 9 (0, 0)) := ha_eq rfl
          generalize hgy13 : y11.alloc (.cells #[.string ⟨#[]⟩] 9) = y13 at hal hbl ⊢
          have fy136 := (hal.block _ (lt_of_cells fby11)).trans fby11
          have hne : y11.heap.size ≠ b6y11 := by have := lt_of_cells fby11; omega
          have hy13 := hy11.trans (hal.mono hy11.size)
          obtain ⟨b7y13, hBb7y13⟩ : ∃ b7y13, b7y13 = y11.heap.size := ⟨_, rfl⟩
          have geb7y13 : wd.heap.size ≤ b7y13 := by rw [hBb7y13]; exact hy11.size
          rw [← hBb7y13] at hbl ⊢
          rw [← hBb7y13] at hne
          have fby13 := hbl
          clear hbl hal hBb7y13
          refine hK.out _ _ (hSk _ hy13) (fun hHeld => ?_)
          clear hK K
          try simp only [Act.put, List.setIfInBounds_toArray, List.set_cons_zero, List.set_cons_succ]
          refine wpAnyH_ready (rs := [8]) (by kernel_rfl) (by simp) ?_
          refine AllReadyH.cons (o := ?oz14) ?h1z14 (fun K hK => ?armz14) AllReadyH.nil
          case h1z14 => (simp only [List.getElem?_toArray, List.getElem?_cons_succ, List.getElem?_cons_zero]; try rfl)
          case armz14 =>
            have c6 : y13.cell? ⟨b6y11, 0, none⟩ = some (.string ⟨#[]⟩) := by simp [World.cell?, fy136]
            have fz6 := efroz fy136 0
            go_simp
            clear c6 fz6
            have hY8 := hy13.setCell (p := ⟨b6y11, 0, none⟩) geb6y11 (.string ⟨(Lib.itoa n.id).toArray⟩)
            have g6 := heap_setE (off := 0) (v := .string ⟨(Lib.itoa n.id).toArray⟩) fy136
            have g7 := (Below.heap_setCell y13 ⟨b6y11, 0, none⟩ (.string ⟨(Lib.itoa n.id).toArray⟩) b7y13 hne).trans fby13
            simp only [List.setIfInBounds_toArray, List.set_cons_zero] at g6
            generalize hw8 : y13.setCell ⟨b6y11, 0, none⟩ (.string ⟨(Lib.itoa n.id).toArray⟩) = w8 at hY8 g6 g7 ⊢
            refine hK.out _ _ (hSk _ hY8) (fun hHeld => ?_)
            clear hK K
            try simp only [Act.put, List.setIfInBounds_toArray, List.set_cons_zero, List.set_cons_succ]
            refine wpAnyH_ready (rs := [9]) (by kernel_rfl) (by simp) ?_
            refine AllReadyH.cons (o := ?oz15) ?h1z15 (fun K hK => ?armz15) AllReadyH.nil
            case h1z15 => (simp only [List.getElem?_toArray, List.getElem?_cons_succ, List.getElem?_cons_zero]; try rfl)
            case armz15 =>
              have c7 : w8.cell? ⟨b7y13, 0, none⟩ = some (.string ⟨#[]⟩) := by simp [World.cell?, g7]
              have fz7 := efroz g7 0
              go_simp
              clear c7 fz7
              have hY9 := hY8.setCell (p := ⟨b7y13, 0, none⟩) geb7y13 (.string ⟨(Lib.itoa n.at_).toArray⟩)
              have k7 := heap_setE (off := 0) (v := .string ⟨(Lib.itoa n.at_).toArray⟩) g7
              have k6 := (Below.heap_setCell w8 ⟨b7y13, 0, none⟩ (.string ⟨(Lib.itoa n.at_).toArray⟩) b6y11 (Ne.symm hne)).trans g6
              simp only [List.setIfInBounds_toArray, List.set_cons_zero] at k7
              generalize hw9 : w8.setCell ⟨b7y13, 0, none⟩ (.string ⟨(Lib.itoa n.at_).toArray⟩) = w9 at hY9 k6 k7 ⊢
              refine hK.out _ _ (hSk _ hY9) (fun hHeld => ?_)
              clear hK K
              try simp only [Act.put, List.setIfInBounds_toArray, List.set_cons_zero, List.set_cons_succ]
              refine wpAnyH_done (by kernel_rfl) ?_ _
              have HZ := Lib.hid (And.intro k6 (And.intro k7 (And.intro hBD (And.intro hY9 (And.intro geb6y11 geb7y13)))))
              go_simp
              exact HK.out _ _ _ _ _ _ _ _ _ ⟨⟨b6y11, b7y13, rfl, rfl, HZ.out.1, HZ.out.2.1, (Ne.symm hne), Nat.le_trans HZ.out.2.2.1.size HZ.out.2.2.2.2.1, Nat.le_trans HZ.out.2.2.1.size HZ.out.2.2.2.2.2⟩, HZ.out.2.2.1.trans (HZ.out.2.2.2.1.mono HZ.out.2.2.1.size)⟩
      case armn10 =>
        go_simp
        have hal : Below y8.heap.size y8 (y8.alloc (.cells #[.string ⟨#[]⟩] 9)) := (Below.refl _ _).alloc (Nat.le_refl _) _
        have hbl : (y8.alloc (.cells #[.string ⟨#[]⟩] 9)).heap[y8.heap.size]? = some (.cells #[.string ⟨#[]⟩] 9 (0, 0)) := ha_eq rfl
        generalize hgy16 : y8.alloc (.cells #[.string ⟨#[]⟩] 9) = y16 at hal hbl ⊢
        have hy16 := hy8.trans (hal.mono hy8.size)
        obtain ⟨b7y16, hBb7y16⟩ : ∃ b7y16, b7y16 = y8.heap.size := ⟨_, rfl⟩
        have geb7y16 : wd.heap.size ≤ b7y16 := by rw [hBb7y16]; exact hy8.size
        rw [← hBb7y16] at hbl ⊢
        have fby16 := hbl
        clear hbl hal hBb7y16
        refine hK.out _ _ (hSk _ hy16) (fun hHeld => ?_)
        clear hK K
        try simp only [Act.put, List.setIfInBounds_toArray, List.set_cons_zero, List.set_cons_succ]
        refine wpAnyH_ready (rs := [6]) (by kernel_rfl) (by simp) ?_
        refine AllReadyH.cons (o := ?on17) ?h1n17 (fun K hK => ?armn17) AllReadyH.nil
        case h1n17 => (simp only [List.getElem?_toArray, List.getElem?_cons_succ, List.getElem?_cons_zero]; try rfl)
        case armn17 =>
          go_simp
          have hal : Below y16.heap.size y16 (y16.alloc (.cells #[.string ⟨#[]⟩] 9)) := (Below.refl _ _).alloc (Nat.le_refl _) _
          have hbl : (y16.alloc (.cells #[.string ⟨#[]⟩] 9)).heap[y16.heap.size]? = some (.cells #[.string ⟨#[]⟩] 9 (0, 0)) := ha_eq rfl
          generalize hgy18 : y16.alloc (.cells #[.string ⟨#[]⟩] 9) = y18 at hal hbl ⊢
          have fy187 := (hal.block _ (lt_of_cells fby16)).trans fby16
          have hne : y16.heap.size ≠ b7y16 := by have := lt_of_cells fby16; omega
          have hy18 := hy16.trans (hal.mono hy16.size)
          obtain ⟨b6y18, hBb6y18⟩ : ∃ b6y18, b6y18 = y16.heap.size := ⟨_, rfl⟩
          have geb6y18 : wd.heap.size ≤ b6y18 := by rw [hBb6y18]; exact hy16.size
          rw [← hBb6y18] at hbl ⊢
          rw [← hBb6y18] at hne
          have fby18 := hbl
          clear hbl hal hBb6y18
          refine hK.out _ _ (hSk _ hy18) (fun hHeld => ?_)
          clear hK K
          try simp only [Act.put, List.setIfInBounds_toArray, List.set_cons_zero, List.set_cons_succ]
          refine wpAnyH_ready (rs := [8]) (by kernel_rfl) (by simp) ?_
          refine AllReadyH.cons (o := ?oz19) ?h1z19 (fun K hK => ?armz19) AllReadyH.nil
          case h1z19 => (simp only [List.getElem?_toArray, List.getElem?_cons_succ, List.getElem?_cons_zero]; try rfl)
          case armz19 =>
            have c6 : y18.cell? ⟨b6y18, 0, none⟩ = some (.string ⟨#[]⟩) := by simp [World.cell?, fby18]
            have fz6 := efroz fby18 0
            go_simp
            clear c6 fz6
            have hY8 := hy18.setCell (p := ⟨b6y18, 0, none⟩) geb6y18 (.string ⟨(Lib.itoa n.id).toArray⟩)
            have g6 := heap_setE (off := 0) (v := .string ⟨(Lib.itoa n.id).toArray⟩) fby18
            have g7 := (Below.heap_setCell y18 ⟨b6y18, 0, none⟩ (.string ⟨(Lib.itoa n.id).toArray⟩) b7y16 (Ne.symm hne)).trans fy187
            simp only [List.setIfInBounds_toArray, List.set_cons_zero] at g6
            generalize hw8 : y18.setCell ⟨b6y18, 0, none⟩ (.string ⟨(Lib.itoa n.id).toArray⟩) = w8 at hY8 g6 g7 ⊢
            refine hK.out _ _ (hSk _ hY8) (fun hHeld => ?_)
            clear hK K
            try simp only [Act.put, List.setIfInBounds_toArray, List.set_cons_zero, List.set_cons_succ]
            refine wpAnyH_ready (rs := [9]) (by kernel_rfl) (by simp) ?_
            refine AllReadyH.cons (o := ?oz20) ?h1z20 (fun K hK => ?armz20) AllReadyH.nil
            case h1z20 => (simp only [List.getElem?_toArray, List.getElem?_cons_succ, List.getElem?_cons_zero]; try rfl)
            case armz20 =>
              have c7 : w8.cell? ⟨b7y16, 0, none⟩ = some (.string ⟨#[]⟩) := by simp [World.cell?, g7]
              have fz7 := efroz g7 0
              go_simp
              clear c7 fz7
              have hY9 := hY8.setCell (p := ⟨b7y16, 0, none⟩) geb7y16 (.string ⟨(Lib.itoa n.at_).toArray⟩)
              have k7 := heap_setE (off := 0) (v := .string ⟨(Lib.itoa n.at_).toArray⟩) g7
              have k6 := (Below.heap_setCell w8 ⟨b7y16, 0, none⟩ (.string ⟨(Lib.itoa n.at_).toArray⟩) b6y18 hne).trans g6
              simp only [List.setIfInBounds_toArray, List.set_cons_zero] at k7
              generalize hw9 : w8.setCell ⟨b7y16, 0, none⟩ (.string ⟨(Lib.itoa n.at_).toArray⟩) = w9 at hY9 k6 k7 ⊢
              refine hK.out _ _ (hSk _ hY9) (fun hHeld => ?_)
              clear hK K
              try simp only [Act.put, List.setIfInBounds_toArray, List.set_cons_zero, List.set_cons_succ]
              refine wpAnyH_done (by kernel_rfl) ?_ _
              have HZ := Lib.hid (And.intro k6 (And.intro k7 (And.intro hBD (And.intro hY9 (And.intro geb6y18 geb7y16)))))
              go_simp
              exact HK.out _ _ _ _ _ _ _ _ _ ⟨⟨b6y18, b7y16, rfl, rfl, HZ.out.1, HZ.out.2.1, hne, Nat.le_trans HZ.out.2.2.1.size HZ.out.2.2.2.2.1, Nat.le_trans HZ.out.2.2.1.size HZ.out.2.2.2.2.2⟩, HZ.out.2.2.1.trans (HZ.out.2.2.2.1.mono HZ.out.2.2.1.size)⟩
    case armn6 =>
      go_simp
      have hal : Below y4.heap.size y4 (y4.alloc (.cells #[.string ⟨#[]⟩] 9)) := (Below.refl _ _).alloc (Nat.le_refl _) _
      have hbl : (y4.alloc (.cells #[.string ⟨#[]⟩] 9)).heap[y4.heap.size]? = some (.cells #[.string ⟨#[]⟩] 9 (0, 0)) := ha_eq rfl
      generalize hgy21 : y4.alloc (.cells #[.string ⟨#[]⟩] 9) = y21 at hal hbl ⊢
      have hy21 := hy4.trans (hal.mono hy4.size)
      obtain ⟨b6y21, hBb6y21⟩ : ∃ b6y21, b6y21 = y4.heap.size := ⟨_, rfl⟩
      have geb6y21 : wd.heap.size ≤ b6y21 := by rw [hBb6y21]; exact hy4.size
      rw [← hBb6y21] at hbl ⊢
      have fby21 := hbl
      clear hbl hal hBb6y21
      refine hK.out _ _ (hSk _ hy21) (fun hHeld => ?_)
      clear hK K
      try simp only [Act.put, List.setIfInBounds_toArray, List.set_cons_zero, List.set_cons_succ]
      refine wpAnyH_ready (rs := [5, 7]) (by kernel_rfl) (by simp) ?_
      refine AllReadyH.cons (o := ?on22) ?h1n22 (fun K hK => ?armn22) (AllReadyH.cons (o := ?on23) ?h1n23 (fun K hK => ?armn23) AllReadyH.nil)
      case h1n22 => (simp only [List.getElem?_toArray, List.getElem?_cons_succ, List.getElem?_cons_zero]; try rfl)
      case h1n23 => (simp only [List.getElem?_toArray, List.getElem?_cons_succ, List.getElem?_cons_zero]; try rfl)
      case armn22 =>
        go_simp
        go_at_call 80
        refine (show_any n.at_ y21 hat.1 hat.2 (hEk _ hy21)).mono ?_
        rintro e y24 ⟨rfl, hby24⟩
        have hy24 := hy21.trans (hby24.mono hy21.size)
        have fy246 := (hby24.block _ (lt_of_cells fby21)).trans fby21
        refine hK.out _ _ (hSk _ hy24) (fun hHeld => ?_)
        clear hK K
        try simp only [Act.put, List.setIfInBounds_toArray, List.set_cons_zero, List.set_cons_succ]
        refine wpAnyH_ready (rs := [7]) (by kernel_rfl) (by simp) ?_
        refine AllReadyH.cons (o := ?on25) ?h1n25 (fun K hK => ?armn25) AllReadyH.nil
        case h1n25 => (simp only [List.getElem?_toArray, List.getElem?_cons_succ, List.getElem?_cons_zero]; try rfl)
        case armn25 =>
          go_simp
          have hal : Below y24.heap.size y24 (y24.alloc (.cells #[.string ⟨#[]⟩] 9)) := (Below.refl _ _).alloc (Nat.le_refl _) _
          have hbl : (y24.alloc (.cells #[.string ⟨#[]⟩] 9)).heap[y24.heap.size]? = some (.cells #[.string ⟨#[]⟩] 9 (0, 0)) := ha_eq rfl
          generalize hgy26 : y24.alloc (.cells #[.string ⟨#[]⟩] 9) = y26 at hal hbl ⊢
          have fy266 := (hal.block _ (lt_of_cells fy246)).trans fy246
          have hne : y24.heap.size ≠ b6y21 := by have := lt_of_cells fy246; omega
          have hy26 := hy24.trans (hal.mono hy24.size)
          obtain ⟨b7y26, hBb7y26⟩ : ∃ b7y26, b7y26 = y24.heap.size := ⟨_, rfl⟩
          have geb7y26 : wd.heap.size ≤ b7y26 := by rw [hBb7y26]; exact hy24.size
          rw [← hBb7y26] at hbl ⊢
          rw [← hBb7y26] at hne
          have fby26 := hbl
          clear hbl hal hBb7y26
          refine hK.out _ _ (hSk _ hy26) (fun hHeld => ?_)
          clear hK K
          try simp only [Act.put, List.setIfInBounds_toArray, List.set_cons_zero, List.set_cons_succ]
          refine wpAnyH_ready (rs := [8]) (by kernel_rfl) (by simp) ?_
          refine AllReadyH.cons (o := ?oz27) ?h1z27 (fun K hK => ?armz27) AllReadyH.nil
          case h1z27 => (simp only [List.getElem?_toArray, List.getElem?_cons_succ, List.getElem?_cons_zero]; try rfl)
          case armz27 =>
            have c6 : y26.cell? ⟨b6y21, 0, none⟩ = some (.string ⟨#[]⟩) := by simp [World.cell?, fy266]
            have fz6 := efroz fy266 0
            go_simp
            clear c6 fz6
            have hY8 := hy26.setCell (p := ⟨b6y21, 0, none⟩) geb6y21 (.string ⟨(Lib.itoa n.id).toArray⟩)
            have g6 := heap_setE (off := 0) (v := .string ⟨(Lib.itoa n.id).toArray⟩) fy266
            have g7 := (Below.heap_setCell y26 ⟨b6y21, 0, none⟩ (.string ⟨(Lib.itoa n.id).toArray⟩) b7y26 hne).trans fby26
            simp only [List.setIfInBounds_toArray, List.set_cons_zero] at g6
            generalize hw8 : y26.setCell ⟨b6y21, 0, none⟩ (.string ⟨(Lib.itoa n.id).toArray⟩) = w8 at hY8 g6 g7 ⊢
            refine hK.out _ _ (hSk _ hY8) (fun hHeld => ?_)
            clear hK K
            try simp only [Act.put, List.setIfInBounds_toArray, List.set_cons_zero, List.set_cons_succ]
            refine wpAnyH_ready (rs := [9]) (by kernel_rfl) (by simp) ?_
            refine AllReadyH.cons (o := ?oz28) ?h1z28 (fun K hK => ?armz28) AllReadyH.nil
            case h1z28 => (simp only [List.getElem?_toArray, List.getElem?_cons_succ, List.getElem?_cons_zero]; try rfl)
            case armz28 =>
              have c7 : w8.cell? ⟨b7y26, 0, none⟩ = some (.string ⟨#[]⟩) := by simp [World.cell?, g7]
              have fz7 := efroz g7 0
              go_simp
              clear c7 fz7
              have hY9 := hY8.setCell (p := ⟨b7y26, 0, none⟩) geb7y26 (.string ⟨(Lib.itoa n.at_).toArray⟩)
              have k7 := heap_setE (off := 0) (v := .string ⟨(Lib.itoa n.at_).toArray⟩) g7
              have k6 := (Below.heap_setCell w8 ⟨b7y26, 0, none⟩ (.string ⟨(Lib.itoa n.at_).toArray⟩) b6y21 (Ne.symm hne)).trans g6
              simp only [List.setIfInBounds_toArray, List.set_cons_zero] at k7
              generalize hw9 : w8.setCell ⟨b7y26, 0, none⟩ (.string ⟨(Lib.itoa n.at_).toArray⟩) = w9 at hY9 k6 k7 ⊢
              refine hK.out _ _ (hSk _ hY9) (fun hHeld => ?_)
              clear hK K
              try simp only [Act.put, List.setIfInBounds_toArray, List.set_cons_zero, List.set_cons_succ]
              refine wpAnyH_done (by kernel_rfl) ?_ _
              have HZ := Lib.hid (And.intro k6 (And.intro k7 (And.intro hBD (And.intro hY9 (And.intro geb6y21 geb7y26)))))
              go_simp
              exact HK.out _ _ _ _ _ _ _ _ _ ⟨⟨b6y21, b7y26, rfl, rfl, HZ.out.1, HZ.out.2.1, (Ne.symm hne), Nat.le_trans HZ.out.2.2.1.size HZ.out.2.2.2.2.1, Nat.le_trans HZ.out.2.2.1.size HZ.out.2.2.2.2.2⟩, HZ.out.2.2.1.trans (HZ.out.2.2.2.1.mono HZ.out.2.2.1.size)⟩
      case armn23 =>
        go_simp
        have hal : Below y21.heap.size y21 (y21.alloc (.cells #[.string ⟨#[]⟩] 9)) := (Below.refl _ _).alloc (Nat.le_refl _) _
        have hbl : (y21.alloc (.cells #[.string ⟨#[]⟩] 9)).heap[y21.heap.size]? = some (.cells #[.string ⟨#[]⟩] 9 (0, 0)) := ha_eq rfl
        generalize hgy29 : y21.alloc (.cells #[.string ⟨#[]⟩] 9) = y29 at hal hbl ⊢
        have fy296 := (hal.block _ (lt_of_cells fby21)).trans fby21
        have hne : y21.heap.size ≠ b6y21 := by have := lt_of_cells fby21; omega
        have hy29 := hy21.trans (hal.mono hy21.size)
        obtain ⟨b7y29, hBb7y29⟩ : ∃ b7y29, b7y29 = y21.heap.size := ⟨_, rfl⟩
        have geb7y29 : wd.heap.size ≤ b7y29 := by rw [hBb7y29]; exact hy21.size
        rw [← hBb7y29] at hbl ⊢
        rw [← hBb7y29] at hne
        have fby29 := hbl
        clear hbl hal hBb7y29
        refine hK.out _ _ (hSk _ hy29) (fun hHeld => ?_)
        clear hK K
        try simp only [Act.put, List.setIfInBounds_toArray, List.set_cons_zero, List.set_cons_succ]
        refine wpAnyH_ready (rs := [5]) (by kernel_rfl) (by simp) ?_
        refine AllReadyH.cons (o := ?on30) ?h1n30 (fun K hK => ?armn30) AllReadyH.nil
        case h1n30 => (simp only [List.getElem?_toArray, List.getElem?_cons_succ, List.getElem?_cons_zero]; try rfl)
        case armn30 =>
          go_simp
          go_at_call 80
          refine (show_any n.at_ y29 hat.1 hat.2 (hEk _ hy29)).mono ?_
          rintro e y31 ⟨rfl, hby31⟩
          have hy31 := hy29.trans (hby31.mono hy29.size)
          have fy316 := (hby31.block _ (lt_of_cells fy296)).trans fy296
          have fy317 := (hby31.block _ (lt_of_cells fby29)).trans fby29
          refine hK.out _ _ (hSk _ hy31) (fun hHeld => ?_)
          clear hK K
          try simp only [Act.put, List.setIfInBounds_toArray, List.set_cons_zero, List.set_cons_succ]
          refine wpAnyH_ready (rs := [8]) (by kernel_rfl) (by simp) ?_
          refine AllReadyH.cons (o := ?oz32) ?h1z32 (fun K hK => ?armz32) AllReadyH.nil
          case h1z32 => (simp only [List.getElem?_toArray, List.getElem?_cons_succ, List.getElem?_cons_zero]; try rfl)
          case armz32 =>
            have c6 : y31.cell? ⟨b6y21, 0, none⟩ = some (.string ⟨#[]⟩) := by simp [World.cell?, fy316]
            have fz6 := efroz fy316 0
            go_simp
            clear c6 fz6
            have hY8 := hy31.setCell (p := ⟨b6y21, 0, none⟩) geb6y21 (.string ⟨(Lib.itoa n.id).toArray⟩)
            have g6 := heap_setE (off := 0) (v := .string ⟨(Lib.itoa n.id).toArray⟩) fy316
            have g7 := (Below.heap_setCell y31 ⟨b6y21, 0, none⟩ (.string ⟨(Lib.itoa n.id).toArray⟩) b7y29 hne).trans fy317
            simp only [List.setIfInBounds_toArray, List.set_cons_zero] at g6
            generalize hw8 : y31.setCell ⟨b6y21, 0, none⟩ (.string ⟨(Lib.itoa n.id).toArray⟩) = w8 at hY8 g6 g7 ⊢
            refine hK.out _ _ (hSk _ hY8) (fun hHeld => ?_)
            clear hK K
            try simp only [Act.put, List.setIfInBounds_toArray, List.set_cons_zero, List.set_cons_succ]
            refine wpAnyH_ready (rs := [9]) (by kernel_rfl) (by simp) ?_
            refine AllReadyH.cons (o := ?oz33) ?h1z33 (fun K hK => ?armz33) AllReadyH.nil
            case h1z33 => (simp only [List.getElem?_toArray, List.getElem?_cons_succ, List.getElem?_cons_zero]; try rfl)
            case armz33 =>
              have c7 : w8.cell? ⟨b7y29, 0, none⟩ = some (.string ⟨#[]⟩) := by simp [World.cell?, g7]
              have fz7 := efroz g7 0
              go_simp
              clear c7 fz7
              have hY9 := hY8.setCell (p := ⟨b7y29, 0, none⟩) geb7y29 (.string ⟨(Lib.itoa n.at_).toArray⟩)
              have k7 := heap_setE (off := 0) (v := .string ⟨(Lib.itoa n.at_).toArray⟩) g7
              have k6 := (Below.heap_setCell w8 ⟨b7y29, 0, none⟩ (.string ⟨(Lib.itoa n.at_).toArray⟩) b6y21 (Ne.symm hne)).trans g6
              simp only [List.setIfInBounds_toArray, List.set_cons_zero] at k7
              generalize hw9 : w8.setCell ⟨b7y29, 0, none⟩ (.string ⟨(Lib.itoa n.at_).toArray⟩) = w9 at hY9 k6 k7 ⊢
              refine hK.out _ _ (hSk _ hY9) (fun hHeld => ?_)
              clear hK K
              try simp only [Act.put, List.setIfInBounds_toArray, List.set_cons_zero, List.set_cons_succ]
              refine wpAnyH_done (by kernel_rfl) ?_ _
              have HZ := Lib.hid (And.intro k6 (And.intro k7 (And.intro hBD (And.intro hY9 (And.intro geb6y21 geb7y29)))))
              go_simp
              exact HK.out _ _ _ _ _ _ _ _ _ ⟨⟨b6y21, b7y29, rfl, rfl, HZ.out.1, HZ.out.2.1, (Ne.symm hne), Nat.le_trans HZ.out.2.2.1.size HZ.out.2.2.2.2.1, Nat.le_trans HZ.out.2.2.1.size HZ.out.2.2.2.2.2⟩, HZ.out.2.2.1.trans (HZ.out.2.2.2.1.mono HZ.out.2.2.1.size)⟩
    case armn7 =>
      go_simp
      have hal : Below y4.heap.size y4 (y4.alloc (.cells #[.string ⟨#[]⟩] 9)) := (Below.refl _ _).alloc (Nat.le_refl _) _
      have hbl : (y4.alloc (.cells #[.string ⟨#[]⟩] 9)).heap[y4.heap.size]? = some (.cells #[.string ⟨#[]⟩] 9 (0, 0)) := ha_eq rfl
      generalize hgy34 : y4.alloc (.cells #[.string ⟨#[]⟩] 9) = y34 at hal hbl ⊢
      have hy34 := hy4.trans (hal.mono hy4.size)
      obtain ⟨b7y34, hBb7y34⟩ : ∃ b7y34, b7y34 = y4.heap.size := ⟨_, rfl⟩
      have geb7y34 : wd.heap.size ≤ b7y34 := by rw [hBb7y34]; exact hy4.size
      rw [← hBb7y34] at hbl ⊢
      have fby34 := hbl
      clear hbl hal hBb7y34
      refine hK.out _ _ (hSk _ hy34) (fun hHeld => ?_)
      clear hK K
      try simp only [Act.put, List.setIfInBounds_toArray, List.set_cons_zero, List.set_cons_succ]
      refine wpAnyH_ready (rs := [5, 6]) (by kernel_rfl) (by simp) ?_
      refine AllReadyH.cons (o := ?on35) ?h1n35 (fun K hK => ?armn35) (AllReadyH.cons (o := ?on36) ?h1n36 (fun K hK => ?armn36) AllReadyH.nil)
      case h1n35 => (simp only [List.getElem?_toArray, List.getElem?_cons_succ, List.getElem?_cons_zero]; try rfl)
      case h1n36 => (simp only [List.getElem?_toArray, List.getElem?_cons_succ, List.getElem?_cons_zero]; try rfl)
      case armn35 =>
        go_simp
        go_at_call 80
        refine (show_any n.at_ y34 hat.1 hat.2 (hEk _ hy34)).mono ?_
        rintro e y37 ⟨rfl, hby37⟩
        have hy37 := hy34.trans (hby37.mono hy34.size)
        have fy377 := (hby37.block _ (lt_of_cells fby34)).trans fby34
        refine hK.out _ _ (hSk _ hy37) (fun hHeld => ?_)
        clear hK K
        try simp only [Act.put, List.setIfInBounds_toArray, List.set_cons_zero, List.set_cons_succ]
        refine wpAnyH_ready (rs := [6]) (by kernel_rfl) (by simp) ?_
        refine AllReadyH.cons (o := ?on38) ?h1n38 (fun K hK => ?armn38) AllReadyH.nil
        case h1n38 => (simp only [List.getElem?_toArray, List.getElem?_cons_succ, List.getElem?_cons_zero]; try rfl)
        case armn38 =>
          go_simp
          have hal : Below y37.heap.size y37 (y37.alloc (.cells #[.string ⟨#[]⟩] 9)) := (Below.refl _ _).alloc (Nat.le_refl _) _
          have hbl : (y37.alloc (.cells #[.string ⟨#[]⟩] 9)).heap[y37.heap.size]? = some (.cells #[.string ⟨#[]⟩] 9 (0, 0)) := ha_eq rfl
          generalize hgy39 : y37.alloc (.cells #[.string ⟨#[]⟩] 9) = y39 at hal hbl ⊢
          have fy397 := (hal.block _ (lt_of_cells fy377)).trans fy377
          have hne : y37.heap.size ≠ b7y34 := by have := lt_of_cells fy377; omega
          have hy39 := hy37.trans (hal.mono hy37.size)
          obtain ⟨b6y39, hBb6y39⟩ : ∃ b6y39, b6y39 = y37.heap.size := ⟨_, rfl⟩
          have geb6y39 : wd.heap.size ≤ b6y39 := by rw [hBb6y39]; exact hy37.size
          rw [← hBb6y39] at hbl ⊢
          rw [← hBb6y39] at hne
          have fby39 := hbl
          clear hbl hal hBb6y39
          refine hK.out _ _ (hSk _ hy39) (fun hHeld => ?_)
          clear hK K
          try simp only [Act.put, List.setIfInBounds_toArray, List.set_cons_zero, List.set_cons_succ]
          refine wpAnyH_ready (rs := [8]) (by kernel_rfl) (by simp) ?_
          refine AllReadyH.cons (o := ?oz40) ?h1z40 (fun K hK => ?armz40) AllReadyH.nil
          case h1z40 => (simp only [List.getElem?_toArray, List.getElem?_cons_succ, List.getElem?_cons_zero]; try rfl)
          case armz40 =>
            have c6 : y39.cell? ⟨b6y39, 0, none⟩ = some (.string ⟨#[]⟩) := by simp [World.cell?, fby39]
            have fz6 := efroz fby39 0
            go_simp
            clear c6 fz6
            have hY8 := hy39.setCell (p := ⟨b6y39, 0, none⟩) geb6y39 (.string ⟨(Lib.itoa n.id).toArray⟩)
            have g6 := heap_setE (off := 0) (v := .string ⟨(Lib.itoa n.id).toArray⟩) fby39
            have g7 := (Below.heap_setCell y39 ⟨b6y39, 0, none⟩ (.string ⟨(Lib.itoa n.id).toArray⟩) b7y34 (Ne.symm hne)).trans fy397
            simp only [List.setIfInBounds_toArray, List.set_cons_zero] at g6
            generalize hw8 : y39.setCell ⟨b6y39, 0, none⟩ (.string ⟨(Lib.itoa n.id).toArray⟩) = w8 at hY8 g6 g7 ⊢
            refine hK.out _ _ (hSk _ hY8) (fun hHeld => ?_)
            clear hK K
            try simp only [Act.put, List.setIfInBounds_toArray, List.set_cons_zero, List.set_cons_succ]
            refine wpAnyH_ready (rs := [9]) (by kernel_rfl) (by simp) ?_
            refine AllReadyH.cons (o := ?oz41) ?h1z41 (fun K hK => ?armz41) AllReadyH.nil
            case h1z41 => (simp only [List.getElem?_toArray, List.getElem?_cons_succ, List.getElem?_cons_zero]; try rfl)
            case armz41 =>
              have c7 : w8.cell? ⟨b7y34, 0, none⟩ = some (.string ⟨#[]⟩) := by simp [World.cell?, g7]
              have fz7 := efroz g7 0
              go_simp
              clear c7 fz7
              have hY9 := hY8.setCell (p := ⟨b7y34, 0, none⟩) geb7y34 (.string ⟨(Lib.itoa n.at_).toArray⟩)
              have k7 := heap_setE (off := 0) (v := .string ⟨(Lib.itoa n.at_).toArray⟩) g7
              have k6 := (Below.heap_setCell w8 ⟨b7y34, 0, none⟩ (.string ⟨(Lib.itoa n.at_).toArray⟩) b6y39 hne).trans g6
              simp only [List.setIfInBounds_toArray, List.set_cons_zero] at k7
              generalize hw9 : w8.setCell ⟨b7y34, 0, none⟩ (.string ⟨(Lib.itoa n.at_).toArray⟩) = w9 at hY9 k6 k7 ⊢
              refine hK.out _ _ (hSk _ hY9) (fun hHeld => ?_)
              clear hK K
              try simp only [Act.put, List.setIfInBounds_toArray, List.set_cons_zero, List.set_cons_succ]
              refine wpAnyH_done (by kernel_rfl) ?_ _
              have HZ := Lib.hid (And.intro k6 (And.intro k7 (And.intro hBD (And.intro hY9 (And.intro geb6y39 geb7y34)))))
              go_simp
              exact HK.out _ _ _ _ _ _ _ _ _ ⟨⟨b6y39, b7y34, rfl, rfl, HZ.out.1, HZ.out.2.1, hne, Nat.le_trans HZ.out.2.2.1.size HZ.out.2.2.2.2.1, Nat.le_trans HZ.out.2.2.1.size HZ.out.2.2.2.2.2⟩, HZ.out.2.2.1.trans (HZ.out.2.2.2.1.mono HZ.out.2.2.1.size)⟩
      case armn36 =>
        go_simp
        have hal : Below y34.heap.size y34 (y34.alloc (.cells #[.string ⟨#[]⟩] 9)) := (Below.refl _ _).alloc (Nat.le_refl _) _
        have hbl : (y34.alloc (.cells #[.string ⟨#[]⟩] 9)).heap[y34.heap.size]? = some (.cells #[.string ⟨#[]⟩] 9 (0, 0)) := ha_eq rfl
        generalize hgy42 : y34.alloc (.cells #[.string ⟨#[]⟩] 9) = y42 at hal hbl ⊢
        have fy427 := (hal.block _ (lt_of_cells fby34)).trans fby34
        have hne : y34.heap.size ≠ b7y34 := by have := lt_of_cells fby34; omega
        have hy42 := hy34.trans (hal.mono hy34.size)
        obtain ⟨b6y42, hBb6y42⟩ : ∃ b6y42, b6y42 = y34.heap.size := ⟨_, rfl⟩
        have geb6y42 : wd.heap.size ≤ b6y42 := by rw [hBb6y42]; exact hy34.size
        rw [← hBb6y42] at hbl ⊢
        rw [← hBb6y42] at hne
        have fby42 := hbl
        clear hbl hal hBb6y42
        refine hK.out _ _ (hSk _ hy42) (fun hHeld => ?_)
        clear hK K
        try simp only [Act.put, List.setIfInBounds_toArray, List.set_cons_zero, List.set_cons_succ]
        refine wpAnyH_ready (rs := [5]) (by kernel_rfl) (by simp) ?_
        refine AllReadyH.cons (o := ?on43) ?h1n43 (fun K hK => ?armn43) AllReadyH.nil
        case h1n43 => (simp only [List.getElem?_toArray, List.getElem?_cons_succ, List.getElem?_cons_zero]; try rfl)
        case armn43 =>
          go_simp
          go_at_call 80
          refine (show_any n.at_ y42 hat.1 hat.2 (hEk _ hy42)).mono ?_
          rintro e y44 ⟨rfl, hby44⟩
          have hy44 := hy42.trans (hby44.mono hy42.size)
          have fy447 := (hby44.block _ (lt_of_cells fy427)).trans fy427
          have fy446 := (hby44.block _ (lt_of_cells fby42)).trans fby42
          refine hK.out _ _ (hSk _ hy44) (fun hHeld => ?_)
          clear hK K
          try simp only [Act.put, List.setIfInBounds_toArray, List.set_cons_zero, List.set_cons_succ]
          refine wpAnyH_ready (rs := [8]) (by kernel_rfl) (by simp) ?_
          refine AllReadyH.cons (o := ?oz45) ?h1z45 (fun K hK => ?armz45) AllReadyH.nil
          case h1z45 => (simp only [List.getElem?_toArray, List.getElem?_cons_succ, List.getElem?_cons_zero]; try rfl)
          case armz45 =>
            have c6 : y44.cell? ⟨b6y42, 0, none⟩ = some (.string ⟨#[]⟩) := by simp [World.cell?, fy446]
            have fz6 := efroz fy446 0
            go_simp
            clear c6 fz6
            have hY8 := hy44.setCell (p := ⟨b6y42, 0, none⟩) geb6y42 (.string ⟨(Lib.itoa n.id).toArray⟩)
            have g6 := heap_setE (off := 0) (v := .string ⟨(Lib.itoa n.id).toArray⟩) fy446
            have g7 := (Below.heap_setCell y44 ⟨b6y42, 0, none⟩ (.string ⟨(Lib.itoa n.id).toArray⟩) b7y34 (Ne.symm hne)).trans fy447
            simp only [List.setIfInBounds_toArray, List.set_cons_zero] at g6
            generalize hw8 : y44.setCell ⟨b6y42, 0, none⟩ (.string ⟨(Lib.itoa n.id).toArray⟩) = w8 at hY8 g6 g7 ⊢
            refine hK.out _ _ (hSk _ hY8) (fun hHeld => ?_)
            clear hK K
            try simp only [Act.put, List.setIfInBounds_toArray, List.set_cons_zero, List.set_cons_succ]
            refine wpAnyH_ready (rs := [9]) (by kernel_rfl) (by simp) ?_
            refine AllReadyH.cons (o := ?oz46) ?h1z46 (fun K hK => ?armz46) AllReadyH.nil
            case h1z46 => (simp only [List.getElem?_toArray, List.getElem?_cons_succ, List.getElem?_cons_zero]; try rfl)
            case armz46 =>
              have c7 : w8.cell? ⟨b7y34, 0, none⟩ = some (.string ⟨#[]⟩) := by simp [World.cell?, g7]
              have fz7 := efroz g7 0
              go_simp
              clear c7 fz7
              have hY9 := hY8.setCell (p := ⟨b7y34, 0, none⟩) geb7y34 (.string ⟨(Lib.itoa n.at_).toArray⟩)
              have k7 := heap_setE (off := 0) (v := .string ⟨(Lib.itoa n.at_).toArray⟩) g7
              have k6 := (Below.heap_setCell w8 ⟨b7y34, 0, none⟩ (.string ⟨(Lib.itoa n.at_).toArray⟩) b6y42 hne).trans g6
              simp only [List.setIfInBounds_toArray, List.set_cons_zero] at k7
              generalize hw9 : w8.setCell ⟨b7y34, 0, none⟩ (.string ⟨(Lib.itoa n.at_).toArray⟩) = w9 at hY9 k6 k7 ⊢
              refine hK.out _ _ (hSk _ hY9) (fun hHeld => ?_)
              clear hK K
              try simp only [Act.put, List.setIfInBounds_toArray, List.set_cons_zero, List.set_cons_succ]
              refine wpAnyH_done (by kernel_rfl) ?_ _
              have HZ := Lib.hid (And.intro k6 (And.intro k7 (And.intro hBD (And.intro hY9 (And.intro geb6y42 geb7y34)))))
              go_simp
              exact HK.out _ _ _ _ _ _ _ _ _ ⟨⟨b6y42, b7y34, rfl, rfl, HZ.out.1, HZ.out.2.1, hne, Nat.le_trans HZ.out.2.2.1.size HZ.out.2.2.2.2.1, Nat.le_trans HZ.out.2.2.1.size HZ.out.2.2.2.2.2⟩, HZ.out.2.2.1.trans (HZ.out.2.2.2.1.mono HZ.out.2.2.1.size)⟩
  case armn2 =>
    go_simp
    have hal : Below wd.heap.size wd (wd.alloc (.cells #[.string ⟨#[]⟩] 9)) := (Below.refl _ _).alloc (Nat.le_refl _) _
    have hbl : (wd.alloc (.cells #[.string ⟨#[]⟩] 9)).heap[wd.heap.size]? = some (.cells #[.string ⟨#[]⟩] 9 (0, 0)) := ha_eq rfl
    generalize hgy47 : wd.alloc (.cells #[.string ⟨#[]⟩] 9) = y47 at hal hbl ⊢
    have hy47 := hr0.trans (hal.mono hr0.size)
    obtain ⟨b6y47, hBb6y47⟩ : ∃ b6y47, b6y47 = wd.heap.size := ⟨_, rfl⟩
    have geb6y47 : wd.heap.size ≤ b6y47 := by rw [hBb6y47]; exact hr0.size
    rw [← hBb6y47] at hbl ⊢
    have fby47 := hbl
    clear hbl hal hBb6y47
    refine hK.out _ _ (hSk _ hy47) (fun hHeld => ?_)
    clear hK K
    try simp only [Act.put, List.setIfInBounds_toArray, List.set_cons_zero, List.set_cons_succ]
    refine wpAnyH_ready (rs := [2, 7]) (by kernel_rfl) (by simp) ?_
    refine AllReadyH.cons (o := ?on48) ?h1n48 (fun K hK => ?armn48) (AllReadyH.cons (o := ?on49) ?h1n49 (fun K hK => ?armn49) AllReadyH.nil)
    case h1n48 => (simp only [List.getElem?_toArray, List.getElem?_cons_succ, List.getElem?_cons_zero]; try rfl)
    case h1n49 => (simp only [List.getElem?_toArray, List.getElem?_cons_succ, List.getElem?_cons_zero]; try rfl)
    case armn48 =>
      go_simp
      go_at_call 80
      refine (show_any n.id y47 hid.1 hid.2 (hEk _ hy47)).mono ?_
      rintro e y50 ⟨rfl, hby50⟩
      have hy50 := hy47.trans (hby50.mono hy47.size)
      have fy506 := (hby50.block _ (lt_of_cells fby47)).trans fby47
      refine hK.out _ _ (hSk _ hy50) (fun hHeld => ?_)
      clear hK K
      try simp only [Act.put, List.setIfInBounds_toArray, List.set_cons_zero, List.set_cons_succ]
      refine wpAnyH_ready (rs := [5, 7]) (by kernel_rfl) (by simp) ?_
      refine AllReadyH.cons (o := ?on51) ?h1n51 (fun K hK => ?armn51) (AllReadyH.cons (o := ?on52) ?h1n52 (fun K hK => ?armn52) AllReadyH.nil)
      case h1n51 => (simp only [List.getElem?_toArray, List.getElem?_cons_succ, List.getElem?_cons_zero]; try rfl)
      case h1n52 => (simp only [List.getElem?_toArray, List.getElem?_cons_succ, List.getElem?_cons_zero]; try rfl)
      case armn51 =>
        go_simp
        go_at_call 80
        refine (show_any n.at_ y50 hat.1 hat.2 (hEk _ hy50)).mono ?_
        rintro e y53 ⟨rfl, hby53⟩
        have hy53 := hy50.trans (hby53.mono hy50.size)
        have fy536 := (hby53.block _ (lt_of_cells fy506)).trans fy506
        refine hK.out _ _ (hSk _ hy53) (fun hHeld => ?_)
        clear hK K
        try simp only [Act.put, List.setIfInBounds_toArray, List.set_cons_zero, List.set_cons_succ]
        refine wpAnyH_ready (rs := [7]) (by kernel_rfl) (by simp) ?_
        refine AllReadyH.cons (o := ?on54) ?h1n54 (fun K hK => ?armn54) AllReadyH.nil
        case h1n54 => (simp only [List.getElem?_toArray, List.getElem?_cons_succ, List.getElem?_cons_zero]; try rfl)
        case armn54 =>
          go_simp
          have hal : Below y53.heap.size y53 (y53.alloc (.cells #[.string ⟨#[]⟩] 9)) := (Below.refl _ _).alloc (Nat.le_refl _) _
          have hbl : (y53.alloc (.cells #[.string ⟨#[]⟩] 9)).heap[y53.heap.size]? = some (.cells #[.string ⟨#[]⟩] 9 (0, 0)) := ha_eq rfl
          generalize hgy55 : y53.alloc (.cells #[.string ⟨#[]⟩] 9) = y55 at hal hbl ⊢
          have fy556 := (hal.block _ (lt_of_cells fy536)).trans fy536
          have hne : y53.heap.size ≠ b6y47 := by have := lt_of_cells fy536; omega
          have hy55 := hy53.trans (hal.mono hy53.size)
          obtain ⟨b7y55, hBb7y55⟩ : ∃ b7y55, b7y55 = y53.heap.size := ⟨_, rfl⟩
          have geb7y55 : wd.heap.size ≤ b7y55 := by rw [hBb7y55]; exact hy53.size
          rw [← hBb7y55] at hbl ⊢
          rw [← hBb7y55] at hne
          have fby55 := hbl
          clear hbl hal hBb7y55
          refine hK.out _ _ (hSk _ hy55) (fun hHeld => ?_)
          clear hK K
          try simp only [Act.put, List.setIfInBounds_toArray, List.set_cons_zero, List.set_cons_succ]
          refine wpAnyH_ready (rs := [8]) (by kernel_rfl) (by simp) ?_
          refine AllReadyH.cons (o := ?oz56) ?h1z56 (fun K hK => ?armz56) AllReadyH.nil
          case h1z56 => (simp only [List.getElem?_toArray, List.getElem?_cons_succ, List.getElem?_cons_zero]; try rfl)
          case armz56 =>
            have c6 : y55.cell? ⟨b6y47, 0, none⟩ = some (.string ⟨#[]⟩) := by simp [World.cell?, fy556]
            have fz6 := efroz fy556 0
            go_simp
            clear c6 fz6
            have hY8 := hy55.setCell (p := ⟨b6y47, 0, none⟩) geb6y47 (.string ⟨(Lib.itoa n.id).toArray⟩)
            have g6 := heap_setE (off := 0) (v := .string ⟨(Lib.itoa n.id).toArray⟩) fy556
            have g7 := (Below.heap_setCell y55 ⟨b6y47, 0, none⟩ (.string ⟨(Lib.itoa n.id).toArray⟩) b7y55 hne).trans fby55
            simp only [List.setIfInBounds_toArray, List.set_cons_zero] at g6
            generalize hw8 : y55.setCell ⟨b6y47, 0, none⟩ (.string ⟨(Lib.itoa n.id).toArray⟩) = w8 at hY8 g6 g7 ⊢
            refine hK.out _ _ (hSk _ hY8) (fun hHeld => ?_)
            clear hK K
            try simp only [Act.put, List.setIfInBounds_toArray, List.set_cons_zero, List.set_cons_succ]
            refine wpAnyH_ready (rs := [9]) (by kernel_rfl) (by simp) ?_
            refine AllReadyH.cons (o := ?oz57) ?h1z57 (fun K hK => ?armz57) AllReadyH.nil
            case h1z57 => (simp only [List.getElem?_toArray, List.getElem?_cons_succ, List.getElem?_cons_zero]; try rfl)
            case armz57 =>
              have c7 : w8.cell? ⟨b7y55, 0, none⟩ = some (.string ⟨#[]⟩) := by simp [World.cell?, g7]
              have fz7 := efroz g7 0
              go_simp
              clear c7 fz7
              have hY9 := hY8.setCell (p := ⟨b7y55, 0, none⟩) geb7y55 (.string ⟨(Lib.itoa n.at_).toArray⟩)
              have k7 := heap_setE (off := 0) (v := .string ⟨(Lib.itoa n.at_).toArray⟩) g7
              have k6 := (Below.heap_setCell w8 ⟨b7y55, 0, none⟩ (.string ⟨(Lib.itoa n.at_).toArray⟩) b6y47 (Ne.symm hne)).trans g6
              simp only [List.setIfInBounds_toArray, List.set_cons_zero] at k7
              generalize hw9 : w8.setCell ⟨b7y55, 0, none⟩ (.string ⟨(Lib.itoa n.at_).toArray⟩) = w9 at hY9 k6 k7 ⊢
              refine hK.out _ _ (hSk _ hY9) (fun hHeld => ?_)
              clear hK K
              try simp only [Act.put, List.setIfInBounds_toArray, List.set_cons_zero, List.set_cons_succ]
              refine wpAnyH_done (by kernel_rfl) ?_ _
              have HZ := Lib.hid (And.intro k6 (And.intro k7 (And.intro hBD (And.intro hY9 (And.intro geb6y47 geb7y55)))))
              go_simp
              exact HK.out _ _ _ _ _ _ _ _ _ ⟨⟨b6y47, b7y55, rfl, rfl, HZ.out.1, HZ.out.2.1, (Ne.symm hne), Nat.le_trans HZ.out.2.2.1.size HZ.out.2.2.2.2.1, Nat.le_trans HZ.out.2.2.1.size HZ.out.2.2.2.2.2⟩, HZ.out.2.2.1.trans (HZ.out.2.2.2.1.mono HZ.out.2.2.1.size)⟩
      case armn52 =>
        go_simp
        have hal : Below y50.heap.size y50 (y50.alloc (.cells #[.string ⟨#[]⟩] 9)) := (Below.refl _ _).alloc (Nat.le_refl _) _
        have hbl : (y50.alloc (.cells #[.string ⟨#[]⟩] 9)).heap[y50.heap.size]? = some (.cells #[.string ⟨#[]⟩] 9 (0, 0)) := ha_eq rfl
        generalize hgy58 : y50.alloc (.cells #[.string ⟨#[]⟩] 9) = y58 at hal hbl ⊢
        have fy586 := (hal.block _ (lt_of_cells fy506)).trans fy506
        have hne : y50.heap.size ≠ b6y47 := by have := lt_of_cells fy506; omega
        have hy58 := hy50.trans (hal.mono hy50.size)
        obtain ⟨b7y58, hBb7y58⟩ : ∃ b7y58, b7y58 = y50.heap.size := ⟨_, rfl⟩
        have geb7y58 : wd.heap.size ≤ b7y58 := by rw [hBb7y58]; exact hy50.size
        rw [← hBb7y58] at hbl ⊢
        rw [← hBb7y58] at hne
        have fby58 := hbl
        clear hbl hal hBb7y58
        refine hK.out _ _ (hSk _ hy58) (fun hHeld => ?_)
        clear hK K
        try simp only [Act.put, List.setIfInBounds_toArray, List.set_cons_zero, List.set_cons_succ]
        refine wpAnyH_ready (rs := [5]) (by kernel_rfl) (by simp) ?_
        refine AllReadyH.cons (o := ?on59) ?h1n59 (fun K hK => ?armn59) AllReadyH.nil
        case h1n59 => (simp only [List.getElem?_toArray, List.getElem?_cons_succ, List.getElem?_cons_zero]; try rfl)
        case armn59 =>
          go_simp
          go_at_call 80
          refine (show_any n.at_ y58 hat.1 hat.2 (hEk _ hy58)).mono ?_
          rintro e y60 ⟨rfl, hby60⟩
          have hy60 := hy58.trans (hby60.mono hy58.size)
          have fy606 := (hby60.block _ (lt_of_cells fy586)).trans fy586
          have fy607 := (hby60.block _ (lt_of_cells fby58)).trans fby58
          refine hK.out _ _ (hSk _ hy60) (fun hHeld => ?_)
          clear hK K
          try simp only [Act.put, List.setIfInBounds_toArray, List.set_cons_zero, List.set_cons_succ]
          refine wpAnyH_ready (rs := [8]) (by kernel_rfl) (by simp) ?_
          refine AllReadyH.cons (o := ?oz61) ?h1z61 (fun K hK => ?armz61) AllReadyH.nil
          case h1z61 => (simp only [List.getElem?_toArray, List.getElem?_cons_succ, List.getElem?_cons_zero]; try rfl)
          case armz61 =>
            have c6 : y60.cell? ⟨b6y47, 0, none⟩ = some (.string ⟨#[]⟩) := by simp [World.cell?, fy606]
            have fz6 := efroz fy606 0
            go_simp
            clear c6 fz6
            have hY8 := hy60.setCell (p := ⟨b6y47, 0, none⟩) geb6y47 (.string ⟨(Lib.itoa n.id).toArray⟩)
            have g6 := heap_setE (off := 0) (v := .string ⟨(Lib.itoa n.id).toArray⟩) fy606
            have g7 := (Below.heap_setCell y60 ⟨b6y47, 0, none⟩ (.string ⟨(Lib.itoa n.id).toArray⟩) b7y58 hne).trans fy607
            simp only [List.setIfInBounds_toArray, List.set_cons_zero] at g6
            generalize hw8 : y60.setCell ⟨b6y47, 0, none⟩ (.string ⟨(Lib.itoa n.id).toArray⟩) = w8 at hY8 g6 g7 ⊢
            refine hK.out _ _ (hSk _ hY8) (fun hHeld => ?_)
            clear hK K
            try simp only [Act.put, List.setIfInBounds_toArray, List.set_cons_zero, List.set_cons_succ]
            refine wpAnyH_ready (rs := [9]) (by kernel_rfl) (by simp) ?_
            refine AllReadyH.cons (o := ?oz62) ?h1z62 (fun K hK => ?armz62) AllReadyH.nil
            case h1z62 => (simp only [List.getElem?_toArray, List.getElem?_cons_succ, List.getElem?_cons_zero]; try rfl)
            case armz62 =>
              have c7 : w8.cell? ⟨b7y58, 0, none⟩ = some (.string ⟨#[]⟩) := by simp [World.cell?, g7]
              have fz7 := efroz g7 0
              go_simp
              clear c7 fz7
              have hY9 := hY8.setCell (p := ⟨b7y58, 0, none⟩) geb7y58 (.string ⟨(Lib.itoa n.at_).toArray⟩)
              have k7 := heap_setE (off := 0) (v := .string ⟨(Lib.itoa n.at_).toArray⟩) g7
              have k6 := (Below.heap_setCell w8 ⟨b7y58, 0, none⟩ (.string ⟨(Lib.itoa n.at_).toArray⟩) b6y47 (Ne.symm hne)).trans g6
              simp only [List.setIfInBounds_toArray, List.set_cons_zero] at k7
              generalize hw9 : w8.setCell ⟨b7y58, 0, none⟩ (.string ⟨(Lib.itoa n.at_).toArray⟩) = w9 at hY9 k6 k7 ⊢
              refine hK.out _ _ (hSk _ hY9) (fun hHeld => ?_)
              clear hK K
              try simp only [Act.put, List.setIfInBounds_toArray, List.set_cons_zero, List.set_cons_succ]
              refine wpAnyH_done (by kernel_rfl) ?_ _
              have HZ := Lib.hid (And.intro k6 (And.intro k7 (And.intro hBD (And.intro hY9 (And.intro geb6y47 geb7y58)))))
              go_simp
              exact HK.out _ _ _ _ _ _ _ _ _ ⟨⟨b6y47, b7y58, rfl, rfl, HZ.out.1, HZ.out.2.1, (Ne.symm hne), Nat.le_trans HZ.out.2.2.1.size HZ.out.2.2.2.2.1, Nat.le_trans HZ.out.2.2.1.size HZ.out.2.2.2.2.2⟩, HZ.out.2.2.1.trans (HZ.out.2.2.2.1.mono HZ.out.2.2.1.size)⟩
    case armn49 =>
      go_simp
      have hal : Below y47.heap.size y47 (y47.alloc (.cells #[.string ⟨#[]⟩] 9)) := (Below.refl _ _).alloc (Nat.le_refl _) _
      have hbl : (y47.alloc (.cells #[.string ⟨#[]⟩] 9)).heap[y47.heap.size]? = some (.cells #[.string ⟨#[]⟩] 9 (0, 0)) := ha_eq rfl
      generalize hgy63 : y47.alloc (.cells #[.string ⟨#[]⟩] 9) = y63 at hal hbl ⊢
      have fy636 := (hal.block _ (lt_of_cells fby47)).trans fby47
      have hne : y47.heap.size ≠ b6y47 := by have := lt_of_cells fby47; omega
      have hy63 := hy47.trans (hal.mono hy47.size)
      obtain ⟨b7y63, hBb7y63⟩ : ∃ b7y63, b7y63 = y47.heap.size := ⟨_, rfl⟩
      have geb7y63 : wd.heap.size ≤ b7y63 := by rw [hBb7y63]; exact hy47.size
      rw [← hBb7y63] at hbl ⊢
      rw [← hBb7y63] at hne
      have fby63 := hbl
      clear hbl hal hBb7y63
      refine hK.out _ _ (hSk _ hy63) (fun hHeld => ?_)
      clear hK K
      try simp only [Act.put, List.setIfInBounds_toArray, List.set_cons_zero, List.set_cons_succ]
      refine wpAnyH_ready (rs := [2]) (by kernel_rfl) (by simp) ?_
      refine AllReadyH.cons (o := ?on64) ?h1n64 (fun K hK => ?armn64) AllReadyH.nil
      case h1n64 => (simp only [List.getElem?_toArray, List.getElem?_cons_succ, List.getElem?_cons_zero]; try rfl)
      case armn64 =>
        go_simp
        go_at_call 80
        refine (show_any n.id y63 hid.1 hid.2 (hEk _ hy63)).mono ?_
        rintro e y65 ⟨rfl, hby65⟩
        have hy65 := hy63.trans (hby65.mono hy63.size)
        have fy656 := (hby65.block _ (lt_of_cells fy636)).trans fy636
        have fy657 := (hby65.block _ (lt_of_cells fby63)).trans fby63
        refine hK.out _ _ (hSk _ hy65) (fun hHeld => ?_)
        clear hK K
        try simp only [Act.put, List.setIfInBounds_toArray, List.set_cons_zero, List.set_cons_succ]
        refine wpAnyH_ready (rs := [5]) (by kernel_rfl) (by simp) ?_
        refine AllReadyH.cons (o := ?on66) ?h1n66 (fun K hK => ?armn66) AllReadyH.nil
        case h1n66 => (simp only [List.getElem?_toArray, List.getElem?_cons_succ, List.getElem?_cons_zero]; try rfl)
        case armn66 =>
          go_simp
          go_at_call 80
          refine (show_any n.at_ y65 hat.1 hat.2 (hEk _ hy65)).mono ?_
          rintro e y67 ⟨rfl, hby67⟩
          have hy67 := hy65.trans (hby67.mono hy65.size)
          have fy676 := (hby67.block _ (lt_of_cells fy656)).trans fy656
          have fy677 := (hby67.block _ (lt_of_cells fy657)).trans fy657
          refine hK.out _ _ (hSk _ hy67) (fun hHeld => ?_)
          clear hK K
          try simp only [Act.put, List.setIfInBounds_toArray, List.set_cons_zero, List.set_cons_succ]
          refine wpAnyH_ready (rs := [8]) (by kernel_rfl) (by simp) ?_
          refine AllReadyH.cons (o := ?oz68) ?h1z68 (fun K hK => ?armz68) AllReadyH.nil
          case h1z68 => (simp only [List.getElem?_toArray, List.getElem?_cons_succ, List.getElem?_cons_zero]; try rfl)
          case armz68 =>
            have c6 : y67.cell? ⟨b6y47, 0, none⟩ = some (.string ⟨#[]⟩) := by simp [World.cell?, fy676]
            have fz6 := efroz fy676 0
            go_simp
            clear c6 fz6
            have hY8 := hy67.setCell (p := ⟨b6y47, 0, none⟩) geb6y47 (.string ⟨(Lib.itoa n.id).toArray⟩)
            have g6 := heap_setE (off := 0) (v := .string ⟨(Lib.itoa n.id).toArray⟩) fy676
            have g7 := (Below.heap_setCell y67 ⟨b6y47, 0, none⟩ (.string ⟨(Lib.itoa n.id).toArray⟩) b7y63 hne).trans fy677
            simp only [List.setIfInBounds_toArray, List.set_cons_zero] at g6
            generalize hw8 : y67.setCell ⟨b6y47, 0, none⟩ (.string ⟨(Lib.itoa n.id).toArray⟩) = w8 at hY8 g6 g7 ⊢
            refine hK.out _ _ (hSk _ hY8) (fun hHeld => ?_)
            clear hK K
            try simp only [Act.put, List.setIfInBounds_toArray, List.set_cons_zero, List.set_cons_succ]
            refine wpAnyH_ready (rs := [9]) (by kernel_rfl) (by simp) ?_
            refine AllReadyH.cons (o := ?oz69) ?h1z69 (fun K hK => ?armz69) AllReadyH.nil
            case h1z69 => (simp only [List.getElem?_toArray, List.getElem?_cons_succ, List.getElem?_cons_zero]; try rfl)
            case armz69 =>
              have c7 : w8.cell? ⟨b7y63, 0, none⟩ = some (.string ⟨#[]⟩) := by simp [World.cell?, g7]
              have fz7 := efroz g7 0
              go_simp
              clear c7 fz7
              have hY9 := hY8.setCell (p := ⟨b7y63, 0, none⟩) geb7y63 (.string ⟨(Lib.itoa n.at_).toArray⟩)
              have k7 := heap_setE (off := 0) (v := .string ⟨(Lib.itoa n.at_).toArray⟩) g7
              have k6 := (Below.heap_setCell w8 ⟨b7y63, 0, none⟩ (.string ⟨(Lib.itoa n.at_).toArray⟩) b6y47 (Ne.symm hne)).trans g6
              simp only [List.setIfInBounds_toArray, List.set_cons_zero] at k7
              generalize hw9 : w8.setCell ⟨b7y63, 0, none⟩ (.string ⟨(Lib.itoa n.at_).toArray⟩) = w9 at hY9 k6 k7 ⊢
              refine hK.out _ _ (hSk _ hY9) (fun hHeld => ?_)
              clear hK K
              try simp only [Act.put, List.setIfInBounds_toArray, List.set_cons_zero, List.set_cons_succ]
              refine wpAnyH_done (by kernel_rfl) ?_ _
              have HZ := Lib.hid (And.intro k6 (And.intro k7 (And.intro hBD (And.intro hY9 (And.intro geb6y47 geb7y63)))))
              go_simp
              exact HK.out _ _ _ _ _ _ _ _ _ ⟨⟨b6y47, b7y63, rfl, rfl, HZ.out.1, HZ.out.2.1, (Ne.symm hne), Nat.le_trans HZ.out.2.2.1.size HZ.out.2.2.2.2.1, Nat.le_trans HZ.out.2.2.1.size HZ.out.2.2.2.2.2⟩, HZ.out.2.2.1.trans (HZ.out.2.2.2.1.mono HZ.out.2.2.1.size)⟩
  case armn3 =>
    go_simp
    have hal : Below wd.heap.size wd (wd.alloc (.cells #[.string ⟨#[]⟩] 9)) := (Below.refl _ _).alloc (Nat.le_refl _) _
    have hbl : (wd.alloc (.cells #[.string ⟨#[]⟩] 9)).heap[wd.heap.size]? = some (.cells #[.string ⟨#[]⟩] 9 (0, 0)) := ha_eq rfl
    generalize hgy70 : wd.alloc (.cells #[.string ⟨#[]⟩] 9) = y70 at hal hbl ⊢
    have hy70 := hr0.trans (hal.mono hr0.size)
    obtain ⟨b7y70, hBb7y70⟩ : ∃ b7y70, b7y70 = wd.heap.size := ⟨_, rfl⟩
    have geb7y70 : wd.heap.size ≤ b7y70 := by rw [hBb7y70]; exact hr0.size
    rw [← hBb7y70] at hbl ⊢
    have fby70 := hbl
    clear hbl hal hBb7y70
    refine hK.out _ _ (hSk _ hy70) (fun hHeld => ?_)
    clear hK K
    try simp only [Act.put, List.setIfInBounds_toArray, List.set_cons_zero, List.set_cons_succ]
    refine wpAnyH_ready (rs := [2, 6]) (by kernel_rfl) (by simp) ?_
    refine AllReadyH.cons (o := ?on71) ?h1n71 (fun K hK => ?armn71) (AllReadyH.cons (o := ?on72) ?h1n72 (fun K hK => ?armn72) AllReadyH.nil)
    case h1n71 => (simp only [List.getElem?_toArray, List.getElem?_cons_succ, List.getElem?_cons_zero]; try rfl)
    case h1n72 => (simp only [List.getElem?_toArray, List.getElem?_cons_succ, List.getElem?_cons_zero]; try rfl)
    case armn71 =>
      go_simp
      go_at_call 80
      refine (show_any n.id y70 hid.1 hid.2 (hEk _ hy70)).mono ?_
      rintro e y73 ⟨rfl, hby73⟩
      have hy73 := hy70.trans (hby73.mono hy70.size)
      have fy737 := (hby73.block _ (lt_of_cells fby70)).trans fby70
      refine hK.out _ _ (hSk _ hy73) (fun hHeld => ?_)
      clear hK K
      try simp only [Act.put, List.setIfInBounds_toArray, List.set_cons_zero, List.set_cons_succ]
      refine wpAnyH_ready (rs := [5, 6]) (by kernel_rfl) (by simp) ?_
      refine AllReadyH.cons (o := ?on74) ?h1n74 (fun K hK => ?armn74) (AllReadyH.cons (o := ?on75) ?h1n75 (fun K hK => ?armn75) AllReadyH.nil)
      case h1n74 => (simp only [List.getElem?_toArray, List.getElem?_cons_succ, List.getElem?_cons_zero]; try rfl)
      case h1n75 => (simp only [List.getElem?_toArray, List.getElem?_cons_succ, List.getElem?_cons_zero]; try rfl)
      case armn74 =>
        go_simp
        go_at_call 80
        refine (show_any n.at_ y73 hat.1 hat.2 (hEk _ hy73)).mono ?_
        rintro e y76 ⟨rfl, hby76⟩
        have hy76 := hy73.trans (hby76.mono hy73.size)
        have fy767 := (hby76.block _ (lt_of_cells fy737)).trans fy737
        refine hK.out _ _ (hSk _ hy76) (fun hHeld => ?_)
        clear hK K
        try simp only [Act.put, List.setIfInBounds_toArray, List.set_cons_zero, List.set_cons_succ]
        refine wpAnyH_ready (rs := [6]) (by kernel_rfl) (by simp) ?_
        refine AllReadyH.cons (o := ?on77) ?h1n77 (fun K hK => ?armn77) AllReadyH.nil
        case h1n77 => (simp only [List.getElem?_toArray, List.getElem?_cons_succ, List.getElem?_cons_zero]; try rfl)
        case armn77 =>
          go_simp
          have hal : Below y76.heap.size y76 (y76.alloc (.cells #[.string ⟨#[]⟩] 9)) := (Below.refl _ _).alloc (Nat.le_refl _) _
          have hbl : (y76.alloc (.cells #[.string ⟨#[]⟩] 9)).heap[y76.heap.size]? = some (.cells #[.string ⟨#[]⟩] 9 (0, 0)) := ha_eq rfl
          generalize hgy78 : y76.alloc (.cells #[.string ⟨#[]⟩] 9) = y78 at hal hbl ⊢
          have fy787 := (hal.block _ (lt_of_cells fy767)).trans fy767
          have hne : y76.heap.size ≠ b7y70 := by have := lt_of_cells fy767; omega
          have hy78 := hy76.trans (hal.mono hy76.size)
          obtain ⟨b6y78, hBb6y78⟩ : ∃ b6y78, b6y78 = y76.heap.size := ⟨_, rfl⟩
          have geb6y78 : wd.heap.size ≤ b6y78 := by rw [hBb6y78]; exact hy76.size
          rw [← hBb6y78] at hbl ⊢
          rw [← hBb6y78] at hne
          have fby78 := hbl
          clear hbl hal hBb6y78
          refine hK.out _ _ (hSk _ hy78) (fun hHeld => ?_)
          clear hK K
          try simp only [Act.put, List.setIfInBounds_toArray, List.set_cons_zero, List.set_cons_succ]
          refine wpAnyH_ready (rs := [8]) (by kernel_rfl) (by simp) ?_
          refine AllReadyH.cons (o := ?oz79) ?h1z79 (fun K hK => ?armz79) AllReadyH.nil
          case h1z79 => (simp only [List.getElem?_toArray, List.getElem?_cons_succ, List.getElem?_cons_zero]; try rfl)
          case armz79 =>
            have c6 : y78.cell? ⟨b6y78, 0, none⟩ = some (.string ⟨#[]⟩) := by simp [World.cell?, fby78]
            have fz6 := efroz fby78 0
            go_simp
            clear c6 fz6
            have hY8 := hy78.setCell (p := ⟨b6y78, 0, none⟩) geb6y78 (.string ⟨(Lib.itoa n.id).toArray⟩)
            have g6 := heap_setE (off := 0) (v := .string ⟨(Lib.itoa n.id).toArray⟩) fby78
            have g7 := (Below.heap_setCell y78 ⟨b6y78, 0, none⟩ (.string ⟨(Lib.itoa n.id).toArray⟩) b7y70 (Ne.symm hne)).trans fy787
            simp only [List.setIfInBounds_toArray, List.set_cons_zero] at g6
            generalize hw8 : y78.setCell ⟨b6y78, 0, none⟩ (.string ⟨(Lib.itoa n.id).toArray⟩) = w8 at hY8 g6 g7 ⊢
            refine hK.out _ _ (hSk _ hY8) (fun hHeld => ?_)
            clear hK K
            try simp only [Act.put, List.setIfInBounds_toArray, List.set_cons_zero, List.set_cons_succ]
            refine wpAnyH_ready (rs := [9]) (by kernel_rfl) (by simp) ?_
            refine AllReadyH.cons (o := ?oz80) ?h1z80 (fun K hK => ?armz80) AllReadyH.nil
            case h1z80 => (simp only [List.getElem?_toArray, List.getElem?_cons_succ, List.getElem?_cons_zero]; try rfl)
            case armz80 =>
              have c7 : w8.cell? ⟨b7y70, 0, none⟩ = some (.string ⟨#[]⟩) := by simp [World.cell?, g7]
              have fz7 := efroz g7 0
              go_simp
              clear c7 fz7
              have hY9 := hY8.setCell (p := ⟨b7y70, 0, none⟩) geb7y70 (.string ⟨(Lib.itoa n.at_).toArray⟩)
              have k7 := heap_setE (off := 0) (v := .string ⟨(Lib.itoa n.at_).toArray⟩) g7
              have k6 := (Below.heap_setCell w8 ⟨b7y70, 0, none⟩ (.string ⟨(Lib.itoa n.at_).toArray⟩) b6y78 hne).trans g6
              simp only [List.setIfInBounds_toArray, List.set_cons_zero] at k7
              generalize hw9 : w8.setCell ⟨b7y70, 0, none⟩ (.string ⟨(Lib.itoa n.at_).toArray⟩) = w9 at hY9 k6 k7 ⊢
              refine hK.out _ _ (hSk _ hY9) (fun hHeld => ?_)
              clear hK K
              try simp only [Act.put, List.setIfInBounds_toArray, List.set_cons_zero, List.set_cons_succ]
              refine wpAnyH_done (by kernel_rfl) ?_ _
              have HZ := Lib.hid (And.intro k6 (And.intro k7 (And.intro hBD (And.intro hY9 (And.intro geb6y78 geb7y70)))))
              go_simp
              exact HK.out _ _ _ _ _ _ _ _ _ ⟨⟨b6y78, b7y70, rfl, rfl, HZ.out.1, HZ.out.2.1, hne, Nat.le_trans HZ.out.2.2.1.size HZ.out.2.2.2.2.1, Nat.le_trans HZ.out.2.2.1.size HZ.out.2.2.2.2.2⟩, HZ.out.2.2.1.trans (HZ.out.2.2.2.1.mono HZ.out.2.2.1.size)⟩
      case armn75 =>
        go_simp
        have hal : Below y73.heap.size y73 (y73.alloc (.cells #[.string ⟨#[]⟩] 9)) := (Below.refl _ _).alloc (Nat.le_refl _) _
        have hbl : (y73.alloc (.cells #[.string ⟨#[]⟩] 9)).heap[y73.heap.size]? = some (.cells #[.string ⟨#[]⟩] 9 (0, 0)) := ha_eq rfl
        generalize hgy81 : y73.alloc (.cells #[.string ⟨#[]⟩] 9) = y81 at hal hbl ⊢
        have fy817 := (hal.block _ (lt_of_cells fy737)).trans fy737
        have hne : y73.heap.size ≠ b7y70 := by have := lt_of_cells fy737; omega
        have hy81 := hy73.trans (hal.mono hy73.size)
        obtain ⟨b6y81, hBb6y81⟩ : ∃ b6y81, b6y81 = y73.heap.size := ⟨_, rfl⟩
        have geb6y81 : wd.heap.size ≤ b6y81 := by rw [hBb6y81]; exact hy73.size
        rw [← hBb6y81] at hbl ⊢
        rw [← hBb6y81] at hne
        have fby81 := hbl
        clear hbl hal hBb6y81
        refine hK.out _ _ (hSk _ hy81) (fun hHeld => ?_)
        clear hK K
        try simp only [Act.put, List.setIfInBounds_toArray, List.set_cons_zero, List.set_cons_succ]
        refine wpAnyH_ready (rs := [5]) (by kernel_rfl) (by simp) ?_
        refine AllReadyH.cons (o := ?on82) ?h1n82 (fun K hK => ?armn82) AllReadyH.nil
        case h1n82 => (simp only [List.getElem?_toArray, List.getElem?_cons_succ, List.getElem?_cons_zero]; try rfl)
        case armn82 =>
          go_simp
          go_at_call 80
          refine (show_any n.at_ y81 hat.1 hat.2 (hEk _ hy81)).mono ?_
          rintro e y83 ⟨rfl, hby83⟩
          have hy83 := hy81.trans (hby83.mono hy81.size)
          have fy837 := (hby83.block _ (lt_of_cells fy817)).trans fy817
          have fy836 := (hby83.block _ (lt_of_cells fby81)).trans fby81
          refine hK.out _ _ (hSk _ hy83) (fun hHeld => ?_)
          clear hK K
          try simp only [Act.put, List.setIfInBounds_toArray, List.set_cons_zero, List.set_cons_succ]
          refine wpAnyH_ready (rs := [8]) (by kernel_rfl) (by simp) ?_
          refine AllReadyH.cons (o := ?oz84) ?h1z84 (fun K hK => ?armz84) AllReadyH.nil
          case h1z84 => (simp only [List.getElem?_toArray, List.getElem?_cons_succ, List.getElem?_cons_zero]; try rfl)
          case armz84 =>
            have c6 : y83.cell? ⟨b6y81, 0, none⟩ = some (.string ⟨#[]⟩) := by simp [World.cell?, fy836]
            have fz6 := efroz fy836 0
            go_simp
            clear c6 fz6
            have hY8 := hy83.setCell (p := ⟨b6y81, 0, none⟩) geb6y81 (.string ⟨(Lib.itoa n.id).toArray⟩)
            have g6 := heap_setE (off := 0) (v := .string ⟨(Lib.itoa n.id).toArray⟩) fy836
            have g7 := (Below.heap_setCell y83 ⟨b6y81, 0, none⟩ (.string ⟨(Lib.itoa n.id).toArray⟩) b7y70 (Ne.symm hne)).trans fy837
            simp only [List.setIfInBounds_toArray, List.set_cons_zero] at g6
            generalize hw8 : y83.setCell ⟨b6y81, 0, none⟩ (.string ⟨(Lib.itoa n.id).toArray⟩) = w8 at hY8 g6 g7 ⊢
            refine hK.out _ _ (hSk _ hY8) (fun hHeld => ?_)
            clear hK K
            try simp only [Act.put, List.setIfInBounds_toArray, List.set_cons_zero, List.set_cons_succ]
            refine wpAnyH_ready (rs := [9]) (by kernel_rfl) (by simp) ?_
            refine AllReadyH.cons (o := ?oz85) ?h1z85 (fun K hK => ?armz85) AllReadyH.nil
            case h1z85 => (simp only [List.getElem?_toArray, List.getElem?_cons_succ, List.getElem?_cons_zero]; try rfl)
            case armz85 =>
              have c7 : w8.cell? ⟨b7y70, 0, none⟩ = some (.string ⟨#[]⟩) := by simp [World.cell?, g7]
              have fz7 := efroz g7 0
              go_simp
              clear c7 fz7
              have hY9 := hY8.setCell (p := ⟨b7y70, 0, none⟩) geb7y70 (.string ⟨(Lib.itoa n.at_).toArray⟩)
              have k7 := heap_setE (off := 0) (v := .string ⟨(Lib.itoa n.at_).toArray⟩) g7
              have k6 := (Below.heap_setCell w8 ⟨b7y70, 0, none⟩ (.string ⟨(Lib.itoa n.at_).toArray⟩) b6y81 hne).trans g6
              simp only [List.setIfInBounds_toArray, List.set_cons_zero] at k7
              generalize hw9 : w8.setCell ⟨b7y70, 0, none⟩ (.string ⟨(Lib.itoa n.at_).toArray⟩) = w9 at hY9 k6 k7 ⊢
              refine hK.out _ _ (hSk _ hY9) (fun hHeld => ?_)
              clear hK K
              try simp only [Act.put, List.setIfInBounds_toArray, List.set_cons_zero, List.set_cons_succ]
              refine wpAnyH_done (by kernel_rfl) ?_ _
              have HZ := Lib.hid (And.intro k6 (And.intro k7 (And.intro hBD (And.intro hY9 (And.intro geb6y81 geb7y70)))))
              go_simp
              exact HK.out _ _ _ _ _ _ _ _ _ ⟨⟨b6y81, b7y70, rfl, rfl, HZ.out.1, HZ.out.2.1, hne, Nat.le_trans HZ.out.2.2.1.size HZ.out.2.2.2.2.1, Nat.le_trans HZ.out.2.2.1.size HZ.out.2.2.2.2.2⟩, HZ.out.2.2.1.trans (HZ.out.2.2.2.1.mono HZ.out.2.2.1.size)⟩
    case armn72 =>
      go_simp
      have hal : Below y70.heap.size y70 (y70.alloc (.cells #[.string ⟨#[]⟩] 9)) := (Below.refl _ _).alloc (Nat.le_refl _) _
      have hbl : (y70.alloc (.cells #[.string ⟨#[]⟩] 9)).heap[y70.heap.size]? = some (.cells #[.string ⟨#[]⟩] 9 (0, 0)) := ha_eq rfl
      generalize hgy86 : y70.alloc (.cells #[.string ⟨#[]⟩] 9) = y86 at hal hbl ⊢
      have fy867 := (hal.block _ (lt_of_cells fby70)).trans fby70
      have hne : y70.heap.size ≠ b7y70 := by have := lt_of_cells fby70; omega
      have hy86 := hy70.trans (hal.mono hy70.size)
      obtain ⟨b6y86, hBb6y86⟩ : ∃ b6y86, b6y86 = y70.heap.size := ⟨_, rfl⟩
      have geb6y86 : wd.heap.size ≤ b6y86 := by rw [hBb6y86]; exact hy70.size
      rw [← hBb6y86] at hbl ⊢
      rw [← hBb6y86] at hne
      have fby86 := hbl
      clear hbl hal hBb6y86
      refine hK.out _ _ (hSk _ hy86) (fun hHeld => ?_)
      clear hK K
      try simp only [Act.put, List.setIfInBounds_toArray, List.set_cons_zero, List.set_cons_succ]
      refine wpAnyH_ready (rs := [2]) (by kernel_rfl) (by simp) ?_
      refine AllReadyH.cons (o := ?on87) ?h1n87 (fun K hK => ?armn87) AllReadyH.nil
      case h1n87 => (simp only [List.getElem?_toArray, List.getElem?_cons_succ, List.getElem?_cons_zero]; try rfl)
      case armn87 =>
        go_simp
        go_at_call 80
        refine (show_any n.id y86 hid.1 hid.2 (hEk _ hy86)).mono ?_
        rintro e y88 ⟨rfl, hby88⟩
        have hy88 := hy86.trans (hby88.mono hy86.size)
        have fy887 := (hby88.block _ (lt_of_cells fy867)).trans fy867
        have fy886 := (hby88.block _ (lt_of_cells fby86)).trans fby86
        refine hK.out _ _ (hSk _ hy88) (fun hHeld => ?_)
        clear hK K
        try simp only [Act.put, List.setIfInBounds_toArray, List.set_cons_zero, List.set_cons_succ]
        refine wpAnyH_ready (rs := [5]) (by kernel_rfl) (by simp) ?_
        refine AllReadyH.cons (o := ?on89) ?h1n89 (fun K hK => ?armn89) AllReadyH.nil
        case h1n89 => (simp only [List.getElem?_toArray, List.getElem?_cons_succ, List.getElem?_cons_zero]; try rfl)
        case armn89 =>
          go_simp
          go_at_call 80
          refine (show_any n.at_ y88 hat.1 hat.2 (hEk _ hy88)).mono ?_
          rintro e y90 ⟨rfl, hby90⟩
          have hy90 := hy88.trans (hby90.mono hy88.size)
          have fy907 := (hby90.block _ (lt_of_cells fy887)).trans fy887
          have fy906 := (hby90.block _ (lt_of_cells fy886)).trans fy886
          refine hK.out _ _ (hSk _ hy90) (fun hHeld => ?_)
          clear hK K
          try simp only [Act.put, List.setIfInBounds_toArray, List.set_cons_zero, List.set_cons_succ]
          refine wpAnyH_ready (rs := [8]) (by kernel_rfl) (by simp) ?_
          refine AllReadyH.cons (o := ?oz91) ?h1z91 (fun K hK => ?armz91) AllReadyH.nil
          case h1z91 => (simp only [List.getElem?_toArray, List.getElem?_cons_succ, List.getElem?_cons_zero]; try rfl)
          case armz91 =>
            have c6 : y90.cell? ⟨b6y86, 0, none⟩ = some (.string ⟨#[]⟩) := by simp [World.cell?, fy906]
            have fz6 := efroz fy906 0
            go_simp
            clear c6 fz6
            have hY8 := hy90.setCell (p := ⟨b6y86, 0, none⟩) geb6y86 (.string ⟨(Lib.itoa n.id).toArray⟩)
            have g6 := heap_setE (off := 0) (v := .string ⟨(Lib.itoa n.id).toArray⟩) fy906
            have g7 := (Below.heap_setCell y90 ⟨b6y86, 0, none⟩ (.string ⟨(Lib.itoa n.id).toArray⟩) b7y70 (Ne.symm hne)).trans fy907
            simp only [List.setIfInBounds_toArray, List.set_cons_zero] at g6
            generalize hw8 : y90.setCell ⟨b6y86, 0, none⟩ (.string ⟨(Lib.itoa n.id).toArray⟩) = w8 at hY8 g6 g7 ⊢
            refine hK.out _ _ (hSk _ hY8) (fun hHeld => ?_)
            clear hK K
            try simp only [Act.put, List.setIfInBounds_toArray, List.set_cons_zero, List.set_cons_succ]
            refine wpAnyH_ready (rs := [9]) (by kernel_rfl) (by simp) ?_
            refine AllReadyH.cons (o := ?oz92) ?h1z92 (fun K hK => ?armz92) AllReadyH.nil
            case h1z92 => (simp only [List.getElem?_toArray, List.getElem?_cons_succ, List.getElem?_cons_zero]; try rfl)
            case armz92 =>
              have c7 : w8.cell? ⟨b7y70, 0, none⟩ = some (.string ⟨#[]⟩) := by simp [World.cell?, g7]
              have fz7 := efroz g7 0
              go_simp
              clear c7 fz7
              have hY9 := hY8.setCell (p := ⟨b7y70, 0, none⟩) geb7y70 (.string ⟨(Lib.itoa n.at_).toArray⟩)
              have k7 := heap_setE (off := 0) (v := .string ⟨(Lib.itoa n.at_).toArray⟩) g7
              have k6 := (Below.heap_setCell w8 ⟨b7y70, 0, none⟩ (.string ⟨(Lib.itoa n.at_).toArray⟩) b6y86 hne).trans g6
              simp only [List.setIfInBounds_toArray, List.set_cons_zero] at k7
              generalize hw9 : w8.setCell ⟨b7y70, 0, none⟩ (.string ⟨(Lib.itoa n.at_).toArray⟩) = w9 at hY9 k6 k7 ⊢
              refine hK.out _ _ (hSk _ hY9) (fun hHeld => ?_)
              clear hK K
              try simp only [Act.put, List.setIfInBounds_toArray, List.set_cons_zero, List.set_cons_succ]
              refine wpAnyH_done (by kernel_rfl) ?_ _
              have HZ := Lib.hid (And.intro k6 (And.intro k7 (And.intro hBD (And.intro hY9 (And.intro geb6y86 geb7y70)))))
              go_simp
              exact HK.out _ _ _ _ _ _ _ _ _ ⟨⟨b6y86, b7y70, rfl, rfl, HZ.out.1, HZ.out.2.1, hne, Nat.le_trans HZ.out.2.2.1.size HZ.out.2.2.2.2.1, Nat.le_trans HZ.out.2.2.1.size HZ.out.2.2.2.2.2⟩, HZ.out.2.2.1.trans (HZ.out.2.2.2.1.mono HZ.out.2.2.1.size)⟩
end Go.Proofs.YtlpngibdplnieaaGreatDoor
