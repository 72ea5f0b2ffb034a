/- entry.Decode's first function: an addressee and a fate are read, and appended. -/
import Derived.Test.YtdlpdpelhkgnlaaGreatDoorEdj
namespace Go.Proofs.YtdlpdpelhkgnlaaGreatDoor
open Go Go.RowKit Go.Shelf Go.Sort
attribute [local go_sem] bneI

theorem infoRc : (Tryz.prog.info? 57).map (fun i => (i.zero, i.size, i.bytes)) = some (some (.agg #[.string ⟨#[]⟩, .bool false]), 2, 24) := by kernel_rfl
section
variable {fx : Option (Nat × Value)} {w0 W W' : World} {eb pb b : Nat} {x : EntP} {r : Rd} {sv fv jv : Value}
theorem DecAt.pAnyR (h : DecAt fx w0 eb pb b x r sv fv jv W) (hg : W.grownBy W' sv.ownBlock) : W'.cell? ⟨pb, 0, none⟩ = some (.pointer (some ⟨b, 0, none⟩)) := by
  have := (hg.block _ (lt_of_cells h.ptr) (fun e => own_neb h.own.rc h.ptr (by decide) e.symm)).trans h.ptr
  simp [World.cell?, this]
theorem DecAt.eAnyR (h : DecAt fx w0 eb pb b x r sv fv jv W) (hg : W.grownBy W' sv.ownBlock) : W'.heap[eb]? = some (.cells (entC x sv fv jv).toArray 32 (0, 0)) :=
  (hg.block _ (lt_of_cells h.ent) (fun e => own_neb h.own.rc h.ent (by decide) e.symm)).trans h.ent
theorem DecAt.pAnyF (h : DecAt fx w0 eb pb b x r sv fv jv W) (hg : W.grownBy W' fv.ownBlock) : W'.cell? ⟨pb, 0, none⟩ = some (.pointer (some ⟨b, 0, none⟩)) := by
  have := (hg.block _ (lt_of_cells h.ptr) (fun e => own_neb h.own.fa h.ptr (by decide) e.symm)).trans h.ptr
  simp [World.cell?, this]
theorem DecAt.eAnyF (h : DecAt fx w0 eb pb b x r sv fv jv W) (hg : W.grownBy W' fv.ownBlock) : W'.heap[eb]? = some (.cells (entC x sv fv jv).toArray 32 (0, 0)) :=
  (hg.block _ (lt_of_cells h.ent) (fun e => own_neb h.own.fa h.ent (by decide) e.symm)).trans h.ent
end
theorem enterDec1 : ∀ args w, (callFunc 65 args).run Tryz.prog w = .ok (.enter 65 args) w := enters_of Tryz.func65 (by kernel_rfl) rfl
def addRf (x : EntP) (q : RcP × FaP) : EntP := { x with mail := { x.mail with rcpts := x.mail.rcpts ++ [q.1] }, fates := x.fates ++ [q.2] }
set_option maxRecDepth 100000 in
set_option maxHeartbeats 16000000 in
theorem dec1_any (fx : Option (Nat × Value)) (w0 : World) (eb pb b : Nat) (x : EntP) (r : Rd) (sv fv jv : Value) (w : World) (h : DecAt fx w0 eb pb b x r sv fv jv w) (hE : Env8 w0) (hs : r.s.length ≤ 1000000000) (hj1 : x.mail.rcpts.length ≤ 1000) (hj2 : x.fates.length ≤ 1000) :
    Calls Tryz.prog 65 #[.func (.func 63) #[.pointer (some ⟨b, 0, none⟩)] #[], .func (.func 64) #[.pointer (some ⟨b, 0, none⟩)] #[], .pointer (some ⟨eb, 0, none⟩), .pointer (some ⟨pb, 0, none⟩)] w fun e w' => e = .returned (.tuple #[]) ∧ ∃ sv' fv', DecAt fx w0 eb pb b (addRf x (rdRf r).1) (rdRf r).2 sv' fv' jv w' := by
  obtain ⟨ir, hir, hir0, hir1, hir2⟩ := info_parts infoRc
  obtain ⟨ii, hii, hii0, hii1, hii2⟩ := info_parts infoF
  obtain ⟨p1, c1, rfl⟩ := own_shape h.own.rc
  obtain ⟨p2, c2, rfl⟩ := own_shape h.own.fa
  have hT1 : ∀ W, DecAt fx w0 eb pb b x r (.slice p1 x.mail.rcpts.length c1) (.slice p2 x.fates.length c2) jv W → Calls Tryz.prog 63 #[.pointer (some ⟨b, 0, none⟩)] W (RdPost w0 b (.string ⟨(rdText r).1.toArray⟩) (rdText r).2 W) := fun W hD => rtext_any w0 b r W hD.rdAt hE hs
  have l1 := rdText_len r
  have hrj : rdRf r = ((((rdText r).1, (rdYes (rdText r).2).1), ((rdNum 2 (rdYes (rdText r).2).2).1, (rdText (rdNum 2 (rdYes (rdText r).2).2).2).1)), (rdText (rdNum 2 (rdYes (rdText r).2).2).2).2) := rfl
  rw [hrj]
  clear hrj
  unfold addRf
  generalize rdText r = q1 at hT1 l1 ⊢
  obtain ⟨t1, r1⟩ := q1
  dsimp only at hT1 l1 ⊢
  have hY : ∀ W, DecAt fx w0 eb pb b x r1 (.slice p1 x.mail.rcpts.length c1) (.slice p2 x.fates.length c2) jv W → Calls Tryz.prog 64 #[.pointer (some ⟨b, 0, none⟩)] W (RdPost w0 b (.bool (rdYes r1).1) (rdYes r1).2 W) := fun W hD => ryes_any w0 b r1 W hD.rdAt hE (by omega)
  have l2 : (rdYes r1).2.s.length ≤ r1.s.length := rdNum_len 1 r1
  generalize rdYes r1 = q2 at hY l2 ⊢
  obtain ⟨yy, r2⟩ := q2
  dsimp only at hY l2 ⊢
  have hN : ∀ sv W, DecAt fx w0 eb pb b { x with mail := { x.mail with rcpts := x.mail.rcpts ++ [(t1, yy)] } } r2 sv (.slice p2 x.fates.length c2) jv W → Calls Tryz.prog 62 #[.pointer (some ⟨b, 0, none⟩), .int .i64 2] W (RdPost w0 b (.int .i64 ((rdNum 2 r2).1 : Int)) (rdNum 2 r2).2 W) := fun sv W hD => rnum_any w0 b r2 2 W hD.rdAt hE (by omega) (by decide)
  have l3 := rdNum_len 2 r2
  have hn2 := num_le 2 r2
  generalize rdNum 2 r2 = q3 at hN l3 hn2 ⊢
  obtain ⟨n, r3⟩ := q3
  dsimp only at hN l3 hn2 ⊢
  have hT2 : ∀ sv W, DecAt fx w0 eb pb b { x with mail := { x.mail with rcpts := x.mail.rcpts ++ [(t1, yy)] } } r3 sv (.slice p2 x.fates.length c2) jv W → Calls Tryz.prog 63 #[.pointer (some ⟨b, 0, none⟩)] W (RdPost w0 b (.string ⟨(rdText r3).1.toArray⟩) (rdText r3).2 W) := fun sv W hD => rtext_any w0 b r3 W hD.rdAt hE (by omega)
  generalize rdText r3 = q4 at hT2 ⊢
  obtain ⟨t2, r4⟩ := q4
  dsimp only at hT2 ⊢
  have hu8 : IntKind.u8.wrap (n : Int) = (n : Int) := by
    match n, hn2 with
    | 0, _ => rfl
    | 1, _ => rfl
    | 2, _ => rfl
  clear hs l1 l2 l3 hE
  go_enter Tryz.func65, Tryz.ntmps65
  go_upto_region 0 with (fail)
  go_cut [] (fun w' => ∃ sv', DecAt fx w0 eb pb b { x with mail := { x.mail with rcpts := x.mail.rcpts ++ [(t1, yy)] } } r2 sv' (.slice p2 x.fates.length c2) jv w')
  case first =>
    have haD0 := h.keep (below_drew w)
    have ay0 := haD0.c3
    refine wp_region_held_drew (S := fun W => W.cell? ⟨pb, 0, none⟩ = some (.pointer (some ⟨b, 0, none⟩))) (by kernel_rfl) haD0.p (fun hHeld => ?_)
    refine wpAnyH_take (i := 0) (oi := ?oiz1) (v := ?vz1) ?h1z1 (by kernel_rfl) (by kernel_rfl) (by kernel_rfl) ?h2z1 ?hyz1 (by assumption) ?restz1
    case h1z1 => first | rfl | (simp only [List.getElem?_toArray, List.getElem?_cons_succ, List.getElem?_cons_zero]; try rfl)
    case h2z1 => exact fun _ _ _ h => h
    case hyz1 => (refine Or.inl ⟨by rfl, ?_⟩; intro w hSw; (try dsimp only at hSw); go_simp; (try with_reducible rfl))
    try simp only [Act.put, List.setIfInBounds_toArray]
    refine wpAnyH_take (i := 1) (oi := ?oiz2) (v := ?vz2) ?h1z2 (by kernel_rfl) (by kernel_rfl) (by kernel_rfl) ?h2z2 ?hyz2 (by assumption) ?restz2
    case h1z2 => first | rfl | (simp only [List.getElem?_toArray, List.getElem?_cons_succ, List.getElem?_cons_zero]; try rfl)
    case h2z2 => exact fun _ _ _ h => h
    case hyz2 => (refine Or.inl ⟨by rfl, ?_⟩; intro w hSw; (try dsimp only at hSw); go_simp; (try with_reducible rfl))
    try simp only [Act.put]
    refine wpAnyH_take (i := 3) (oi := ?oiz3) (v := ?vz3) ?h1z3 (by kernel_rfl) (by kernel_rfl) (by kernel_rfl) ?h2z3 ?hyz3 (by assumption) ?restz3
    case h1z3 => first | rfl | (simp only [List.getElem?_toArray, List.getElem?_cons_succ, List.getElem?_cons_zero]; try rfl)
    case h2z3 => exact fun _ _ _ h => h
    case hyz3 => (refine Or.inl ⟨by rfl, ?_⟩; intro w hSw; (try dsimp only at hSw); go_simp; (try with_reducible rfl))
    try simp only [Act.put]
    refine wpAnyH_take (i := 5) (oi := ?oiz4) (v := ?vz4) ?h1z4 (by kernel_rfl) (by kernel_rfl) (by kernel_rfl) ?h2z4 ?hyz4 (by assumption) ?restz4
    case h1z4 => first | rfl | (simp only [List.getElem?_toArray, List.getElem?_cons_succ, List.getElem?_cons_zero]; try rfl)
    case h2z4 => exact fun _ _ _ h => h
    case hyz4 => (refine Or.inl ⟨by rfl, ?_⟩; intro w hSw; (try dsimp only at hSw); go_simp; (try with_reducible rfl))
    try simp only [Act.put]
    refine wpAnyH_ready (rs := [2, 4]) (by kernel_rfl) (by simp) ?_
    refine (AllReadyH.cons (o := ?oiz35) ?h1z35 (fun K hK => ?restz35) (AllReadyH.cons (o := ?oiz36) ?h1z36 (fun K hK => ?restz36) AllReadyH.nil))
    case h1z35 => first | rfl | (simp only [List.getElem?_toArray, List.getElem?_cons_succ, List.getElem?_cons_zero]; try rfl)
    case h1z36 => first | rfl | (simp only [List.getElem?_toArray, List.getElem?_cons_succ, List.getElem?_cons_zero]; try rfl)
    case restz35 =>
      go_simp
      refine hK.out _ _ haD0.p (fun hHeld => ?_)
      clear hK K
      try simp only [Act.put, List.setIfInBounds_toArray, List.set_cons_zero, List.set_cons_succ]
      refine wpAnyH_ready (rs := [4]) (by kernel_rfl) (by simp) ?_
      refine (AllReadyH.cons (o := ?oiz34) ?h1z34 (fun K hK => ?restz34) AllReadyH.nil)
      case h1z34 => first | rfl | (simp only [List.getElem?_toArray, List.getElem?_cons_succ, List.getElem?_cons_zero]; try rfl)
      case restz34 =>
        go_simp
        go_at_call 63
        refine (hT1 _ haD0).mono ?_
        rintro e aw1 ⟨rfl, hR1, hg1⟩
        have haD1 := haD0.reads hg1 hR1
        have ay1 := haD1.c3
        refine hK.out _ _ haD1.p (fun hHeld => ?_)
        clear hK K
        try simp only [Act.put, List.setIfInBounds_toArray, List.set_cons_zero, List.set_cons_succ]
        refine wpAnyH_ready (rs := [6]) (by kernel_rfl) (by simp) ?_
        refine (AllReadyH.cons (o := ?oiz33) ?h1z33 (fun K hK => ?restz33) AllReadyH.nil)
        case h1z33 => first | rfl | (simp only [List.getElem?_toArray, List.getElem?_cons_succ, List.getElem?_cons_zero]; try rfl)
        case restz33 =>
          go_simp
          go_at_call 64
          refine (hY _ haD1).mono ?_
          rintro e aw2 ⟨rfl, hR2, hg2⟩
          have haD2 := haD1.reads hg2 hR2
          have ay2 := haD2.c3
          refine hK.out _ _ haD2.p (fun hHeld => ?_)
          clear hK K
          try simp only [Act.put, List.setIfInBounds_toArray, List.set_cons_zero, List.set_cons_succ]
          refine wpAnyH_take (i := 7) (oi := ?oiz27) (v := ?vz27) ?h1z27 (by kernel_rfl) (by kernel_rfl) (by kernel_rfl) ?h2z27 ?hyz27 (by assumption) ?restz27
          case h1z27 => first | rfl | (simp only [List.getElem?_toArray, List.getElem?_cons_succ, List.getElem?_cons_zero]; try rfl)
          case h2z27 => exact fun _ _ _ h => h
          case hyz27 => (refine Or.inl ⟨by rfl, ?_⟩; intro w hSw; (try dsimp only at hSw); go_simp; (try with_reducible rfl))
          try simp only [Act.put, List.setIfInBounds_toArray]
          refine wpAnyH_ready (rs := [8]) (by kernel_rfl) (by simp) ?_
          refine (AllReadyH.cons (o := ?oiz32) ?h1z32 (fun K hK => ?restz32) AllReadyH.nil)
          case h1z32 => first | rfl | (simp only [List.getElem?_toArray, List.getElem?_cons_succ, List.getElem?_cons_zero]; try rfl)
          case restz32 =>
            go_simp
            have haD3 := haD2.keep (W' := aw2.alloc (.cells #[.string ⟨t1.toArray⟩, .bool yy] 57)) ((Below.refl _ _).alloc (Nat.le_refl _) _)
            have ay3 := haD3.c3
            refine hK.out _ _ haD3.p (fun hHeld => ?_)
            clear hK K
            try simp only [Act.put, List.setIfInBounds_toArray, List.set_cons_zero, List.set_cons_succ]
            refine wpAnyH_ready (rs := [9]) (by kernel_rfl) (by simp) ?_
            refine (AllReadyH.cons (o := ?oiz31) ?h1z31 (fun K hK => ?restz31) AllReadyH.nil)
            case h1z31 => first | rfl | (simp only [List.getElem?_toArray, List.getElem?_cons_succ, List.getElem?_cons_zero]; try rfl)
            case restz31 =>
              refine step_append_any (P := Tryz.prog) rfl _ _ _ rfl w0.heap.size 57 ir (.agg #[.string ⟨#[]⟩, .bool false]) 2 24 Tryz.underlying22 hir hir0 hir1 hir2 rfl (by decide) _ x.mail.rcpts.length (x.mail.rcpts.flatMap rcE) rfl haD3.own.rc _ _ 1 [.string ⟨t1.toArray⟩, .bool yy] rfl (Or.inr ⟨⟨aw2.heap.size, 0, none⟩, 1, rfl, fun _ => (show aw2.heap.size < aw2.heap.size + 1 by omega), cell_list (cs := [.string ⟨t1.toArray⟩, .bool yy]) rfl⟩) rfl (by simp [Value.oneCell']) (by unfold maxLen; omega) (by omega) haD3.below.size ?_
              intro v' w9 ho9 hg9 _ _
              have hp9 := haD3.pAnyR hg9
              have he9 := haD3.eAnyR hg9
              have hZ := haD3.addRcpt hg9 (q := (t1, yy)) ho9
              obtain ⟨p9, c9, rfl⟩ := own_shape ho9
              have y9 := ent3 he9
              have f9 := efroz he9 3
              refine hK.out _ _ hp9 (fun hHeld => ?_)
              clear hK K
              try simp only [Act.put, List.setIfInBounds_toArray]
              refine wpAnyH_take (i := 10) (oi := ?oiz28) (v := ?vz28) ?h1z28 (by kernel_rfl) (by kernel_rfl) (by kernel_rfl) ?h2z28 ?hyz28 (by assumption) ?restz28
              case h1z28 => first | rfl | (simp only [List.getElem?_toArray, List.getElem?_cons_succ, List.getElem?_cons_zero]; try rfl)
              case h2z28 => exact fun _ _ _ h => h
              case hyz28 => (refine Or.inl ⟨by rfl, ?_⟩; intro w hSw; (try dsimp only at hSw); go_simp; (try with_reducible rfl))
              try simp only [Act.put]
              refine wpAnyH_take (i := 11) (oi := ?oiz29) (v := ?vz29) ?h1z29 (by kernel_rfl) (by kernel_rfl) (by kernel_rfl) ?h2z29 ?hyz29 (by assumption) ?restz29
              case h1z29 => first | rfl | (simp only [List.getElem?_toArray, List.getElem?_cons_succ, List.getElem?_cons_zero]; try rfl)
              case h2z29 => exact fun _ _ _ h => h
              case hyz29 => (refine Or.inl ⟨by rfl, ?_⟩; intro w hSw; (try dsimp only at hSw); go_simp; (try with_reducible rfl))
              try simp only [Act.put]
              refine wpAnyH_ready (rs := [12]) (by kernel_rfl) (by simp) ?_
              refine (AllReadyH.cons (o := ?oiz30) ?h1z30 (fun K hK => ?restz30) AllReadyH.nil)
              case h1z30 => first | rfl | (simp only [List.getElem?_toArray, List.getElem?_cons_succ, List.getElem?_cons_zero]; try rfl)
              case restz30 =>
                go_simp
                refine hK.out _ _ hZ.p (fun hHeld => ?_)
                clear hK K
                try simp only [Act.put, List.setIfInBounds_toArray, List.set_cons_zero, List.set_cons_succ]
                refine wpAnyH_done (by kernel_rfl) ?_ _
                have HZ := Lib.hid hZ
                clear hZ y9 f9 he9 hp9
                go_wp2
                go_meet
                case rel => exact ⟨_, HZ.out⟩
    case restz36 =>
      go_simp
      go_at_call 63
      refine (hT1 _ haD0).mono ?_
      rintro e aw1 ⟨rfl, hR1, hg1⟩
      have haD1 := haD0.reads hg1 hR1
      have ay1 := haD1.c3
      refine hK.out _ _ haD1.p (fun hHeld => ?_)
      clear hK K
      try simp only [Act.put, List.setIfInBounds_toArray, List.set_cons_zero, List.set_cons_succ]
      refine wpAnyH_ready (rs := [2, 6]) (by kernel_rfl) (by simp) ?_
      refine (AllReadyH.cons (o := ?oiz25) ?h1z25 (fun K hK => ?restz25) (AllReadyH.cons (o := ?oiz26) ?h1z26 (fun K hK => ?restz26) AllReadyH.nil))
      case h1z25 => first | rfl | (simp only [List.getElem?_toArray, List.getElem?_cons_succ, List.getElem?_cons_zero]; try rfl)
      case h1z26 => first | rfl | (simp only [List.getElem?_toArray, List.getElem?_cons_succ, List.getElem?_cons_zero]; try rfl)
      case restz25 =>
        go_simp
        refine hK.out _ _ haD1.p (fun hHeld => ?_)
        clear hK K
        try simp only [Act.put, List.setIfInBounds_toArray, List.set_cons_zero, List.set_cons_succ]
        refine wpAnyH_ready (rs := [6]) (by kernel_rfl) (by simp) ?_
        refine (AllReadyH.cons (o := ?oiz24) ?h1z24 (fun K hK => ?restz24) AllReadyH.nil)
        case h1z24 => first | rfl | (simp only [List.getElem?_toArray, List.getElem?_cons_succ, List.getElem?_cons_zero]; try rfl)
        case restz24 =>
          go_simp
          go_at_call 64
          refine (hY _ haD1).mono ?_
          rintro e aw2 ⟨rfl, hR2, hg2⟩
          have haD2 := haD1.reads hg2 hR2
          have ay2 := haD2.c3
          refine hK.out _ _ haD2.p (fun hHeld => ?_)
          clear hK K
          try simp only [Act.put, List.setIfInBounds_toArray, List.set_cons_zero, List.set_cons_succ]
          refine wpAnyH_take (i := 7) (oi := ?oiz18) (v := ?vz18) ?h1z18 (by kernel_rfl) (by kernel_rfl) (by kernel_rfl) ?h2z18 ?hyz18 (by assumption) ?restz18
          case h1z18 => first | rfl | (simp only [List.getElem?_toArray, List.getElem?_cons_succ, List.getElem?_cons_zero]; try rfl)
          case h2z18 => exact fun _ _ _ h => h
          case hyz18 => (refine Or.inl ⟨by rfl, ?_⟩; intro w hSw; (try dsimp only at hSw); go_simp; (try with_reducible rfl))
          try simp only [Act.put, List.setIfInBounds_toArray]
          refine wpAnyH_ready (rs := [8]) (by kernel_rfl) (by simp) ?_
          refine (AllReadyH.cons (o := ?oiz23) ?h1z23 (fun K hK => ?restz23) AllReadyH.nil)
          case h1z23 => first | rfl | (simp only [List.getElem?_toArray, List.getElem?_cons_succ, List.getElem?_cons_zero]; try rfl)
          case restz23 =>
            go_simp
            have haD3 := haD2.keep (W' := aw2.alloc (.cells #[.string ⟨t1.toArray⟩, .bool yy] 57)) ((Below.refl _ _).alloc (Nat.le_refl _) _)
            have ay3 := haD3.c3
            refine hK.out _ _ haD3.p (fun hHeld => ?_)
            clear hK K
            try simp only [Act.put, List.setIfInBounds_toArray, List.set_cons_zero, List.set_cons_succ]
            refine wpAnyH_ready (rs := [9]) (by kernel_rfl) (by simp) ?_
            refine (AllReadyH.cons (o := ?oiz22) ?h1z22 (fun K hK => ?restz22) AllReadyH.nil)
            case h1z22 => first | rfl | (simp only [List.getElem?_toArray, List.getElem?_cons_succ, List.getElem?_cons_zero]; try rfl)
            case restz22 =>
              refine step_append_any (P := Tryz.prog) rfl _ _ _ rfl w0.heap.size 57 ir (.agg #[.string ⟨#[]⟩, .bool false]) 2 24 Tryz.underlying22 hir hir0 hir1 hir2 rfl (by decide) _ x.mail.rcpts.length (x.mail.rcpts.flatMap rcE) rfl haD3.own.rc _ _ 1 [.string ⟨t1.toArray⟩, .bool yy] rfl (Or.inr ⟨⟨aw2.heap.size, 0, none⟩, 1, rfl, fun _ => (show aw2.heap.size < aw2.heap.size + 1 by omega), cell_list (cs := [.string ⟨t1.toArray⟩, .bool yy]) rfl⟩) rfl (by simp [Value.oneCell']) (by unfold maxLen; omega) (by omega) haD3.below.size ?_
              intro v' w9 ho9 hg9 _ _
              have hp9 := haD3.pAnyR hg9
              have he9 := haD3.eAnyR hg9
              have hZ := haD3.addRcpt hg9 (q := (t1, yy)) ho9
              obtain ⟨p9, c9, rfl⟩ := own_shape ho9
              have y9 := ent3 he9
              have f9 := efroz he9 3
              refine hK.out _ _ hp9 (fun hHeld => ?_)
              clear hK K
              try simp only [Act.put, List.setIfInBounds_toArray]
              refine wpAnyH_take (i := 10) (oi := ?oiz19) (v := ?vz19) ?h1z19 (by kernel_rfl) (by kernel_rfl) (by kernel_rfl) ?h2z19 ?hyz19 (by assumption) ?restz19
              case h1z19 => first | rfl | (simp only [List.getElem?_toArray, List.getElem?_cons_succ, List.getElem?_cons_zero]; try rfl)
              case h2z19 => exact fun _ _ _ h => h
              case hyz19 => (refine Or.inl ⟨by rfl, ?_⟩; intro w hSw; (try dsimp only at hSw); go_simp; (try with_reducible rfl))
              try simp only [Act.put]
              refine wpAnyH_take (i := 11) (oi := ?oiz20) (v := ?vz20) ?h1z20 (by kernel_rfl) (by kernel_rfl) (by kernel_rfl) ?h2z20 ?hyz20 (by assumption) ?restz20
              case h1z20 => first | rfl | (simp only [List.getElem?_toArray, List.getElem?_cons_succ, List.getElem?_cons_zero]; try rfl)
              case h2z20 => exact fun _ _ _ h => h
              case hyz20 => (refine Or.inl ⟨by rfl, ?_⟩; intro w hSw; (try dsimp only at hSw); go_simp; (try with_reducible rfl))
              try simp only [Act.put]
              refine wpAnyH_ready (rs := [12]) (by kernel_rfl) (by simp) ?_
              refine (AllReadyH.cons (o := ?oiz21) ?h1z21 (fun K hK => ?restz21) AllReadyH.nil)
              case h1z21 => first | rfl | (simp only [List.getElem?_toArray, List.getElem?_cons_succ, List.getElem?_cons_zero]; try rfl)
              case restz21 =>
                go_simp
                refine hK.out _ _ hZ.p (fun hHeld => ?_)
                clear hK K
                try simp only [Act.put, List.setIfInBounds_toArray, List.set_cons_zero, List.set_cons_succ]
                refine wpAnyH_done (by kernel_rfl) ?_ _
                have HZ := Lib.hid hZ
                clear hZ y9 f9 he9 hp9
                go_wp2
                go_meet
                case rel => exact ⟨_, HZ.out⟩
      case restz26 =>
        go_simp
        go_at_call 64
        refine (hY _ haD1).mono ?_
        rintro e aw2 ⟨rfl, hR2, hg2⟩
        have haD2 := haD1.reads hg2 hR2
        have ay2 := haD2.c3
        refine hK.out _ _ haD2.p (fun hHeld => ?_)
        clear hK K
        try simp only [Act.put, List.setIfInBounds_toArray, List.set_cons_zero, List.set_cons_succ]
        refine wpAnyH_take (i := 7) (oi := ?oiz5) (v := ?vz5) ?h1z5 (by kernel_rfl) (by kernel_rfl) (by kernel_rfl) ?h2z5 ?hyz5 (by assumption) ?restz5
        case h1z5 => first | rfl | (simp only [List.getElem?_toArray, List.getElem?_cons_succ, List.getElem?_cons_zero]; try rfl)
        case h2z5 => exact fun _ _ _ h => h
        case hyz5 => (refine Or.inl ⟨by rfl, ?_⟩; intro w hSw; (try dsimp only at hSw); go_simp; (try with_reducible rfl))
        try simp only [Act.put, List.setIfInBounds_toArray]
        refine wpAnyH_ready (rs := [2, 8]) (by kernel_rfl) (by simp) ?_
        refine (AllReadyH.cons (o := ?oiz16) ?h1z16 (fun K hK => ?restz16) (AllReadyH.cons (o := ?oiz17) ?h1z17 (fun K hK => ?restz17) AllReadyH.nil))
        case h1z16 => first | rfl | (simp only [List.getElem?_toArray, List.getElem?_cons_succ, List.getElem?_cons_zero]; try rfl)
        case h1z17 => first | rfl | (simp only [List.getElem?_toArray, List.getElem?_cons_succ, List.getElem?_cons_zero]; try rfl)
        case restz16 =>
          go_simp
          refine hK.out _ _ haD2.p (fun hHeld => ?_)
          clear hK K
          try simp only [Act.put, List.setIfInBounds_toArray, List.set_cons_zero, List.set_cons_succ]
          refine wpAnyH_ready (rs := [8]) (by kernel_rfl) (by simp) ?_
          refine (AllReadyH.cons (o := ?oiz15) ?h1z15 (fun K hK => ?restz15) AllReadyH.nil)
          case h1z15 => first | rfl | (simp only [List.getElem?_toArray, List.getElem?_cons_succ, List.getElem?_cons_zero]; try rfl)
          case restz15 =>
            go_simp
            have haD3 := haD2.keep (W' := aw2.alloc (.cells #[.string ⟨t1.toArray⟩, .bool yy] 57)) ((Below.refl _ _).alloc (Nat.le_refl _) _)
            have ay3 := haD3.c3
            refine hK.out _ _ haD3.p (fun hHeld => ?_)
            clear hK K
            try simp only [Act.put, List.setIfInBounds_toArray, List.set_cons_zero, List.set_cons_succ]
            refine wpAnyH_ready (rs := [9]) (by kernel_rfl) (by simp) ?_
            refine (AllReadyH.cons (o := ?oiz14) ?h1z14 (fun K hK => ?restz14) AllReadyH.nil)
            case h1z14 => first | rfl | (simp only [List.getElem?_toArray, List.getElem?_cons_succ, List.getElem?_cons_zero]; try rfl)
            case restz14 =>
              refine step_append_any (P := Tryz.prog) rfl _ _ _ rfl w0.heap.size 57 ir (.agg #[.string ⟨#[]⟩, .bool false]) 2 24 Tryz.underlying22 hir hir0 hir1 hir2 rfl (by decide) _ x.mail.rcpts.length (x.mail.rcpts.flatMap rcE) rfl haD3.own.rc _ _ 1 [.string ⟨t1.toArray⟩, .bool yy] rfl (Or.inr ⟨⟨aw2.heap.size, 0, none⟩, 1, rfl, fun _ => (show aw2.heap.size < aw2.heap.size + 1 by omega), cell_list (cs := [.string ⟨t1.toArray⟩, .bool yy]) rfl⟩) rfl (by simp [Value.oneCell']) (by unfold maxLen; omega) (by omega) haD3.below.size ?_
              intro v' w9 ho9 hg9 _ _
              have hp9 := haD3.pAnyR hg9
              have he9 := haD3.eAnyR hg9
              have hZ := haD3.addRcpt hg9 (q := (t1, yy)) ho9
              obtain ⟨p9, c9, rfl⟩ := own_shape ho9
              have y9 := ent3 he9
              have f9 := efroz he9 3
              refine hK.out _ _ hp9 (fun hHeld => ?_)
              clear hK K
              try simp only [Act.put, List.setIfInBounds_toArray]
              refine wpAnyH_take (i := 10) (oi := ?oiz11) (v := ?vz11) ?h1z11 (by kernel_rfl) (by kernel_rfl) (by kernel_rfl) ?h2z11 ?hyz11 (by assumption) ?restz11
              case h1z11 => first | rfl | (simp only [List.getElem?_toArray, List.getElem?_cons_succ, List.getElem?_cons_zero]; try rfl)
              case h2z11 => exact fun _ _ _ h => h
              case hyz11 => (refine Or.inl ⟨by rfl, ?_⟩; intro w hSw; (try dsimp only at hSw); go_simp; (try with_reducible rfl))
              try simp only [Act.put]
              refine wpAnyH_take (i := 11) (oi := ?oiz12) (v := ?vz12) ?h1z12 (by kernel_rfl) (by kernel_rfl) (by kernel_rfl) ?h2z12 ?hyz12 (by assumption) ?restz12
              case h1z12 => first | rfl | (simp only [List.getElem?_toArray, List.getElem?_cons_succ, List.getElem?_cons_zero]; try rfl)
              case h2z12 => exact fun _ _ _ h => h
              case hyz12 => (refine Or.inl ⟨by rfl, ?_⟩; intro w hSw; (try dsimp only at hSw); go_simp; (try with_reducible rfl))
              try simp only [Act.put]
              refine wpAnyH_ready (rs := [12]) (by kernel_rfl) (by simp) ?_
              refine (AllReadyH.cons (o := ?oiz13) ?h1z13 (fun K hK => ?restz13) AllReadyH.nil)
              case h1z13 => first | rfl | (simp only [List.getElem?_toArray, List.getElem?_cons_succ, List.getElem?_cons_zero]; try rfl)
              case restz13 =>
                go_simp
                refine hK.out _ _ hZ.p (fun hHeld => ?_)
                clear hK K
                try simp only [Act.put, List.setIfInBounds_toArray, List.set_cons_zero, List.set_cons_succ]
                refine wpAnyH_done (by kernel_rfl) ?_ _
                have HZ := Lib.hid hZ
                clear hZ y9 f9 he9 hp9
                go_wp2
                go_meet
                case rel => exact ⟨_, HZ.out⟩
        case restz17 =>
          go_simp
          have haD3 := haD2.keep (W' := aw2.alloc (.cells #[.string ⟨t1.toArray⟩, .bool yy] 57)) ((Below.refl _ _).alloc (Nat.le_refl _) _)
          have ay3 := haD3.c3
          refine hK.out _ _ haD3.p (fun hHeld => ?_)
          clear hK K
          try simp only [Act.put, List.setIfInBounds_toArray, List.set_cons_zero, List.set_cons_succ]
          refine wpAnyH_ready (rs := [2]) (by kernel_rfl) (by simp) ?_
          refine (AllReadyH.cons (o := ?oiz10) ?h1z10 (fun K hK => ?restz10) AllReadyH.nil)
          case h1z10 => first | rfl | (simp only [List.getElem?_toArray, List.getElem?_cons_succ, List.getElem?_cons_zero]; try rfl)
          case restz10 =>
            go_simp
            refine hK.out _ _ haD3.p (fun hHeld => ?_)
            clear hK K
            try simp only [Act.put, List.setIfInBounds_toArray, List.set_cons_zero, List.set_cons_succ]
            refine wpAnyH_ready (rs := [9]) (by kernel_rfl) (by simp) ?_
            refine (AllReadyH.cons (o := ?oiz9) ?h1z9 (fun K hK => ?restz9) AllReadyH.nil)
            case h1z9 => first | rfl | (simp only [List.getElem?_toArray, List.getElem?_cons_succ, List.getElem?_cons_zero]; try rfl)
            case restz9 =>
              refine step_append_any (P := Tryz.prog) rfl _ _ _ rfl w0.heap.size 57 ir (.agg #[.string ⟨#[]⟩, .bool false]) 2 24 Tryz.underlying22 hir hir0 hir1 hir2 rfl (by decide) _ x.mail.rcpts.length (x.mail.rcpts.flatMap rcE) rfl haD3.own.rc _ _ 1 [.string ⟨t1.toArray⟩, .bool yy] rfl (Or.inr ⟨⟨aw2.heap.size, 0, none⟩, 1, rfl, fun _ => (show aw2.heap.size < aw2.heap.size + 1 by omega), cell_list (cs := [.string ⟨t1.toArray⟩, .bool yy]) rfl⟩) rfl (by simp [Value.oneCell']) (by unfold maxLen; omega) (by omega) haD3.below.size ?_
              intro v' w9 ho9 hg9 _ _
              have hp9 := haD3.pAnyR hg9
              have he9 := haD3.eAnyR hg9
              have hZ := haD3.addRcpt hg9 (q := (t1, yy)) ho9
              obtain ⟨p9, c9, rfl⟩ := own_shape ho9
              have y9 := ent3 he9
              have f9 := efroz he9 3
              refine hK.out _ _ hp9 (fun hHeld => ?_)
              clear hK K
              try simp only [Act.put, List.setIfInBounds_toArray]
              refine wpAnyH_take (i := 10) (oi := ?oiz6) (v := ?vz6) ?h1z6 (by kernel_rfl) (by kernel_rfl) (by kernel_rfl) ?h2z6 ?hyz6 (by assumption) ?restz6
              case h1z6 => first | rfl | (simp only [List.getElem?_toArray, List.getElem?_cons_succ, List.getElem?_cons_zero]; try rfl)
              case h2z6 => exact fun _ _ _ h => h
              case hyz6 => (refine Or.inl ⟨by rfl, ?_⟩; intro w hSw; (try dsimp only at hSw); go_simp; (try with_reducible rfl))
              try simp only [Act.put]
              refine wpAnyH_take (i := 11) (oi := ?oiz7) (v := ?vz7) ?h1z7 (by kernel_rfl) (by kernel_rfl) (by kernel_rfl) ?h2z7 ?hyz7 (by assumption) ?restz7
              case h1z7 => first | rfl | (simp only [List.getElem?_toArray, List.getElem?_cons_succ, List.getElem?_cons_zero]; try rfl)
              case h2z7 => exact fun _ _ _ h => h
              case hyz7 => (refine Or.inl ⟨by rfl, ?_⟩; intro w hSw; (try dsimp only at hSw); go_simp; (try with_reducible rfl))
              try simp only [Act.put]
              refine wpAnyH_ready (rs := [12]) (by kernel_rfl) (by simp) ?_
              refine (AllReadyH.cons (o := ?oiz8) ?h1z8 (fun K hK => ?restz8) AllReadyH.nil)
              case h1z8 => first | rfl | (simp only [List.getElem?_toArray, List.getElem?_cons_succ, List.getElem?_cons_zero]; try rfl)
              case restz8 =>
                go_simp
                refine hK.out _ _ hZ.p (fun hHeld => ?_)
                clear hK K
                try simp only [Act.put, List.setIfInBounds_toArray, List.set_cons_zero, List.set_cons_succ]
                refine wpAnyH_done (by kernel_rfl) ?_ _
                have HZ := Lib.hid hZ
                clear hZ y9 f9 he9 hp9
                go_wp2
                go_meet
                case rel => exact ⟨_, HZ.out⟩
  case rest =>
    obtain ⟨sv', hD'⟩ := hcut
    have hN := hN sv'
    have hT2 := hT2 sv'
    have hbD0 := hD'.keep (below_drew _)
    have by0 := hbD0.c8
    go_upto_region 1 with (fail)
    refine wp_region_held_drew (S := fun W => W.cell? ⟨pb, 0, none⟩ = some (.pointer (some ⟨b, 0, none⟩))) (by kernel_rfl) hbD0.p (fun hHeld => ?_)
    refine wpAnyH_take (i := 0) (oi := ?oiz37) (v := ?vz37) ?h1z37 (by kernel_rfl) (by kernel_rfl) (by kernel_rfl) ?h2z37 ?hyz37 (by assumption) ?restz37
    case h1z37 => first | rfl | (simp only [List.getElem?_toArray, List.getElem?_cons_succ, List.getElem?_cons_zero]; try rfl)
    case h2z37 => exact fun _ _ _ h => h
    case hyz37 => (refine Or.inl ⟨by rfl, ?_⟩; intro w hSw; (try dsimp only at hSw); go_simp; (try with_reducible rfl))
    try simp only [Act.put, List.setIfInBounds_toArray]
    refine wpAnyH_take (i := 2) (oi := ?oiz38) (v := ?vz38) ?h1z38 (by kernel_rfl) (by kernel_rfl) (by kernel_rfl) ?h2z38 ?hyz38 (by assumption) ?restz38
    case h1z38 => first | rfl | (simp only [List.getElem?_toArray, List.getElem?_cons_succ, List.getElem?_cons_zero]; try rfl)
    case h2z38 => exact fun _ _ _ h => h
    case hyz38 => (refine Or.inl ⟨by rfl, ?_⟩; intro w hSw; (try dsimp only at hSw); go_simp; (try with_reducible rfl))
    try simp only [Act.put]
    refine wpAnyH_take (i := 5) (oi := ?oiz39) (v := ?vz39) ?h1z39 (by kernel_rfl) (by kernel_rfl) (by kernel_rfl) ?h2z39 ?hyz39 (by assumption) ?restz39
    case h1z39 => first | rfl | (simp only [List.getElem?_toArray, List.getElem?_cons_succ, List.getElem?_cons_zero]; try rfl)
    case h2z39 => exact fun _ _ _ h => h
    case hyz39 => (refine Or.inl ⟨by rfl, ?_⟩; intro w hSw; (try dsimp only at hSw); go_simp; (try with_reducible rfl))
    try simp only [Act.put]
    refine wpAnyH_ready (rs := [1, 3]) (by kernel_rfl) (by simp) ?_
    refine (AllReadyH.cons (o := ?oiz68) ?h1z68 (fun K hK => ?restz68) (AllReadyH.cons (o := ?oiz69) ?h1z69 (fun K hK => ?restz69) AllReadyH.nil))
    case h1z68 => first | rfl | (simp only [List.getElem?_toArray, List.getElem?_cons_succ, List.getElem?_cons_zero]; try rfl)
    case h1z69 => first | rfl | (simp only [List.getElem?_toArray, List.getElem?_cons_succ, List.getElem?_cons_zero]; try rfl)
    case restz68 =>
      go_simp
      refine hK.out _ _ hbD0.p (fun hHeld => ?_)
      clear hK K
      try simp only [Act.put, List.setIfInBounds_toArray, List.set_cons_zero, List.set_cons_succ]
      refine wpAnyH_ready (rs := [3]) (by kernel_rfl) (by simp) ?_
      refine (AllReadyH.cons (o := ?oiz67) ?h1z67 (fun K hK => ?restz67) AllReadyH.nil)
      case h1z67 => first | rfl | (simp only [List.getElem?_toArray, List.getElem?_cons_succ, List.getElem?_cons_zero]; try rfl)
      case restz67 =>
        go_simp
        go_at_call 62
        refine (hN _ hbD0).mono ?_
        rintro e bw1 ⟨rfl, hR1, hg1⟩
        have hbD1 := hbD0.reads hg1 hR1
        have by1 := hbD1.c8
        refine hK.out _ _ hbD1.p (fun hHeld => ?_)
        clear hK K
        try simp only [Act.put, List.setIfInBounds_toArray, List.set_cons_zero, List.set_cons_succ]
        refine wpAnyH_take (i := 4) (oi := ?oiz60) (v := (.int .u8 (n : Int))) ?h1z60 (by kernel_rfl) (by kernel_rfl) (by kernel_rfl) ?h2z60 ?hyz60 (by assumption) ?restz60
        case h1z60 => first | rfl | (simp only [List.getElem?_toArray, List.getElem?_cons_succ, List.getElem?_cons_zero]; try rfl)
        case h2z60 => exact fun _ _ _ h => h
        case hyz60 => (refine Or.inl ⟨by rfl, ?_⟩; intro w hSw; (try dsimp only at hSw); go_simp; (try with_reducible rfl))
        try simp only [Act.put, List.setIfInBounds_toArray]
        refine wpAnyH_ready (rs := [6]) (by kernel_rfl) (by simp) ?_
        refine (AllReadyH.cons (o := ?oiz66) ?h1z66 (fun K hK => ?restz66) AllReadyH.nil)
        case h1z66 => first | rfl | (simp only [List.getElem?_toArray, List.getElem?_cons_succ, List.getElem?_cons_zero]; try rfl)
        case restz66 =>
          go_simp
          go_at_call 63
          refine (hT2 _ hbD1).mono ?_
          rintro e bw2 ⟨rfl, hR2, hg2⟩
          have hbD2 := hbD1.reads hg2 hR2
          have by2 := hbD2.c8
          refine hK.out _ _ hbD2.p (fun hHeld => ?_)
          clear hK K
          try simp only [Act.put, List.setIfInBounds_toArray, List.set_cons_zero, List.set_cons_succ]
          refine wpAnyH_take (i := 7) (oi := ?oiz61) (v := ?vz61) ?h1z61 (by kernel_rfl) (by kernel_rfl) (by kernel_rfl) ?h2z61 ?hyz61 (by assumption) ?restz61
          case h1z61 => first | rfl | (simp only [List.getElem?_toArray, List.getElem?_cons_succ, List.getElem?_cons_zero]; try rfl)
          case h2z61 => exact fun _ _ _ h => h
          case hyz61 => (refine Or.inl ⟨by rfl, ?_⟩; intro w hSw; (try dsimp only at hSw); go_simp; (try with_reducible rfl))
          try simp only [Act.put, List.setIfInBounds_toArray]
          refine wpAnyH_ready (rs := [8]) (by kernel_rfl) (by simp) ?_
          refine (AllReadyH.cons (o := ?oiz65) ?h1z65 (fun K hK => ?restz65) AllReadyH.nil)
          case h1z65 => first | rfl | (simp only [List.getElem?_toArray, List.getElem?_cons_succ, List.getElem?_cons_zero]; try rfl)
          case restz65 =>
            go_simp
            have hbD3 := hbD2.keep (W' := bw2.alloc (.cells #[.int .u8 (n : Int), .string ⟨t2.toArray⟩] 42)) ((Below.refl _ _).alloc (Nat.le_refl _) _)
            have by3 := hbD3.c8
            refine hK.out _ _ hbD3.p (fun hHeld => ?_)
            clear hK K
            try simp only [Act.put, List.setIfInBounds_toArray, List.set_cons_zero, List.set_cons_succ]
            refine wpAnyH_ready (rs := [9]) (by kernel_rfl) (by simp) ?_
            refine (AllReadyH.cons (o := ?oiz64) ?h1z64 (fun K hK => ?restz64) AllReadyH.nil)
            case h1z64 => first | rfl | (simp only [List.getElem?_toArray, List.getElem?_cons_succ, List.getElem?_cons_zero]; try rfl)
            case restz64 =>
              refine step_append_any (P := Tryz.prog) rfl _ _ _ rfl w0.heap.size 42 ii (.agg #[.int .u8 0, .string ⟨#[]⟩]) 2 24 Tryz.underlying25 hii hii0 hii1 hii2 rfl (by decide) _ x.fates.length (x.fates.flatMap faE) rfl hbD3.own.fa _ _ 1 [.int .u8 (n : Int), .string ⟨t2.toArray⟩] rfl (Or.inr ⟨⟨bw2.heap.size, 0, none⟩, 1, rfl, fun _ => (show bw2.heap.size < bw2.heap.size + 1 by omega), cell_list (cs := [.int .u8 (n : Int), .string ⟨t2.toArray⟩]) rfl⟩) rfl (by simp [Value.oneCell']) (by unfold maxLen; omega) (by omega) hbD3.below.size ?_
              intro v' w9 ho9 hg9 _ _
              have hp9 := hbD3.pAnyF hg9
              have he9 := hbD3.eAnyF hg9
              have hZ := hbD3.addFate hg9 (f := (n, t2)) ho9
              obtain ⟨p9, c9, rfl⟩ := own_shape ho9
              have y9 := ent8 he9
              have f9 := efroz he9 8
              refine hK.out _ _ hp9 (fun hHeld => ?_)
              clear hK K
              try simp only [Act.put, List.setIfInBounds_toArray]
              refine wpAnyH_take (i := 10) (oi := ?oiz62) (v := ?vz62) ?h1z62 (by kernel_rfl) (by kernel_rfl) (by kernel_rfl) ?h2z62 ?hyz62 (by assumption) ?restz62
              case h1z62 => first | rfl | (simp only [List.getElem?_toArray, List.getElem?_cons_succ, List.getElem?_cons_zero]; try rfl)
              case h2z62 => exact fun _ _ _ h => h
              case hyz62 => (refine Or.inl ⟨by rfl, ?_⟩; intro w hSw; (try dsimp only at hSw); go_simp; (try with_reducible rfl))
              try simp only [Act.put]
              refine wpAnyH_ready (rs := [11]) (by kernel_rfl) (by simp) ?_
              refine (AllReadyH.cons (o := ?oiz63) ?h1z63 (fun K hK => ?restz63) AllReadyH.nil)
              case h1z63 => first | rfl | (simp only [List.getElem?_toArray, List.getElem?_cons_succ, List.getElem?_cons_zero]; try rfl)
              case restz63 =>
                go_simp
                refine hK.out _ _ hZ.p (fun hHeld => ?_)
                clear hK K
                try simp only [Act.put, List.setIfInBounds_toArray, List.set_cons_zero, List.set_cons_succ]
                refine wpAnyH_done (by kernel_rfl) ?_ _
                have HZ := Lib.hid hZ
                clear hZ y9 f9 he9 hp9
                go_wp2
                go_end0
                exact ⟨rfl, _, _, HZ.out⟩
    case restz69 =>
      go_simp
      go_at_call 62
      refine (hN _ hbD0).mono ?_
      rintro e bw1 ⟨rfl, hR1, hg1⟩
      have hbD1 := hbD0.reads hg1 hR1
      have by1 := hbD1.c8
      refine hK.out _ _ hbD1.p (fun hHeld => ?_)
      clear hK K
      try simp only [Act.put, List.setIfInBounds_toArray, List.set_cons_zero, List.set_cons_succ]
      refine wpAnyH_take (i := 4) (oi := ?oiz40) (v := (.int .u8 (n : Int))) ?h1z40 (by kernel_rfl) (by kernel_rfl) (by kernel_rfl) ?h2z40 ?hyz40 (by assumption) ?restz40
      case h1z40 => first | rfl | (simp only [List.getElem?_toArray, List.getElem?_cons_succ, List.getElem?_cons_zero]; try rfl)
      case h2z40 => exact fun _ _ _ h => h
      case hyz40 => (refine Or.inl ⟨by rfl, ?_⟩; intro w hSw; (try dsimp only at hSw); go_simp; (try with_reducible rfl))
      try simp only [Act.put, List.setIfInBounds_toArray]
      refine wpAnyH_ready (rs := [1, 6]) (by kernel_rfl) (by simp) ?_
      refine (AllReadyH.cons (o := ?oiz58) ?h1z58 (fun K hK => ?restz58) (AllReadyH.cons (o := ?oiz59) ?h1z59 (fun K hK => ?restz59) AllReadyH.nil))
      case h1z58 => first | rfl | (simp only [List.getElem?_toArray, List.getElem?_cons_succ, List.getElem?_cons_zero]; try rfl)
      case h1z59 => first | rfl | (simp only [List.getElem?_toArray, List.getElem?_cons_succ, List.getElem?_cons_zero]; try rfl)
      case restz58 =>
        go_simp
        refine hK.out _ _ hbD1.p (fun hHeld => ?_)
        clear hK K
        try simp only [Act.put, List.setIfInBounds_toArray, List.set_cons_zero, List.set_cons_succ]
        refine wpAnyH_ready (rs := [6]) (by kernel_rfl) (by simp) ?_
        refine (AllReadyH.cons (o := ?oiz57) ?h1z57 (fun K hK => ?restz57) AllReadyH.nil)
        case h1z57 => first | rfl | (simp only [List.getElem?_toArray, List.getElem?_cons_succ, List.getElem?_cons_zero]; try rfl)
        case restz57 =>
          go_simp
          go_at_call 63
          refine (hT2 _ hbD1).mono ?_
          rintro e bw2 ⟨rfl, hR2, hg2⟩
          have hbD2 := hbD1.reads hg2 hR2
          have by2 := hbD2.c8
          refine hK.out _ _ hbD2.p (fun hHeld => ?_)
          clear hK K
          try simp only [Act.put, List.setIfInBounds_toArray, List.set_cons_zero, List.set_cons_succ]
          refine wpAnyH_take (i := 7) (oi := ?oiz52) (v := ?vz52) ?h1z52 (by kernel_rfl) (by kernel_rfl) (by kernel_rfl) ?h2z52 ?hyz52 (by assumption) ?restz52
          case h1z52 => first | rfl | (simp only [List.getElem?_toArray, List.getElem?_cons_succ, List.getElem?_cons_zero]; try rfl)
          case h2z52 => exact fun _ _ _ h => h
          case hyz52 => (refine Or.inl ⟨by rfl, ?_⟩; intro w hSw; (try dsimp only at hSw); go_simp; (try with_reducible rfl))
          try simp only [Act.put, List.setIfInBounds_toArray]
          refine wpAnyH_ready (rs := [8]) (by kernel_rfl) (by simp) ?_
          refine (AllReadyH.cons (o := ?oiz56) ?h1z56 (fun K hK => ?restz56) AllReadyH.nil)
          case h1z56 => first | rfl | (simp only [List.getElem?_toArray, List.getElem?_cons_succ, List.getElem?_cons_zero]; try rfl)
          case restz56 =>
            go_simp
            have hbD3 := hbD2.keep (W' := bw2.alloc (.cells #[.int .u8 (n : Int), .string ⟨t2.toArray⟩] 42)) ((Below.refl _ _).alloc (Nat.le_refl _) _)
            have by3 := hbD3.c8
            refine hK.out _ _ hbD3.p (fun hHeld => ?_)
            clear hK K
            try simp only [Act.put, List.setIfInBounds_toArray, List.set_cons_zero, List.set_cons_succ]
            refine wpAnyH_ready (rs := [9]) (by kernel_rfl) (by simp) ?_
            refine (AllReadyH.cons (o := ?oiz55) ?h1z55 (fun K hK => ?restz55) AllReadyH.nil)
            case h1z55 => first | rfl | (simp only [List.getElem?_toArray, List.getElem?_cons_succ, List.getElem?_cons_zero]; try rfl)
            case restz55 =>
              refine step_append_any (P := Tryz.prog) rfl _ _ _ rfl w0.heap.size 42 ii (.agg #[.int .u8 0, .string ⟨#[]⟩]) 2 24 Tryz.underlying25 hii hii0 hii1 hii2 rfl (by decide) _ x.fates.length (x.fates.flatMap faE) rfl hbD3.own.fa _ _ 1 [.int .u8 (n : Int), .string ⟨t2.toArray⟩] rfl (Or.inr ⟨⟨bw2.heap.size, 0, none⟩, 1, rfl, fun _ => (show bw2.heap.size < bw2.heap.size + 1 by omega), cell_list (cs := [.int .u8 (n : Int), .string ⟨t2.toArray⟩]) rfl⟩) rfl (by simp [Value.oneCell']) (by unfold maxLen; omega) (by omega) hbD3.below.size ?_
              intro v' w9 ho9 hg9 _ _
              have hp9 := hbD3.pAnyF hg9
              have he9 := hbD3.eAnyF hg9
              have hZ := hbD3.addFate hg9 (f := (n, t2)) ho9
              obtain ⟨p9, c9, rfl⟩ := own_shape ho9
              have y9 := ent8 he9
              have f9 := efroz he9 8
              refine hK.out _ _ hp9 (fun hHeld => ?_)
              clear hK K
              try simp only [Act.put, List.setIfInBounds_toArray]
              refine wpAnyH_take (i := 10) (oi := ?oiz53) (v := ?vz53) ?h1z53 (by kernel_rfl) (by kernel_rfl) (by kernel_rfl) ?h2z53 ?hyz53 (by assumption) ?restz53
              case h1z53 => first | rfl | (simp only [List.getElem?_toArray, List.getElem?_cons_succ, List.getElem?_cons_zero]; try rfl)
              case h2z53 => exact fun _ _ _ h => h
              case hyz53 => (refine Or.inl ⟨by rfl, ?_⟩; intro w hSw; (try dsimp only at hSw); go_simp; (try with_reducible rfl))
              try simp only [Act.put]
              refine wpAnyH_ready (rs := [11]) (by kernel_rfl) (by simp) ?_
              refine (AllReadyH.cons (o := ?oiz54) ?h1z54 (fun K hK => ?restz54) AllReadyH.nil)
              case h1z54 => first | rfl | (simp only [List.getElem?_toArray, List.getElem?_cons_succ, List.getElem?_cons_zero]; try rfl)
              case restz54 =>
                go_simp
                refine hK.out _ _ hZ.p (fun hHeld => ?_)
                clear hK K
                try simp only [Act.put, List.setIfInBounds_toArray, List.set_cons_zero, List.set_cons_succ]
                refine wpAnyH_done (by kernel_rfl) ?_ _
                have HZ := Lib.hid hZ
                clear hZ y9 f9 he9 hp9
                go_wp2
                go_end0
                exact ⟨rfl, _, _, HZ.out⟩
      case restz59 =>
        go_simp
        go_at_call 63
        refine (hT2 _ hbD1).mono ?_
        rintro e bw2 ⟨rfl, hR2, hg2⟩
        have hbD2 := hbD1.reads hg2 hR2
        have by2 := hbD2.c8
        refine hK.out _ _ hbD2.p (fun hHeld => ?_)
        clear hK K
        try simp only [Act.put, List.setIfInBounds_toArray, List.set_cons_zero, List.set_cons_succ]
        refine wpAnyH_take (i := 7) (oi := ?oiz41) (v := ?vz41) ?h1z41 (by kernel_rfl) (by kernel_rfl) (by kernel_rfl) ?h2z41 ?hyz41 (by assumption) ?restz41
        case h1z41 => first | rfl | (simp only [List.getElem?_toArray, List.getElem?_cons_succ, List.getElem?_cons_zero]; try rfl)
        case h2z41 => exact fun _ _ _ h => h
        case hyz41 => (refine Or.inl ⟨by rfl, ?_⟩; intro w hSw; (try dsimp only at hSw); go_simp; (try with_reducible rfl))
        try simp only [Act.put, List.setIfInBounds_toArray]
        refine wpAnyH_ready (rs := [1, 8]) (by kernel_rfl) (by simp) ?_
        refine (AllReadyH.cons (o := ?oiz50) ?h1z50 (fun K hK => ?restz50) (AllReadyH.cons (o := ?oiz51) ?h1z51 (fun K hK => ?restz51) AllReadyH.nil))
        case h1z50 => first | rfl | (simp only [List.getElem?_toArray, List.getElem?_cons_succ, List.getElem?_cons_zero]; try rfl)
        case h1z51 => first | rfl | (simp only [List.getElem?_toArray, List.getElem?_cons_succ, List.getElem?_cons_zero]; try rfl)
        case restz50 =>
          go_simp
          refine hK.out _ _ hbD2.p (fun hHeld => ?_)
          clear hK K
          try simp only [Act.put, List.setIfInBounds_toArray, List.set_cons_zero, List.set_cons_succ]
          refine wpAnyH_ready (rs := [8]) (by kernel_rfl) (by simp) ?_
          refine (AllReadyH.cons (o := ?oiz49) ?h1z49 (fun K hK => ?restz49) AllReadyH.nil)
          case h1z49 => first | rfl | (simp only [List.getElem?_toArray, List.getElem?_cons_succ, List.getElem?_cons_zero]; try rfl)
          case restz49 =>
            go_simp
            have hbD3 := hbD2.keep (W' := bw2.alloc (.cells #[.int .u8 (n : Int), .string ⟨t2.toArray⟩] 42)) ((Below.refl _ _).alloc (Nat.le_refl _) _)
            have by3 := hbD3.c8
            refine hK.out _ _ hbD3.p (fun hHeld => ?_)
            clear hK K
            try simp only [Act.put, List.setIfInBounds_toArray, List.set_cons_zero, List.set_cons_succ]
            refine wpAnyH_ready (rs := [9]) (by kernel_rfl) (by simp) ?_
            refine (AllReadyH.cons (o := ?oiz48) ?h1z48 (fun K hK => ?restz48) AllReadyH.nil)
            case h1z48 => first | rfl | (simp only [List.getElem?_toArray, List.getElem?_cons_succ, List.getElem?_cons_zero]; try rfl)
            case restz48 =>
              refine step_append_any (P := Tryz.prog) rfl _ _ _ rfl w0.heap.size 42 ii (.agg #[.int .u8 0, .string ⟨#[]⟩]) 2 24 Tryz.underlying25 hii hii0 hii1 hii2 rfl (by decide) _ x.fates.length (x.fates.flatMap faE) rfl hbD3.own.fa _ _ 1 [.int .u8 (n : Int), .string ⟨t2.toArray⟩] rfl (Or.inr ⟨⟨bw2.heap.size, 0, none⟩, 1, rfl, fun _ => (show bw2.heap.size < bw2.heap.size + 1 by omega), cell_list (cs := [.int .u8 (n : Int), .string ⟨t2.toArray⟩]) rfl⟩) rfl (by simp [Value.oneCell']) (by unfold maxLen; omega) (by omega) hbD3.below.size ?_
              intro v' w9 ho9 hg9 _ _
              have hp9 := hbD3.pAnyF hg9
              have he9 := hbD3.eAnyF hg9
              have hZ := hbD3.addFate hg9 (f := (n, t2)) ho9
              obtain ⟨p9, c9, rfl⟩ := own_shape ho9
              have y9 := ent8 he9
              have f9 := efroz he9 8
              refine hK.out _ _ hp9 (fun hHeld => ?_)
              clear hK K
              try simp only [Act.put, List.setIfInBounds_toArray]
              refine wpAnyH_take (i := 10) (oi := ?oiz46) (v := ?vz46) ?h1z46 (by kernel_rfl) (by kernel_rfl) (by kernel_rfl) ?h2z46 ?hyz46 (by assumption) ?restz46
              case h1z46 => first | rfl | (simp only [List.getElem?_toArray, List.getElem?_cons_succ, List.getElem?_cons_zero]; try rfl)
              case h2z46 => exact fun _ _ _ h => h
              case hyz46 => (refine Or.inl ⟨by rfl, ?_⟩; intro w hSw; (try dsimp only at hSw); go_simp; (try with_reducible rfl))
              try simp only [Act.put]
              refine wpAnyH_ready (rs := [11]) (by kernel_rfl) (by simp) ?_
              refine (AllReadyH.cons (o := ?oiz47) ?h1z47 (fun K hK => ?restz47) AllReadyH.nil)
              case h1z47 => first | rfl | (simp only [List.getElem?_toArray, List.getElem?_cons_succ, List.getElem?_cons_zero]; try rfl)
              case restz47 =>
                go_simp
                refine hK.out _ _ hZ.p (fun hHeld => ?_)
                clear hK K
                try simp only [Act.put, List.setIfInBounds_toArray, List.set_cons_zero, List.set_cons_succ]
                refine wpAnyH_done (by kernel_rfl) ?_ _
                have HZ := Lib.hid hZ
                clear hZ y9 f9 he9 hp9
                go_wp2
                go_end0
                exact ⟨rfl, _, _, HZ.out⟩
        case restz51 =>
          go_simp
          have hbD3 := hbD2.keep (W' := bw2.alloc (.cells #[.int .u8 (n : Int), .string ⟨t2.toArray⟩] 42)) ((Below.refl _ _).alloc (Nat.le_refl _) _)
          have by3 := hbD3.c8
          refine hK.out _ _ hbD3.p (fun hHeld => ?_)
          clear hK K
          try simp only [Act.put, List.setIfInBounds_toArray, List.set_cons_zero, List.set_cons_succ]
          refine wpAnyH_ready (rs := [1]) (by kernel_rfl) (by simp) ?_
          refine (AllReadyH.cons (o := ?oiz45) ?h1z45 (fun K hK => ?restz45) AllReadyH.nil)
          case h1z45 => first | rfl | (simp only [List.getElem?_toArray, List.getElem?_cons_succ, List.getElem?_cons_zero]; try rfl)
          case restz45 =>
            go_simp
            refine hK.out _ _ hbD3.p (fun hHeld => ?_)
            clear hK K
            try simp only [Act.put, List.setIfInBounds_toArray, List.set_cons_zero, List.set_cons_succ]
            refine wpAnyH_ready (rs := [9]) (by kernel_rfl) (by simp) ?_
            refine (AllReadyH.cons (o := ?oiz44) ?h1z44 (fun K hK => ?restz44) AllReadyH.nil)
            case h1z44 => first | rfl | (simp only [List.getElem?_toArray, List.getElem?_cons_succ, List.getElem?_cons_zero]; try rfl)
            case restz44 =>
              refine step_append_any (P := Tryz.prog) rfl _ _ _ rfl w0.heap.size 42 ii (.agg #[.int .u8 0, .string ⟨#[]⟩]) 2 24 Tryz.underlying25 hii hii0 hii1 hii2 rfl (by decide) _ x.fates.length (x.fates.flatMap faE) rfl hbD3.own.fa _ _ 1 [.int .u8 (n : Int), .string ⟨t2.toArray⟩] rfl (Or.inr ⟨⟨bw2.heap.size, 0, none⟩, 1, rfl, fun _ => (show bw2.heap.size < bw2.heap.size + 1 by omega), cell_list (cs := [.int .u8 (n : Int), .string ⟨t2.toArray⟩]) rfl⟩) rfl (by simp [Value.oneCell']) (by unfold maxLen; omega) (by omega) hbD3.below.size ?_
              intro v' w9 ho9 hg9 _ _
              have hp9 := hbD3.pAnyF hg9
              have he9 := hbD3.eAnyF hg9
              have hZ := hbD3.addFate hg9 (f := (n, t2)) ho9
              obtain ⟨p9, c9, rfl⟩ := own_shape ho9
              have y9 := ent8 he9
              have f9 := efroz he9 8
              refine hK.out _ _ hp9 (fun hHeld => ?_)
              clear hK K
              try simp only [Act.put, List.setIfInBounds_toArray]
              refine wpAnyH_take (i := 10) (oi := ?oiz42) (v := ?vz42) ?h1z42 (by kernel_rfl) (by kernel_rfl) (by kernel_rfl) ?h2z42 ?hyz42 (by assumption) ?restz42
              case h1z42 => first | rfl | (simp only [List.getElem?_toArray, List.getElem?_cons_succ, List.getElem?_cons_zero]; try rfl)
              case h2z42 => exact fun _ _ _ h => h
              case hyz42 => (refine Or.inl ⟨by rfl, ?_⟩; intro w hSw; (try dsimp only at hSw); go_simp; (try with_reducible rfl))
              try simp only [Act.put]
              refine wpAnyH_ready (rs := [11]) (by kernel_rfl) (by simp) ?_
              refine (AllReadyH.cons (o := ?oiz43) ?h1z43 (fun K hK => ?restz43) AllReadyH.nil)
              case h1z43 => first | rfl | (simp only [List.getElem?_toArray, List.getElem?_cons_succ, List.getElem?_cons_zero]; try rfl)
              case restz43 =>
                go_simp
                refine hK.out _ _ hZ.p (fun hHeld => ?_)
                clear hK K
                try simp only [Act.put, List.setIfInBounds_toArray, List.set_cons_zero, List.set_cons_succ]
                refine wpAnyH_done (by kernel_rfl) ?_ _
                have HZ := Lib.hid hZ
                clear hZ y9 f9 he9 hp9
                go_wp2
                go_end0
                exact ⟨rfl, _, _, HZ.out⟩
end Go.Proofs.YtdlpdpelhkgnlaaGreatDoor
