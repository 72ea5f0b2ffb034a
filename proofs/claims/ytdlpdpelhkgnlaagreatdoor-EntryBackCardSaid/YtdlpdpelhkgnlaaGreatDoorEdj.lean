/- entry.Decode's third function: a job is read, and appended. -/
import Derived.Test.YtdlpdpelhkgnlaaGreatDoorEdca
import Derived.Deep.RegionHeld3
namespace Go.Proofs.YtdlpdpelhkgnlaaGreatDoor
open Go Go.RowKit Go.Shelf Go.Sort
attribute [local go_sem] bneI

theorem rdNum_len (most : Nat) (r : Rd) : (rdNum most r).2.s.length ≤ r.s.length := (cut58_le r.s).2
theorem rdText_len (r : Rd) : (rdText r).2.s.length ≤ r.s.length := by
  have h := rdNum_len r.s.length r
  unfold rdText
  split
  · exact h
  · dsimp only
    rw [List.length_drop]
    omega
theorem ent9 {W : World} {eb : Nat} {x : EntP} {sv fv jv : Value} {t : TypeId} (h : W.heap[eb]? = some (.cells (entC x sv fv jv).toArray t (0, 0))) : W.cell? ⟨eb, 9, none⟩ = some jv := by
  unfold entC at h
  obtain ⟨-, -, -, -, -, -, -, -, -, x9⟩ := eboxAll h
  exact x9
theorem ent8 {W : World} {eb : Nat} {x : EntP} {sv fv jv : Value} {t : TypeId} (h : W.heap[eb]? = some (.cells (entC x sv fv jv).toArray t (0, 0))) : W.cell? ⟨eb, 8, none⟩ = some fv := by
  unfold entC at h
  obtain ⟨-, -, -, -, -, -, -, -, x8, -⟩ := eboxAll h
  exact x8
theorem ent3 {W : World} {eb : Nat} {x : EntP} {sv fv jv : Value} {t : TypeId} (h : W.heap[eb]? = some (.cells (entC x sv fv jv).toArray t (0, 0))) : W.cell? ⟨eb, 3, none⟩ = some sv := by
  unfold entC at h
  obtain ⟨-, -, -, x3, -⟩ := eboxAll h
  exact x3
section
variable {fx : Option (Nat × Value)} {w0 W W' : World} {eb pb b : Nat} {x : EntP} {r : Rd} {sv fv jv : Value}
theorem DecAt.c9 (h : DecAt fx w0 eb pb b x r sv fv jv W) : W.cell? ⟨eb, 9, none⟩ = some jv := ent9 h.ent
theorem DecAt.c8 (h : DecAt fx w0 eb pb b x r sv fv jv W) : W.cell? ⟨eb, 8, none⟩ = some fv := ent8 h.ent
theorem DecAt.c3 (h : DecAt fx w0 eb pb b x r sv fv jv W) : W.cell? ⟨eb, 3, none⟩ = some sv := ent3 h.ent
theorem DecAt.pApp (h : DecAt fx w0 eb pb b x r sv fv jv W) (hg : W.grownBy W' jv.ownBlock) : W'.cell? ⟨pb, 0, none⟩ = some (.pointer (some ⟨b, 0, none⟩)) := by
  have := (hg.block _ (lt_of_cells h.ptr) (fun e => own_neb h.own.jo h.ptr (by decide) e.symm)).trans h.ptr
  simp [World.cell?, this]
theorem DecAt.eApp (h : DecAt fx w0 eb pb b x r sv fv jv W) (hg : W.grownBy W' jv.ownBlock) : W'.heap[eb]? = some (.cells (entC x sv fv jv).toArray 32 (0, 0)) :=
  (hg.block _ (lt_of_cells h.ent) (fun e => own_neb h.own.jo h.ent (by decide) e.symm)).trans h.ent
end
theorem enterDec3 : ∀ args w, (callFunc 68 args).run Tryz.prog w = .ok (.enter 68 args) w := enters_of Tryz.func68 (by kernel_rfl) rfl
set_option maxRecDepth 100000 in
set_option maxHeartbeats 16000000 in
theorem dec3_any (fx : Option (Nat × Value)) (w0 : World) (eb pb b : Nat) (x : EntP) (r : Rd) (sv fv jv : Value) (w : World) (h : DecAt fx w0 eb pb b x r sv fv jv w) (hE : Env8 w0) (hs : r.s.length ≤ 1000000000) (hj : x.jobs.length ≤ 1000) :
    Calls Tryz.prog 68 #[.pointer (some ⟨eb, 0, none⟩), .pointer (some ⟨pb, 0, none⟩)] w fun e w' => e = .returned (.tuple #[]) ∧ ∃ jv', DecAt fx w0 eb pb b { x with jobs := x.jobs ++ [(rdJob r).1] } (rdJob r).2 sv fv jv' w' := by
  obtain ⟨i0, hi0, hz0, hz1, hz2⟩ := info_parts infoJo
  obtain ⟨p3, c3, rfl⟩ := own_shape h.own.jo
  have hT : ∀ W, DecAt fx w0 eb pb b x r sv fv (.slice p3 x.jobs.length c3) W → Calls Tryz.prog 63 #[.pointer (some ⟨b, 0, none⟩)] W (RdPost w0 b (.string ⟨(rdText r).1.toArray⟩) (rdText r).2 W) := fun W hD => rtext_any w0 b r W hD.rdAt hE hs
  have l1 := rdText_len r
  have hrj : rdJob r = (⟨(rdText r).1, (rdNum 99 (rdText r).2).1, (rdNum 1099511627776 (rdNum 99 (rdText r).2).2).1⟩, (rdNum 1099511627776 (rdNum 99 (rdText r).2).2).2) := rfl
  rw [hrj]
  clear hrj
  generalize rdText r = q1 at hT l1 ⊢
  obtain ⟨t, r1⟩ := q1
  dsimp only at hT l1 ⊢
  have hN1 : ∀ W, DecAt fx w0 eb pb b x r1 sv fv (.slice p3 x.jobs.length c3) W → Calls Tryz.prog 62 #[.pointer (some ⟨b, 0, none⟩), .int .i64 99] W (RdPost w0 b (.int .i64 ((rdNum 99 r1).1 : Int)) (rdNum 99 r1).2 W) := fun W hD => rnum_any w0 b r1 99 W hD.rdAt hE (by omega) (by decide)
  have l2 := rdNum_len 99 r1
  generalize rdNum 99 r1 = q2 at hN1 l2 ⊢
  obtain ⟨n1, r2⟩ := q2
  dsimp only at hN1 l2 ⊢
  have hN2 : ∀ W, DecAt fx w0 eb pb b x r2 sv fv (.slice p3 x.jobs.length c3) W → Calls Tryz.prog 62 #[.pointer (some ⟨b, 0, none⟩), .int .i64 1099511627776] W (RdPost w0 b (.int .i64 ((rdNum 1099511627776 r2).1 : Int)) (rdNum 1099511627776 r2).2 W) := fun W hD => rnum_any w0 b r2 1099511627776 W hD.rdAt hE (by omega) (by decide)
  generalize rdNum 1099511627776 r2 = q3 at hN2 ⊢
  obtain ⟨n2, r3⟩ := q3
  dsimp only at hN2 ⊢
  clear hs l1 l2 hE
  go_enter Tryz.func68, Tryz.ntmps68
  have hD0 := h.keep (below_drew w)
  have y90 := hD0.c9
  refine wp_region_held_drew (S := fun W => W.cell? ⟨pb, 0, none⟩ = some (.pointer (some ⟨b, 0, none⟩))) (by kernel_rfl) hD0.p (fun hHeld => ?_)
  refine wpAnyH_take (i := 0) (oi := ?oiz1) (v := ?vz1) ?h1z1 (by kernel_rfl) (by kernel_rfl) (by kernel_rfl) ?h2z1 ?hyz1 (by assumption) ?restz1
  case h1z1 => (simp only [List.getElem?_toArray, List.getElem?_cons_zero]; try rfl)
  case h2z1 => exact fun _ _ _ h => h
  case hyz1 => (refine Or.inl ⟨by rfl, ?_⟩; intro w hSw; (try dsimp only at hSw); go_simp; (try with_reducible rfl))
  try simp only [Act.put, List.setIfInBounds_toArray, List.set_cons_zero, List.set_cons_succ]
  refine wpAnyH_take (i := 2) (oi := ?oiz2) (v := ?vz2) ?h1z2 (by kernel_rfl) (by kernel_rfl) (by kernel_rfl) ?h2z2 ?hyz2 (by assumption) ?restz2
  case h1z2 => (simp only [List.getElem?_toArray, List.getElem?_cons_succ, List.getElem?_cons_zero]; try rfl)
  case h2z2 => exact fun _ _ _ h => h
  case hyz2 => (refine Or.inl ⟨by rfl, ?_⟩; intro w hSw; (try dsimp only at hSw); go_simp; (try with_reducible rfl))
  try simp only [Act.put, List.setIfInBounds_toArray, List.set_cons_zero, List.set_cons_succ]
  refine wpAnyH_take (i := 4) (oi := ?oiz3) (v := ?vz3) ?h1z3 (by kernel_rfl) (by kernel_rfl) (by kernel_rfl) ?h2z3 ?hyz3 (by assumption) ?restz3
  case h1z3 => (simp only [List.getElem?_toArray, List.getElem?_cons_succ, List.getElem?_cons_zero]; try rfl)
  case h2z3 => exact fun _ _ _ h => h
  case hyz3 => (refine Or.inl ⟨by rfl, ?_⟩; intro w hSw; (try dsimp only at hSw); go_simp; (try with_reducible rfl))
  try simp only [Act.put, List.setIfInBounds_toArray, List.set_cons_zero, List.set_cons_succ]
  refine wpAnyH_take (i := 6) (oi := ?oiz4) (v := ?vz4) ?h1z4 (by kernel_rfl) (by kernel_rfl) (by kernel_rfl) ?h2z4 ?hyz4 (by assumption) ?restz4
  case h1z4 => (simp only [List.getElem?_toArray, List.getElem?_cons_succ, List.getElem?_cons_zero]; try rfl)
  case h2z4 => exact fun _ _ _ h => h
  case hyz4 => (refine Or.inl ⟨by rfl, ?_⟩; intro w hSw; (try dsimp only at hSw); go_simp; (try with_reducible rfl))
  try simp only [Act.put, List.setIfInBounds_toArray, List.set_cons_zero, List.set_cons_succ]
  refine wpAnyH_ready (rs := [1, 3]) (by kernel_rfl) (by simp) ?_
  refine (AllReadyH.cons (o := ?oiz41) ?h1z41 (fun K hK => ?restz41) (AllReadyH.cons (o := ?oiz42) ?h1z42 (fun K hK => ?restz42) AllReadyH.nil))
  case h1z41 => (simp only [List.getElem?_toArray, List.getElem?_cons_succ, List.getElem?_cons_zero]; try rfl)
  case h1z42 => (simp only [List.getElem?_toArray, List.getElem?_cons_succ, List.getElem?_cons_zero]; try rfl)
  case restz41 =>
    go_simp
    refine hK.out _ _ hD0.p (fun hHeld => ?_)
    clear hK K
    try simp only [Act.put, List.setIfInBounds_toArray, List.set_cons_zero, List.set_cons_succ]
    refine wpAnyH_ready (rs := [3]) (by kernel_rfl) (by simp) ?_
    refine (AllReadyH.cons (o := ?oiz40) ?h1z40 (fun K hK => ?restz40) AllReadyH.nil)
    case h1z40 => (simp only [List.getElem?_toArray, List.getElem?_cons_succ, List.getElem?_cons_zero]; try rfl)
    case restz40 =>
      go_simp
      go_at_call 63
      refine (hT _ hD0).mono ?_
      rintro e w1 ⟨rfl, hR1, hg1⟩
      have hD1 := hD0.reads hg1 hR1
      have y91 := hD1.c9
      refine hK.out _ _ hD1.p (fun hHeld => ?_)
      clear hK K
      try simp only [Act.put, List.setIfInBounds_toArray, List.set_cons_zero, List.set_cons_succ]
      refine wpAnyH_ready (rs := [5]) (by kernel_rfl) (by simp) ?_
      refine (AllReadyH.cons (o := ?oiz39) ?h1z39 (fun K hK => ?restz39) AllReadyH.nil)
      case h1z39 => (simp only [List.getElem?_toArray, List.getElem?_cons_succ, List.getElem?_cons_zero]; try rfl)
      case restz39 =>
        go_simp
        go_at_call 62
        refine (hN1 _ hD1).mono ?_
        rintro e w2 ⟨rfl, hR2, hg2⟩
        have hD2 := hD1.reads hg2 hR2
        have y92 := hD2.c9
        refine hK.out _ _ hD2.p (fun hHeld => ?_)
        clear hK K
        try simp only [Act.put, List.setIfInBounds_toArray, List.set_cons_zero, List.set_cons_succ]
        refine wpAnyH_ready (rs := [7]) (by kernel_rfl) (by simp) ?_
        refine (AllReadyH.cons (o := ?oiz38) ?h1z38 (fun K hK => ?restz38) AllReadyH.nil)
        case h1z38 => (simp only [List.getElem?_toArray, List.getElem?_cons_succ, List.getElem?_cons_zero]; try rfl)
        case restz38 =>
          go_simp
          go_at_call 62
          refine (hN2 _ hD2).mono ?_
          rintro e w3 ⟨rfl, hR3, hg3⟩
          have hD3 := hD2.reads hg3 hR3
          have y93 := hD3.c9
          refine hK.out _ _ hD3.p (fun hHeld => ?_)
          clear hK K
          try simp only [Act.put, List.setIfInBounds_toArray, List.set_cons_zero, List.set_cons_succ]
          refine wpAnyH_take (i := 8) (oi := ?oiz33) (v := ?vz33) ?h1z33 (by kernel_rfl) (by kernel_rfl) (by kernel_rfl) ?h2z33 ?hyz33 (by assumption) ?restz33
          case h1z33 => (simp only [List.getElem?_toArray, List.getElem?_cons_succ, List.getElem?_cons_zero]; try rfl)
          case h2z33 => exact fun _ _ _ h => h
          case hyz33 => (refine Or.inl ⟨by rfl, ?_⟩; intro w hSw; (try dsimp only at hSw); go_simp; (try with_reducible rfl))
          try simp only [Act.put, List.setIfInBounds_toArray, List.set_cons_zero, List.set_cons_succ]
          refine wpAnyH_ready (rs := [9]) (by kernel_rfl) (by simp) ?_
          refine (AllReadyH.cons (o := ?oiz37) ?h1z37 (fun K hK => ?restz37) AllReadyH.nil)
          case h1z37 => (simp only [List.getElem?_toArray, List.getElem?_cons_succ, List.getElem?_cons_zero]; try rfl)
          case restz37 =>
            go_simp
            have hD4 := hD3.keep (W' := w3.alloc (.cells #[.string ⟨t.toArray⟩, .int .i64 (n1 : Int), .int .i64 (n2 : Int)] 40)) ((Below.refl _ _).alloc (Nat.le_refl _) _)
            have y94 := hD4.c9
            refine hK.out _ _ hD4.p (fun hHeld => ?_)
            clear hK K
            try simp only [Act.put, List.setIfInBounds_toArray, List.set_cons_zero, List.set_cons_succ]
            refine wpAnyH_ready (rs := [10]) (by kernel_rfl) (by simp) ?_
            refine (AllReadyH.cons (o := ?oiz36) ?h1z36 (fun K hK => ?restz36) AllReadyH.nil)
            case h1z36 => (simp only [List.getElem?_toArray, List.getElem?_cons_succ, List.getElem?_cons_zero]; try rfl)
            case restz36 =>
              refine step_append_any (P := Tryz.prog) rfl _ _ _ rfl w0.heap.size 40 i0 (.agg #[.string ⟨#[]⟩, .int .i64 0, .int .i64 0]) 3 32 Tryz.underlying30 hi0 hz0 hz1 hz2 rfl (by decide) _ x.jobs.length (x.jobs.flatMap joE) rfl hD4.own.jo _ _ 1 [.string ⟨t.toArray⟩, .int .i64 (n1 : Int), .int .i64 (n2 : Int)] rfl (Or.inr ⟨⟨w3.heap.size, 0, none⟩, 1, rfl, fun _ => (show w3.heap.size < w3.heap.size + 1 by omega), cell_list (cs := [.string ⟨t.toArray⟩, .int .i64 (n1 : Int), .int .i64 (n2 : Int)]) rfl⟩) rfl (by simp [Value.oneCell']) (by unfold maxLen; omega) (by omega) hD4.below.size ?_
              intro v' w9 ho9 hg9 _ _
              have hp9 := hD4.pApp hg9
              have he9 := hD4.eApp hg9
              have hZ := hD4.addJob hg9 (j := ⟨t, n1, n2⟩) ho9
              obtain ⟨p9, c9, rfl⟩ := own_shape ho9
              have y9 := ent9 he9
              have f9 := efroz he9 9
              refine hK.out _ _ hp9 (fun hHeld => ?_)
              clear hK K
              try simp only [Act.put, List.setIfInBounds_toArray, List.set_cons_zero, List.set_cons_succ]
              refine wpAnyH_take (i := 11) (oi := ?oiz34) (v := ?vz34) ?h1z34 (by kernel_rfl) (by kernel_rfl) (by kernel_rfl) ?h2z34 ?hyz34 (by assumption) ?restz34
              case h1z34 => (simp only [List.getElem?_toArray, List.getElem?_cons_succ, List.getElem?_cons_zero]; try rfl)
              case h2z34 => exact fun _ _ _ h => h
              case hyz34 => (refine Or.inl ⟨by rfl, ?_⟩; intro w hSw; (try dsimp only at hSw); go_simp; (try with_reducible rfl))
              try simp only [Act.put, List.setIfInBounds_toArray, List.set_cons_zero, List.set_cons_succ]
              refine wpAnyH_ready (rs := [12]) (by kernel_rfl) (by simp) ?_
              refine (AllReadyH.cons (o := ?oiz35) ?h1z35 (fun K hK => ?restz35) AllReadyH.nil)
              case h1z35 => (simp only [List.getElem?_toArray, List.getElem?_cons_succ, List.getElem?_cons_zero]; try rfl)
              case restz35 =>
                go_simp
                refine hK.out _ _ hZ.p (fun hHeld => ?_)
                clear hK K
                try simp only [Act.put, List.setIfInBounds_toArray, List.set_cons_zero, List.set_cons_succ]
                refine wpAnyH_done (by kernel_rfl) ?_ _
                have HZ := Lib.hid hZ
                clear hZ y9 f9 he9 hp9
                go_wp2
                go_end0
                exact ⟨rfl, _, HZ.out⟩
  case restz42 =>
    go_simp
    go_at_call 63
    refine (hT _ hD0).mono ?_
    rintro e w1 ⟨rfl, hR1, hg1⟩
    have hD1 := hD0.reads hg1 hR1
    have y91 := hD1.c9
    refine hK.out _ _ hD1.p (fun hHeld => ?_)
    clear hK K
    try simp only [Act.put, List.setIfInBounds_toArray, List.set_cons_zero, List.set_cons_succ]
    refine wpAnyH_ready (rs := [1, 5]) (by kernel_rfl) (by simp) ?_
    refine (AllReadyH.cons (o := ?oiz31) ?h1z31 (fun K hK => ?restz31) (AllReadyH.cons (o := ?oiz32) ?h1z32 (fun K hK => ?restz32) AllReadyH.nil))
    case h1z31 => (simp only [List.getElem?_toArray, List.getElem?_cons_succ, List.getElem?_cons_zero]; try rfl)
    case h1z32 => (simp only [List.getElem?_toArray, List.getElem?_cons_succ, List.getElem?_cons_zero]; try rfl)
    case restz31 =>
      go_simp
      refine hK.out _ _ hD1.p (fun hHeld => ?_)
      clear hK K
      try simp only [Act.put, List.setIfInBounds_toArray, List.set_cons_zero, List.set_cons_succ]
      refine wpAnyH_ready (rs := [5]) (by kernel_rfl) (by simp) ?_
      refine (AllReadyH.cons (o := ?oiz30) ?h1z30 (fun K hK => ?restz30) AllReadyH.nil)
      case h1z30 => (simp only [List.getElem?_toArray, List.getElem?_cons_succ, List.getElem?_cons_zero]; try rfl)
      case restz30 =>
        go_simp
        go_at_call 62
        refine (hN1 _ hD1).mono ?_
        rintro e w2 ⟨rfl, hR2, hg2⟩
        have hD2 := hD1.reads hg2 hR2
        have y92 := hD2.c9
        refine hK.out _ _ hD2.p (fun hHeld => ?_)
        clear hK K
        try simp only [Act.put, List.setIfInBounds_toArray, List.set_cons_zero, List.set_cons_succ]
        refine wpAnyH_ready (rs := [7]) (by kernel_rfl) (by simp) ?_
        refine (AllReadyH.cons (o := ?oiz29) ?h1z29 (fun K hK => ?restz29) AllReadyH.nil)
        case h1z29 => (simp only [List.getElem?_toArray, List.getElem?_cons_succ, List.getElem?_cons_zero]; try rfl)
        case restz29 =>
          go_simp
          go_at_call 62
          refine (hN2 _ hD2).mono ?_
          rintro e w3 ⟨rfl, hR3, hg3⟩
          have hD3 := hD2.reads hg3 hR3
          have y93 := hD3.c9
          refine hK.out _ _ hD3.p (fun hHeld => ?_)
          clear hK K
          try simp only [Act.put, List.setIfInBounds_toArray, List.set_cons_zero, List.set_cons_succ]
          refine wpAnyH_take (i := 8) (oi := ?oiz24) (v := ?vz24) ?h1z24 (by kernel_rfl) (by kernel_rfl) (by kernel_rfl) ?h2z24 ?hyz24 (by assumption) ?restz24
          case h1z24 => (simp only [List.getElem?_toArray, List.getElem?_cons_succ, List.getElem?_cons_zero]; try rfl)
          case h2z24 => exact fun _ _ _ h => h
          case hyz24 => (refine Or.inl ⟨by rfl, ?_⟩; intro w hSw; (try dsimp only at hSw); go_simp; (try with_reducible rfl))
          try simp only [Act.put, List.setIfInBounds_toArray, List.set_cons_zero, List.set_cons_succ]
          refine wpAnyH_ready (rs := [9]) (by kernel_rfl) (by simp) ?_
          refine (AllReadyH.cons (o := ?oiz28) ?h1z28 (fun K hK => ?restz28) AllReadyH.nil)
          case h1z28 => (simp only [List.getElem?_toArray, List.getElem?_cons_succ, List.getElem?_cons_zero]; try rfl)
          case restz28 =>
            go_simp
            have hD4 := hD3.keep (W' := w3.alloc (.cells #[.string ⟨t.toArray⟩, .int .i64 (n1 : Int), .int .i64 (n2 : Int)] 40)) ((Below.refl _ _).alloc (Nat.le_refl _) _)
            have y94 := hD4.c9
            refine hK.out _ _ hD4.p (fun hHeld => ?_)
            clear hK K
            try simp only [Act.put, List.setIfInBounds_toArray, List.set_cons_zero, List.set_cons_succ]
            refine wpAnyH_ready (rs := [10]) (by kernel_rfl) (by simp) ?_
            refine (AllReadyH.cons (o := ?oiz27) ?h1z27 (fun K hK => ?restz27) AllReadyH.nil)
            case h1z27 => (simp only [List.getElem?_toArray, List.getElem?_cons_succ, List.getElem?_cons_zero]; try rfl)
            case restz27 =>
              refine step_append_any (P := Tryz.prog) rfl _ _ _ rfl w0.heap.size 40 i0 (.agg #[.string ⟨#[]⟩, .int .i64 0, .int .i64 0]) 3 32 Tryz.underlying30 hi0 hz0 hz1 hz2 rfl (by decide) _ x.jobs.length (x.jobs.flatMap joE) rfl hD4.own.jo _ _ 1 [.string ⟨t.toArray⟩, .int .i64 (n1 : Int), .int .i64 (n2 : Int)] rfl (Or.inr ⟨⟨w3.heap.size, 0, none⟩, 1, rfl, fun _ => (show w3.heap.size < w3.heap.size + 1 by omega), cell_list (cs := [.string ⟨t.toArray⟩, .int .i64 (n1 : Int), .int .i64 (n2 : Int)]) rfl⟩) rfl (by simp [Value.oneCell']) (by unfold maxLen; omega) (by omega) hD4.below.size ?_
              intro v' w9 ho9 hg9 _ _
              have hp9 := hD4.pApp hg9
              have he9 := hD4.eApp hg9
              have hZ := hD4.addJob hg9 (j := ⟨t, n1, n2⟩) ho9
              obtain ⟨p9, c9, rfl⟩ := own_shape ho9
              have y9 := ent9 he9
              have f9 := efroz he9 9
              refine hK.out _ _ hp9 (fun hHeld => ?_)
              clear hK K
              try simp only [Act.put, List.setIfInBounds_toArray, List.set_cons_zero, List.set_cons_succ]
              refine wpAnyH_take (i := 11) (oi := ?oiz25) (v := ?vz25) ?h1z25 (by kernel_rfl) (by kernel_rfl) (by kernel_rfl) ?h2z25 ?hyz25 (by assumption) ?restz25
              case h1z25 => (simp only [List.getElem?_toArray, List.getElem?_cons_succ, List.getElem?_cons_zero]; try rfl)
              case h2z25 => exact fun _ _ _ h => h
              case hyz25 => (refine Or.inl ⟨by rfl, ?_⟩; intro w hSw; (try dsimp only at hSw); go_simp; (try with_reducible rfl))
              try simp only [Act.put, List.setIfInBounds_toArray, List.set_cons_zero, List.set_cons_succ]
              refine wpAnyH_ready (rs := [12]) (by kernel_rfl) (by simp) ?_
              refine (AllReadyH.cons (o := ?oiz26) ?h1z26 (fun K hK => ?restz26) AllReadyH.nil)
              case h1z26 => (simp only [List.getElem?_toArray, List.getElem?_cons_succ, List.getElem?_cons_zero]; try rfl)
              case restz26 =>
                go_simp
                refine hK.out _ _ hZ.p (fun hHeld => ?_)
                clear hK K
                try simp only [Act.put, List.setIfInBounds_toArray, List.set_cons_zero, List.set_cons_succ]
                refine wpAnyH_done (by kernel_rfl) ?_ _
                have HZ := Lib.hid hZ
                clear hZ y9 f9 he9 hp9
                go_wp2
                go_end0
                exact ⟨rfl, _, HZ.out⟩
    case restz32 =>
      go_simp
      go_at_call 62
      refine (hN1 _ hD1).mono ?_
      rintro e w2 ⟨rfl, hR2, hg2⟩
      have hD2 := hD1.reads hg2 hR2
      have y92 := hD2.c9
      refine hK.out _ _ hD2.p (fun hHeld => ?_)
      clear hK K
      try simp only [Act.put, List.setIfInBounds_toArray, List.set_cons_zero, List.set_cons_succ]
      refine wpAnyH_ready (rs := [1, 7]) (by kernel_rfl) (by simp) ?_
      refine (AllReadyH.cons (o := ?oiz22) ?h1z22 (fun K hK => ?restz22) (AllReadyH.cons (o := ?oiz23) ?h1z23 (fun K hK => ?restz23) AllReadyH.nil))
      case h1z22 => (simp only [List.getElem?_toArray, List.getElem?_cons_succ, List.getElem?_cons_zero]; try rfl)
      case h1z23 => (simp only [List.getElem?_toArray, List.getElem?_cons_succ, List.getElem?_cons_zero]; try rfl)
      case restz22 =>
        go_simp
        refine hK.out _ _ hD2.p (fun hHeld => ?_)
        clear hK K
        try simp only [Act.put, List.setIfInBounds_toArray, List.set_cons_zero, List.set_cons_succ]
        refine wpAnyH_ready (rs := [7]) (by kernel_rfl) (by simp) ?_
        refine (AllReadyH.cons (o := ?oiz21) ?h1z21 (fun K hK => ?restz21) AllReadyH.nil)
        case h1z21 => (simp only [List.getElem?_toArray, List.getElem?_cons_succ, List.getElem?_cons_zero]; try rfl)
        case restz21 =>
          go_simp
          go_at_call 62
          refine (hN2 _ hD2).mono ?_
          rintro e w3 ⟨rfl, hR3, hg3⟩
          have hD3 := hD2.reads hg3 hR3
          have y93 := hD3.c9
          refine hK.out _ _ hD3.p (fun hHeld => ?_)
          clear hK K
          try simp only [Act.put, List.setIfInBounds_toArray, List.set_cons_zero, List.set_cons_succ]
          refine wpAnyH_take (i := 8) (oi := ?oiz16) (v := ?vz16) ?h1z16 (by kernel_rfl) (by kernel_rfl) (by kernel_rfl) ?h2z16 ?hyz16 (by assumption) ?restz16
          case h1z16 => (simp only [List.getElem?_toArray, List.getElem?_cons_succ, List.getElem?_cons_zero]; try rfl)
          case h2z16 => exact fun _ _ _ h => h
          case hyz16 => (refine Or.inl ⟨by rfl, ?_⟩; intro w hSw; (try dsimp only at hSw); go_simp; (try with_reducible rfl))
          try simp only [Act.put, List.setIfInBounds_toArray, List.set_cons_zero, List.set_cons_succ]
          refine wpAnyH_ready (rs := [9]) (by kernel_rfl) (by simp) ?_
          refine (AllReadyH.cons (o := ?oiz20) ?h1z20 (fun K hK => ?restz20) AllReadyH.nil)
          case h1z20 => (simp only [List.getElem?_toArray, List.getElem?_cons_succ, List.getElem?_cons_zero]; try rfl)
          case restz20 =>
            go_simp
            have hD4 := hD3.keep (W' := w3.alloc (.cells #[.string ⟨t.toArray⟩, .int .i64 (n1 : Int), .int .i64 (n2 : Int)] 40)) ((Below.refl _ _).alloc (Nat.le_refl _) _)
            have y94 := hD4.c9
            refine hK.out _ _ hD4.p (fun hHeld => ?_)
            clear hK K
            try simp only [Act.put, List.setIfInBounds_toArray, List.set_cons_zero, List.set_cons_succ]
            refine wpAnyH_ready (rs := [10]) (by kernel_rfl) (by simp) ?_
            refine (AllReadyH.cons (o := ?oiz19) ?h1z19 (fun K hK => ?restz19) AllReadyH.nil)
            case h1z19 => (simp only [List.getElem?_toArray, List.getElem?_cons_succ, List.getElem?_cons_zero]; try rfl)
            case restz19 =>
              refine step_append_any (P := Tryz.prog) rfl _ _ _ rfl w0.heap.size 40 i0 (.agg #[.string ⟨#[]⟩, .int .i64 0, .int .i64 0]) 3 32 Tryz.underlying30 hi0 hz0 hz1 hz2 rfl (by decide) _ x.jobs.length (x.jobs.flatMap joE) rfl hD4.own.jo _ _ 1 [.string ⟨t.toArray⟩, .int .i64 (n1 : Int), .int .i64 (n2 : Int)] rfl (Or.inr ⟨⟨w3.heap.size, 0, none⟩, 1, rfl, fun _ => (show w3.heap.size < w3.heap.size + 1 by omega), cell_list (cs := [.string ⟨t.toArray⟩, .int .i64 (n1 : Int), .int .i64 (n2 : Int)]) rfl⟩) rfl (by simp [Value.oneCell']) (by unfold maxLen; omega) (by omega) hD4.below.size ?_
              intro v' w9 ho9 hg9 _ _
              have hp9 := hD4.pApp hg9
              have he9 := hD4.eApp hg9
              have hZ := hD4.addJob hg9 (j := ⟨t, n1, n2⟩) ho9
              obtain ⟨p9, c9, rfl⟩ := own_shape ho9
              have y9 := ent9 he9
              have f9 := efroz he9 9
              refine hK.out _ _ hp9 (fun hHeld => ?_)
              clear hK K
              try simp only [Act.put, List.setIfInBounds_toArray, List.set_cons_zero, List.set_cons_succ]
              refine wpAnyH_take (i := 11) (oi := ?oiz17) (v := ?vz17) ?h1z17 (by kernel_rfl) (by kernel_rfl) (by kernel_rfl) ?h2z17 ?hyz17 (by assumption) ?restz17
              case h1z17 => (simp only [List.getElem?_toArray, List.getElem?_cons_succ, List.getElem?_cons_zero]; try rfl)
              case h2z17 => exact fun _ _ _ h => h
              case hyz17 => (refine Or.inl ⟨by rfl, ?_⟩; intro w hSw; (try dsimp only at hSw); go_simp; (try with_reducible rfl))
              try simp only [Act.put, List.setIfInBounds_toArray, List.set_cons_zero, List.set_cons_succ]
              refine wpAnyH_ready (rs := [12]) (by kernel_rfl) (by simp) ?_
              refine (AllReadyH.cons (o := ?oiz18) ?h1z18 (fun K hK => ?restz18) AllReadyH.nil)
              case h1z18 => (simp only [List.getElem?_toArray, List.getElem?_cons_succ, List.getElem?_cons_zero]; try rfl)
              case restz18 =>
                go_simp
                refine hK.out _ _ hZ.p (fun hHeld => ?_)
                clear hK K
                try simp only [Act.put, List.setIfInBounds_toArray, List.set_cons_zero, List.set_cons_succ]
                refine wpAnyH_done (by kernel_rfl) ?_ _
                have HZ := Lib.hid hZ
                clear hZ y9 f9 he9 hp9
                go_wp2
                go_end0
                exact ⟨rfl, _, HZ.out⟩
      case restz23 =>
        go_simp
        go_at_call 62
        refine (hN2 _ hD2).mono ?_
        rintro e w3 ⟨rfl, hR3, hg3⟩
        have hD3 := hD2.reads hg3 hR3
        have y93 := hD3.c9
        refine hK.out _ _ hD3.p (fun hHeld => ?_)
        clear hK K
        try simp only [Act.put, List.setIfInBounds_toArray, List.set_cons_zero, List.set_cons_succ]
        refine wpAnyH_take (i := 8) (oi := ?oiz5) (v := ?vz5) ?h1z5 (by kernel_rfl) (by kernel_rfl) (by kernel_rfl) ?h2z5 ?hyz5 (by assumption) ?restz5
        case h1z5 => (simp only [List.getElem?_toArray, List.getElem?_cons_succ, List.getElem?_cons_zero]; try rfl)
        case h2z5 => exact fun _ _ _ h => h
        case hyz5 => (refine Or.inl ⟨by rfl, ?_⟩; intro w hSw; (try dsimp only at hSw); go_simp; (try with_reducible rfl))
        try simp only [Act.put, List.setIfInBounds_toArray, List.set_cons_zero, List.set_cons_succ]
        refine wpAnyH_ready (rs := [1, 9]) (by kernel_rfl) (by simp) ?_
        refine (AllReadyH.cons (o := ?oiz14) ?h1z14 (fun K hK => ?restz14) (AllReadyH.cons (o := ?oiz15) ?h1z15 (fun K hK => ?restz15) AllReadyH.nil))
        case h1z14 => (simp only [List.getElem?_toArray, List.getElem?_cons_succ, List.getElem?_cons_zero]; try rfl)
        case h1z15 => (simp only [List.getElem?_toArray, List.getElem?_cons_succ, List.getElem?_cons_zero]; try rfl)
        case restz14 =>
          go_simp
          refine hK.out _ _ hD3.p (fun hHeld => ?_)
          clear hK K
          try simp only [Act.put, List.setIfInBounds_toArray, List.set_cons_zero, List.set_cons_succ]
          refine wpAnyH_ready (rs := [9]) (by kernel_rfl) (by simp) ?_
          refine (AllReadyH.cons (o := ?oiz13) ?h1z13 (fun K hK => ?restz13) AllReadyH.nil)
          case h1z13 => (simp only [List.getElem?_toArray, List.getElem?_cons_succ, List.getElem?_cons_zero]; try rfl)
          case restz13 =>
            go_simp
            have hD4 := hD3.keep (W' := w3.alloc (.cells #[.string ⟨t.toArray⟩, .int .i64 (n1 : Int), .int .i64 (n2 : Int)] 40)) ((Below.refl _ _).alloc (Nat.le_refl _) _)
            have y94 := hD4.c9
            refine hK.out _ _ hD4.p (fun hHeld => ?_)
            clear hK K
            try simp only [Act.put, List.setIfInBounds_toArray, List.set_cons_zero, List.set_cons_succ]
            refine wpAnyH_ready (rs := [10]) (by kernel_rfl) (by simp) ?_
            refine (AllReadyH.cons (o := ?oiz12) ?h1z12 (fun K hK => ?restz12) AllReadyH.nil)
            case h1z12 => (simp only [List.getElem?_toArray, List.getElem?_cons_succ, List.getElem?_cons_zero]; try rfl)
            case restz12 =>
              refine step_append_any (P := Tryz.prog) rfl _ _ _ rfl w0.heap.size 40 i0 (.agg #[.string ⟨#[]⟩, .int .i64 0, .int .i64 0]) 3 32 Tryz.underlying30 hi0 hz0 hz1 hz2 rfl (by decide) _ x.jobs.length (x.jobs.flatMap joE) rfl hD4.own.jo _ _ 1 [.string ⟨t.toArray⟩, .int .i64 (n1 : Int), .int .i64 (n2 : Int)] rfl (Or.inr ⟨⟨w3.heap.size, 0, none⟩, 1, rfl, fun _ => (show w3.heap.size < w3.heap.size + 1 by omega), cell_list (cs := [.string ⟨t.toArray⟩, .int .i64 (n1 : Int), .int .i64 (n2 : Int)]) rfl⟩) rfl (by simp [Value.oneCell']) (by unfold maxLen; omega) (by omega) hD4.below.size ?_
              intro v' w9 ho9 hg9 _ _
              have hp9 := hD4.pApp hg9
              have he9 := hD4.eApp hg9
              have hZ := hD4.addJob hg9 (j := ⟨t, n1, n2⟩) ho9
              obtain ⟨p9, c9, rfl⟩ := own_shape ho9
              have y9 := ent9 he9
              have f9 := efroz he9 9
              refine hK.out _ _ hp9 (fun hHeld => ?_)
              clear hK K
              try simp only [Act.put, List.setIfInBounds_toArray, List.set_cons_zero, List.set_cons_succ]
              refine wpAnyH_take (i := 11) (oi := ?oiz10) (v := ?vz10) ?h1z10 (by kernel_rfl) (by kernel_rfl) (by kernel_rfl) ?h2z10 ?hyz10 (by assumption) ?restz10
              case h1z10 => (simp only [List.getElem?_toArray, List.getElem?_cons_succ, List.getElem?_cons_zero]; try rfl)
              case h2z10 => exact fun _ _ _ h => h
              case hyz10 => (refine Or.inl ⟨by rfl, ?_⟩; intro w hSw; (try dsimp only at hSw); go_simp; (try with_reducible rfl))
              try simp only [Act.put, List.setIfInBounds_toArray, List.set_cons_zero, List.set_cons_succ]
              refine wpAnyH_ready (rs := [12]) (by kernel_rfl) (by simp) ?_
              refine (AllReadyH.cons (o := ?oiz11) ?h1z11 (fun K hK => ?restz11) AllReadyH.nil)
              case h1z11 => (simp only [List.getElem?_toArray, List.getElem?_cons_succ, List.getElem?_cons_zero]; try rfl)
              case restz11 =>
                go_simp
                refine hK.out _ _ hZ.p (fun hHeld => ?_)
                clear hK K
                try simp only [Act.put, List.setIfInBounds_toArray, List.set_cons_zero, List.set_cons_succ]
                refine wpAnyH_done (by kernel_rfl) ?_ _
                have HZ := Lib.hid hZ
                clear hZ y9 f9 he9 hp9
                go_wp2
                go_end0
                exact ⟨rfl, _, HZ.out⟩
        case restz15 =>
          go_simp
          have hD4 := hD3.keep (W' := w3.alloc (.cells #[.string ⟨t.toArray⟩, .int .i64 (n1 : Int), .int .i64 (n2 : Int)] 40)) ((Below.refl _ _).alloc (Nat.le_refl _) _)
          have y94 := hD4.c9
          refine hK.out _ _ hD4.p (fun hHeld => ?_)
          clear hK K
          try simp only [Act.put, List.setIfInBounds_toArray, List.set_cons_zero, List.set_cons_succ]
          refine wpAnyH_ready (rs := [1]) (by kernel_rfl) (by simp) ?_
          refine (AllReadyH.cons (o := ?oiz9) ?h1z9 (fun K hK => ?restz9) AllReadyH.nil)
          case h1z9 => (simp only [List.getElem?_toArray, List.getElem?_cons_succ, List.getElem?_cons_zero]; try rfl)
          case restz9 =>
            go_simp
            refine hK.out _ _ hD4.p (fun hHeld => ?_)
            clear hK K
            try simp only [Act.put, List.setIfInBounds_toArray, List.set_cons_zero, List.set_cons_succ]
            refine wpAnyH_ready (rs := [10]) (by kernel_rfl) (by simp) ?_
            refine (AllReadyH.cons (o := ?oiz8) ?h1z8 (fun K hK => ?restz8) AllReadyH.nil)
            case h1z8 => (simp only [List.getElem?_toArray, List.getElem?_cons_succ, List.getElem?_cons_zero]; try rfl)
            case restz8 =>
              refine step_append_any (P := Tryz.prog) rfl _ _ _ rfl w0.heap.size 40 i0 (.agg #[.string ⟨#[]⟩, .int .i64 0, .int .i64 0]) 3 32 Tryz.underlying30 hi0 hz0 hz1 hz2 rfl (by decide) _ x.jobs.length (x.jobs.flatMap joE) rfl hD4.own.jo _ _ 1 [.string ⟨t.toArray⟩, .int .i64 (n1 : Int), .int .i64 (n2 : Int)] rfl (Or.inr ⟨⟨w3.heap.size, 0, none⟩, 1, rfl, fun _ => (show w3.heap.size < w3.heap.size + 1 by omega), cell_list (cs := [.string ⟨t.toArray⟩, .int .i64 (n1 : Int), .int .i64 (n2 : Int)]) rfl⟩) rfl (by simp [Value.oneCell']) (by unfold maxLen; omega) (by omega) hD4.below.size ?_
              intro v' w9 ho9 hg9 _ _
              have hp9 := hD4.pApp hg9
              have he9 := hD4.eApp hg9
              have hZ := hD4.addJob hg9 (j := ⟨t, n1, n2⟩) ho9
              obtain ⟨p9, c9, rfl⟩ := own_shape ho9
              have y9 := ent9 he9
              have f9 := efroz he9 9
              refine hK.out _ _ hp9 (fun hHeld => ?_)
              clear hK K
              try simp only [Act.put, List.setIfInBounds_toArray, List.set_cons_zero, List.set_cons_succ]
              refine wpAnyH_take (i := 11) (oi := ?oiz6) (v := ?vz6) ?h1z6 (by kernel_rfl) (by kernel_rfl) (by kernel_rfl) ?h2z6 ?hyz6 (by assumption) ?restz6
              case h1z6 => (simp only [List.getElem?_toArray, List.getElem?_cons_succ, List.getElem?_cons_zero]; try rfl)
              case h2z6 => exact fun _ _ _ h => h
              case hyz6 => (refine Or.inl ⟨by rfl, ?_⟩; intro w hSw; (try dsimp only at hSw); go_simp; (try with_reducible rfl))
              try simp only [Act.put, List.setIfInBounds_toArray, List.set_cons_zero, List.set_cons_succ]
              refine wpAnyH_ready (rs := [12]) (by kernel_rfl) (by simp) ?_
              refine (AllReadyH.cons (o := ?oiz7) ?h1z7 (fun K hK => ?restz7) AllReadyH.nil)
              case h1z7 => (simp only [List.getElem?_toArray, List.getElem?_cons_succ, List.getElem?_cons_zero]; try rfl)
              case restz7 =>
                go_simp
                refine hK.out _ _ hZ.p (fun hHeld => ?_)
                clear hK K
                try simp only [Act.put, List.setIfInBounds_toArray, List.set_cons_zero, List.set_cons_succ]
                refine wpAnyH_done (by kernel_rfl) ?_ _
                have HZ := Lib.hid hZ
                clear hZ y9 f9 he9 hp9
                go_wp2
                go_end0
                exact ⟨rfl, _, HZ.out⟩
end Go.Proofs.YtdlpdpelhkgnlaaGreatDoor
