/- EntryFirst: the walk. -/
import Derived.Test.YtdlpdpelhkgnlaaGreatDoorEfsp
import Derived.Deep.CutRange
import Derived.Deep.RegionHeld3
namespace Go.Proofs.YtdlpdpelhkgnlaaGreatDoor
open Go Go.RowKit Go.Shelf Go.Sort
attribute [local go_sem] bneI

theorem small_short {l : List EntP} (h : ∀ x ∈ l, SmallE x) (hs : ∀ x ∈ l, ∀ f ∈ x.fates, f.1 < 256) : (∀ x ∈ l, ShortE x) ∧ ∀ x ∈ l, x.jobs.length ≤ 2000 := by
  refine ⟨fun x hx => ?_, fun x hx => by have := (h x hx).jobs.len; omega⟩
  have hh := h x hx
  exact ⟨⟨by have := hh.mail.sender; omega, by have := hh.mail.envid; omega, by have := hh.mail.text; omega, by have := hh.mail.rcpts; omega, fun r hr => by have := hh.mail.tos r hr; omega⟩, by have := hh.fates.len; omega, by have := hh.jobs.len; omega, hs x hx, fun f hf => by have := hh.fates.texts f hf; omega, fun j hj => by have := hh.jobs.doms j hj; omega⟩
/-- Waits, its answer by its length alone. -/
theorem waits_len (x : EntP) (d : Bytes) (n : Nat) (hn : n = (waitsM x d).length) (sv fv jv : Value) (w : World) (hx : EntAt w x sv fv jv) (hs : ShortE x) (hE : Env w) :
    Calls Tryz.prog 14 #[entV x sv fv jv, .string ⟨d.toArray⟩] w fun e w' => (∃ p c, e = .returned (.slice p n c)) ∧ Below w.heap.size w w' := by
  refine (waits_any x d sv fv jv w hx hs hE).mono ?_
  rintro e w' ⟨⟨v, rfl, ho⟩, hb⟩
  obtain ⟨p, c, rfl⟩ := own_shape ho
  exact ⟨⟨p, c, by rw [hn]⟩, hb⟩
set_option maxRecDepth 100000 in
set_option maxHeartbeats 16000000 in
theorem firstLaw_any (l : List EntP) (p0 : Option Addr) (b o c : Nat) (now : Int) (w : World) (hp0 : l ≠ [] → p0 = some ⟨b, o, none⟩) (hx : EntsAt w b o l) (hst : ∀ x ∈ l, ∀ f ∈ x.fates, f.1 < 256) (hE : Env w) :
    Calls Tryz.prog 4 #[.slice p0 l.length c, .int .i64 now] w fun e w' => e = .returned (.bool true) ∧ Below w.heap.size w w' := by
  have hWk := works_any w hE
  have HX := Lib.hid (And.intro hx (And.intro hst (And.intro hE hp0)))
  clear hx hst hE hp0
  go_enter Tryz.func4, Tryz.ntmps4
  go_wp2_with fail
  refine hWk.mono ?_
  rintro e w2 ⟨rfl, hb2⟩
  have hLg := large_any l p0 b o c w2 HX.out.2.2.2 ⟨fun hi _ hB => HX.out.1.ent hi (hb2.trans (hB.mono hb2.size))⟩
  have H2 := Lib.hid hb2
  clear hWk hb2
  go_wp2_with fail
  refine hLg.mono ?_
  rintro e w4 ⟨⟨v, rfl, hsm⟩, hb4⟩
  have H4 := Lib.hid (H2.out.trans (hb4.mono H2.out.size))
  clear hLg hb4
  cases v with
  | true =>
    have hW2 := works_any w4 (HX.out.2.2.1.keep H4.out)
    clear hsm
    go_wp2_with fail
    refine hW2.mono ?_
    rintro e w5 ⟨rfl, hb5⟩
    have H5 := Lib.hid (H4.out.trans (hb5.mono H4.out.size))
    clear hW2 hb5
    go_wp2
    refine bodyPost_ret (v := .bool true) (by simp [results, Tryz.results4, go_sem]) rfl ⟨rfl, H5.out⟩
  | false =>
    obtain ⟨hl9, hsm⟩ := hsm rfl
    have hsh := small_short hsm HX.out.2.1
    have hNx := next_any l p0 b o c now w4 HX.out.2.2.2 ⟨fun hi _ hB => HX.out.1.ent hi (H4.out.trans (hB.mono H4.out.size))⟩ hsh.1 hsh.2 (by omega) (HX.out.2.2.1.keep H4.out)
    have HS := Lib.hid (And.intro hsh hl9)
    clear hsm hsh
    go_wp2_with fail
    refine hNx.mono ?_
    rintro e w5 ⟨hp, hb5⟩
    obtain ⟨id, d, is, rfl, ht⟩ := next_tup hp
    have H5 := Lib.hid (H4.out.trans (hb5.mono H4.out.size))
    have HT := Lib.hid ht
    have hn64 : l.length ≤ 1000 := by omega
    clear hNx hp hb5 ht hl9
    go_wp2_with fail
    go_loopw [8, 9, 10] (fun s8 s9 s10 wr => ∃ (i : Nat) (due : Int) (found : Bool), s10 = .int .i64 (i : Int) ∧ s8 = .int .i64 due ∧ s9 = .bool found ∧ i ≤ l.length ∧ DueOf (mdues id d now (l.take i)) due found ∧ Below w.heap.size w wr) (fun _ _ s10 _ => l.length - natI s10)
    case atStart => exact ⟨0, 0, false, rfl, rfl, rfl, Nat.zero_le _, .inl ⟨rfl, rfl⟩, H5.out⟩
    case round =>
      obtain ⟨i, due, found, rfl, rfl, rfl, hi, hD, hB⟩ := hrel
      have HR := Lib.hid (And.intro hD hB)
      clear hD hB
      by_cases hlast : i < l.length
      · have hli : (i : Int) < (l.length : Int) := by omega
        have hpe := HX.out.2.2.2 (fun e => by rw [e] at hlast; simp at hlast)
        subst hpe
        obtain ⟨x, hxe⟩ : ∃ x, l[i]? = some x := ⟨_, List.getElem?_eq_getElem hlast⟩
        obtain ⟨p1, c1, p2, c2, p3, c3, hrd⟩ := ents_read HX.out.1 hxe
        have hxm : x ∈ l := List.mem_of_getElem? hxe
        have HRD := Lib.hid hrd
        have HXE := Lib.hid (And.intro hxe (And.intro (HS.out.1.1 x hxm) hlast))
        have hjn := HS.out.1.2 x hxm
        clear hrd hxe hxm
        have HD0 := Lib.hid (show DueOf (mdues id d now (l.take i) ++ mduesP id d now x 0) due found from HR.out.1.skip)
        go_wp2_with fail
        generalize hww : wr = w6 at *
        clear hww
        go_loopw [8, 9, 11] (fun s8 s9 s11 wr => ∃ (k : Nat) (due : Int) (found : Bool), s11 = .int .i64 (k : Int) ∧ s8 = .int .i64 due ∧ s9 = .bool found ∧ k ≤ x.jobs.length ∧ DueOf (mdues id d now (l.take i) ++ mduesP id d now x k) due found ∧ Below w.heap.size w wr) (fun _ _ s11 _ => x.jobs.length - natI s11)
        case atStart => exact ⟨0, due, found, rfl, rfl, rfl, Nat.zero_le _, HD0.out, HR.out.2⟩
        case round =>
          obtain ⟨k, due2, found2, rfl, rfl, rfl, hk, hD, hB⟩ := hrel
          have HR2 := Lib.hid (And.intro hD hB)
          obtain ⟨hEA, k0, k1, k2, k3, k4, k5, k6, k7, k8, k9⟩ := HRD.out wr hB
          clear hD hB
          by_cases hkl : k < x.jobs.length
          · have hkli : (k : Int) < (x.jobs.length : Int) := by omega
            have hw1 : wrap64 ((k : Int) + 1) = (k : Int) + 1 := by unfold wrap64; omega
            obtain ⟨b3, o3, rfl, hc⟩ := hEA.jo.at k hkl
            obtain ⟨j, hj⟩ : ∃ j, x.jobs[k]? = some j := ⟨_, List.getElem?_eq_getElem hkl⟩
            have hji : x.jobs[k] = j := by rw [List.getElem?_eq_getElem hkl] at hj; injection hj
            have hc' := hc k hkl
            rw [hji] at hc'
            have y0 : wr.cell? ⟨b3, o3 + k * 3, none⟩ = some (.string ⟨j.dom.toArray⟩) := hc' 0 _ rfl
            have y1 : wr.cell? ⟨b3, o3 + k * 3 + 1, none⟩ = some (.int .i64 j.tries) := hc' 1 _ rfl
            have y2 : wr.cell? ⟨b3, o3 + k * 3 + 2, none⟩ = some (.int .i64 j.due) := hc' 2 _ rfl
            have hsu := mduesP_succ (id := id) (d := d) (now := now) hj
            have HSU := Lib.hid hsu
            clear hc hc' hji hj hsu hEA k0 k1 k2 k3 k4 k5 k6 k7 k8
            go_upto_region 12 with (fail)
            have hb3 : Below wr.heap.size wr (wr.alloc (.cells (joE j).toArray 40)) := (Below.refl _ _).alloc (Nat.le_refl _) _
            have hj3 : (wr.alloc (.cells (joE j).toArray 40)).heap[wr.heap.size]? = some (.cells (joE j).toArray 40 (0, 0)) := ha_eq rfl
            unfold joE at hb3 hj3
            generalize hW3 : World.alloc wr _ = w3 at hb3 hj3 ⊢
            obtain ⟨jx, hjx⟩ : ∃ jx, jx = wr.heap.size := ⟨_, rfl⟩
            have H3 := Lib.hid (And.intro (HR2.out.2.trans (hb3.mono HR2.out.2.size)) hj3)
            rw [← hjx] at H3 ⊢
            clear hW3 hb3 hj3 y0 y1 y2 hjx k9
            obtain ⟨z0, z1, z2⟩ := jbox H3.out.2
            obtain ⟨hEA, k0, k1, k2, k3, k4, k5, k6, k7, k8, k9⟩ := HRD.out w3 H3.out.1
            obtain ⟨n, hn⟩ : ∃ n, n = (waitsM x d).length := ⟨_, rfl⟩
            have hWt := waits_len x d n hn _ _ _ w3 hEA HXE.out.2.1 (HX.out.2.2.1.keep H3.out.1)
            unfold entV entC at hWt
            have HNN := Lib.hid (show waitsM x d ≠ [] ↔ n ≠ 0 by rw [hn]; simp)
            clear hn hEA
            go_cut [92] from 36 to 94 (fun s92 w' => s92 = .bool (matchJ id d now x j && (!found2 || decide (j.due < due2))) ∧ Below w3.heap.size w3 w')
            case first =>
              by_cases h1 : x.id = id
              · have i1 : (x.id == id) = true := by simpa using h1
                have i2 : decide (x.id = id) = true := by simpa using h1
                by_cases h2 : j.dom = d
                · have i3 : (j.dom == d) = true := by simpa using h2
                  rw [h1] at hWt
                  go_wp2_with fail
                  refine hWt.mono ?_
                  rintro e w7 ⟨⟨pp, cc, rfl⟩, hb7⟩
                  have z2' := (hb7.cell (p := ⟨_, _, none⟩) (cell_lt z2)).trans z2
                  have HB7 := Lib.hid hb7
                  clear hWt hb7 z0 z1 z2 k0 k1 k2 k3 k4 k5 k6 k7 k8 k9
                  by_cases h3 : n = 0
                  · have hm : matchJ id d now x j = false := by
                      have : waitsM x d = [] := Classical.byContradiction fun h => HNN.out.1 h h3
                      simp [matchJ, this]
                    have HM := Lib.hid hm
                    subst h3
                    clear hm h1 h2 i1 i2 i3
                    go_wp2
                    go_meet
                    case rel => exact ⟨by rw [HM.out]; rfl, HB7.out⟩
                  · have h3i : (0 : Int) < (n : Int) := by omega
                    have h3n : 0 < n := by omega
                    by_cases h4 : j.due ≤ now
                    · have hm : matchJ id d now x j = true := by simp [matchJ, h1, h2, HNN.out.2 h3, h4]
                      have HM := Lib.hid hm
                      clear hm h1 h2 i1 i2 i3
                      cases found2 with
                      | false =>
                        go_wp2
                        go_meet
                        case rel => exact ⟨by rw [HM.out]; rfl, HB7.out⟩
                      | true =>
                        by_cases h5 : j.due < due2
                        · go_wp2
                          go_meet
                          case rel => exact ⟨by rw [HM.out, decide_eq_true h5]; rfl, HB7.out⟩
                        · go_wp2
                          go_meet
                          case rel => exact ⟨by rw [HM.out, decide_eq_false (show ¬ j.due < due2 by omega)]; rfl, HB7.out⟩
                    · have hm : matchJ id d now x j = false := by simp [matchJ, h4]
                      have HM := Lib.hid hm
                      clear hm h1 h2 i1 i2 i3
                      go_wp2
                      go_meet
                      case rel => exact ⟨by rw [HM.out]; rfl, HB7.out⟩
                · have i3 : (j.dom == d) = false := by simpa using h2
                  have HM := Lib.hid (show matchJ id d now x j = false by simp [matchJ, h2])
                  clear hWt h2
                  go_wp2
                  go_meet
                  case rel => exact ⟨by rw [HM.out]; rfl, Below.refl _ _⟩
              · have i1 : (x.id == id) = false := by simpa using h1
                have i2 : decide (x.id = id) = false := by simpa using h1
                have HM := Lib.hid (show matchJ id d now x j = false by simp [matchJ, h1])
                clear hWt
                go_wp2
                go_meet
                case rel => exact ⟨by rw [HM.out]; rfl, Below.refl _ _⟩
            case rest =>
              obtain ⟨rfl, hbc⟩ := hcut
              have z2c := (hbc.cell (p := ⟨_, _, none⟩) (cell_lt z2)).trans z2
              have HC := Lib.hid (H3.out.1.trans (hbc.mono H3.out.1.size))
              clear hWt hbc z0 z1 z2 k0 k1 k2 k3 k4 k5 k6 k7 k8 k9
              have hsu := HSU.out
              cases hmj : matchJ id d now x j with
              | true =>
                rw [if_pos hmj] at hsu
                cases hlt : (!found2 || decide (j.due < due2)) with
                | true =>
                  have hD := HR2.out.1.more (y := j.due) hlt
                  rw [List.append_assoc, ← hsu] at hD
                  have HD := Lib.hid hD
                  clear hD hsu hlt hmj
                  go_wp2
                  go_roundw
                  case rel => exact ⟨k + 1, j.due, true, by simp [hw1], rfl, rfl, hkl, HD.out, HC.out⟩
                  case measure => simp [natI, hw1]; omega
                | false =>
                  have hD := HR2.out.1.less (y := j.due) hlt
                  rw [List.append_assoc, ← hsu] at hD
                  have HD := Lib.hid hD
                  clear hD hsu hlt hmj
                  go_wp2
                  go_roundw
                  case rel => exact ⟨k + 1, due2, found2, by simp [hw1], rfl, rfl, hkl, HD.out, HC.out⟩
                  case measure => simp [natI, hw1]; omega
              | false =>
                rw [if_neg (by simp [hmj]), List.append_nil] at hsu
                have hD := HR2.out.1
                rw [← hsu] at hD
                have HD := Lib.hid hD
                clear hD hsu hmj
                rw [Bool.false_and]
                go_wp2
                go_roundw
                case rel => exact ⟨k + 1, due2, found2, by simp [hw1], rfl, rfl, hkl, HD.out, HC.out⟩
                case measure => simp [natI, hw1]; omega
          · have hkli : ¬ (k : Int) < (x.jobs.length : Int) := by omega
            have hw1 : wrap64 ((i : Int) + 1) = (i : Int) + 1 := by unfold wrap64; omega
            have hke : k = x.jobs.length := by omega
            have hD2 := HR2.out.1
            rw [hke, mduesP_all, ← mdues_succ HXE.out.1] at hD2
            have HD2 := Lib.hid hD2
            clear hD2 hke hk hkl
            go_wp2
            go_roundw
            case rel => exact ⟨i + 1, due2, found2, by simp [hw1], rfl, rfl, HXE.out.2.2, HD2.out, HR2.out.2⟩
            case measure => have := HXE.out.2.2; simp [natI, hw1]; omega
      · have hli : ¬ (i : Int) < (l.length : Int) := by omega
        have hD := HR.out.1
        rw [List.take_of_length_le (by omega)] at hD
        have HD := Lib.hid (And.intro (first_found HT.out hD) (first_all HT.out hD))
        clear hD
        go_upto_region 14 with (fail)
        go_cut [100] (fun s100 w' => s100 = .bool false ∧ w' = wr)
        case first =>
          have h1 := HD.out.1
          cases is with
          | true =>
            have h2 := h1 rfl
            subst h2
            go_wp2
            go_meet
            case rel => exact ⟨rfl, rfl⟩
          | false =>
            clear h1
            cases found with
            | true =>
              go_wp2
              go_meet
              case rel => exact ⟨rfl, rfl⟩
            | false =>
              go_wp2
              go_meet
              case rel => exact ⟨rfl, rfl⟩
        case rest =>
          obtain ⟨rfl, rfl⟩ := hcut
          have HC := Lib.hid HR.out.2
          clear HR
          go_wp2_with fail
          go_loopw [13] (fun s13 wr => ∃ (i : Nat), s13 = .int .i64 (i : Int) ∧ i ≤ l.length ∧ Below w.heap.size w wr) (fun s13 _ => l.length - natI s13)
          case atStart => exact ⟨0, rfl, Nat.zero_le _, HC.out⟩
          case round =>
            obtain ⟨i2, rfl, hi2, hB⟩ := hrel
            have HR := Lib.hid hB
            clear hB
            by_cases hlast : i2 < l.length
            · have hli : (i2 : Int) < (l.length : Int) := by omega
              have hpe := HX.out.2.2.2 (fun e => by rw [e] at hlast; simp at hlast)
              subst hpe
              obtain ⟨x, hxe⟩ : ∃ x, l[i2]? = some x := ⟨_, List.getElem?_eq_getElem hlast⟩
              obtain ⟨p1, c1, p2, c2, p3, c3, hrd⟩ := ents_read HX.out.1 hxe
              have hxm : x ∈ l := List.mem_of_getElem? hxe
              have HRD := Lib.hid hrd
              have HXE := Lib.hid (And.intro hxm (And.intro (HS.out.1.1 x hxm) hlast))
              have hjn := HS.out.1.2 x hxm
              clear hrd hxe hxm
              go_wp2_with fail
              generalize hww : wr = w6 at *
              clear hww
              go_loopw [14] (fun s14 wr => ∃ (k : Nat), s14 = .int .i64 (k : Int) ∧ k ≤ x.jobs.length ∧ Below w.heap.size w wr) (fun s14 _ => x.jobs.length - natI s14)
              case atStart => exact ⟨0, rfl, Nat.zero_le _, HR.out⟩
              case round =>
                obtain ⟨k, rfl, hk, hB⟩ := hrel
                have HR2 := Lib.hid hB
                obtain ⟨hEA, k0, k1, k2, k3, k4, k5, k6, k7, k8, k9⟩ := HRD.out wr hB
                clear hB
                by_cases hkl : k < x.jobs.length
                · have hkli : (k : Int) < (x.jobs.length : Int) := by omega
                  have hw1 : wrap64 ((k : Int) + 1) = (k : Int) + 1 := by unfold wrap64; omega
                  obtain ⟨b3, o3, rfl, hc⟩ := hEA.jo.at k hkl
                  obtain ⟨j, hj⟩ : ∃ j, x.jobs[k]? = some j := ⟨_, List.getElem?_eq_getElem hkl⟩
                  have hji : x.jobs[k] = j := by rw [List.getElem?_eq_getElem hkl] at hj; injection hj
                  have hc' := hc k hkl
                  rw [hji] at hc'
                  have y0 : wr.cell? ⟨b3, o3 + k * 3, none⟩ = some (.string ⟨j.dom.toArray⟩) := hc' 0 _ rfl
                  have y1 : wr.cell? ⟨b3, o3 + k * 3 + 1, none⟩ = some (.int .i64 j.tries) := hc' 1 _ rfl
                  have y2 : wr.cell? ⟨b3, o3 + k * 3 + 2, none⟩ = some (.int .i64 j.due) := hc' 2 _ rfl
                  have HAL := Lib.hid (HD.out.2 x HXE.out.1 j (List.mem_of_getElem? hj))
                  clear hc hc' hji hj hEA k0 k1 k2 k3 k4 k5 k6 k7 k8
                  go_upto_region 23 with (fail)
                  have hb3 : Below wr.heap.size wr (wr.alloc (.cells (joE j).toArray 40)) := (Below.refl _ _).alloc (Nat.le_refl _) _
                  have hj3 : (wr.alloc (.cells (joE j).toArray 40)).heap[wr.heap.size]? = some (.cells (joE j).toArray 40 (0, 0)) := ha_eq rfl
                  unfold joE at hb3 hj3
                  generalize hW3 : World.alloc wr _ = w3 at hb3 hj3 ⊢
                  obtain ⟨jx, hjx⟩ : ∃ jx, jx = wr.heap.size := ⟨_, rfl⟩
                  have H3 := Lib.hid (And.intro (HR2.out.trans (hb3.mono HR2.out.size)) hj3)
                  rw [← hjx] at H3 ⊢
                  clear hW3 hb3 hj3 y0 y1 y2 hjx k9
                  obtain ⟨z0, z1, z2⟩ := jbox H3.out.2
                  by_cases h4 : j.due ≤ now
                  · obtain ⟨hEA, k0, k1, k2, k3, k4, k5, k6, k7, k8, k9⟩ := HRD.out w3.drew (H3.out.1.trans ((below_drew w3).mono H3.out.1.size))
                    obtain ⟨n, hn⟩ : ∃ n, n = (waitsM x j.dom).length := ⟨_, rfl⟩
                    have hWt := waits_len x j.dom n hn _ _ _ w3.drew hEA HXE.out.2.1 (HX.out.2.2.1.keep (H3.out.1.trans ((below_drew w3).mono H3.out.1.size)))
                    unfold entV entC at hWt
                    have hSk : ∀ W, Below w3.drew.heap.size w3.drew W → W.cell? ⟨jx, 0, none⟩ = some (.string ⟨j.dom.toArray⟩) ∧ W.cell? ⟨jx, 1, none⟩ = some (.int .i64 j.tries) ∧ W.cell? ⟨jx, 2, none⟩ = some (.int .i64 j.due) ∧ W.cell? ⟨b, o + i2 * 10, none⟩ = some (.int .i64 x.id) ∧ W.cell? ⟨b, o + i2 * 10 + 1, none⟩ = some (.int .i64 x.at_) ∧ W.cell? ⟨b, o + i2 * 10 + 2, none⟩ = some (.string ⟨x.mail.sender.toArray⟩) ∧ W.cell? ⟨b, o + i2 * 10 + 3, none⟩ = some (.slice p1 x.mail.rcpts.length c1) ∧ W.cell? ⟨b, o + i2 * 10 + 4, none⟩ = some (.bool x.mail.req) ∧ W.cell? ⟨b, o + i2 * 10 + 5, none⟩ = some (.string ⟨x.mail.envid.toArray⟩) ∧ W.cell? ⟨b, o + i2 * 10 + 6, none⟩ = some (.string ⟨x.mail.text.toArray⟩) ∧ W.cell? ⟨b, o + i2 * 10 + 7, none⟩ = some (.bool x.plain) ∧ W.cell? ⟨b, o + i2 * 10 + 8, none⟩ = some (.slice p2 x.fates.length c2) ∧ W.cell? ⟨b, o + i2 * 10 + 9, none⟩ = some (.slice (some ⟨b3, o3, none⟩) x.jobs.length c3) := fun W hb => ⟨(hb.cell (p := ⟨_, _, none⟩) (cell_lt z0)).trans z0, (hb.cell (p := ⟨_, _, none⟩) (cell_lt z1)).trans z1, (hb.cell (p := ⟨_, _, none⟩) (cell_lt z2)).trans z2, (hb.cell (p := ⟨_, _, none⟩) (cell_lt k0)).trans k0, (hb.cell (p := ⟨_, _, none⟩) (cell_lt k1)).trans k1, (hb.cell (p := ⟨_, _, none⟩) (cell_lt k2)).trans k2, (hb.cell (p := ⟨_, _, none⟩) (cell_lt k3)).trans k3, (hb.cell (p := ⟨_, _, none⟩) (cell_lt k4)).trans k4, (hb.cell (p := ⟨_, _, none⟩) (cell_lt k5)).trans k5, (hb.cell (p := ⟨_, _, none⟩) (cell_lt k6)).trans k6, (hb.cell (p := ⟨_, _, none⟩) (cell_lt k7)).trans k7, (hb.cell (p := ⟨_, _, none⟩) (cell_lt k8)).trans k8, (hb.cell (p := ⟨_, _, none⟩) (cell_lt k9)).trans k9⟩
                    have hS0 := hSk w3.drew (Below.refl _ _)
                    have hne : n ≠ 0 → waitsM x j.dom ≠ [] := fun h e => h (by rw [hn, e]; rfl)
                    have h4i : decide (j.due ≤ now) = true := decide_eq_true h4
                    clear hEA hn
                    by_cases h3 : n = 0
                    · have h3i : ¬ (0 : Int) < (n : Int) := by omega
                      have h3n : ¬ 0 < n := by omega
                      have h3d : decide (0 < n) = false := decide_eq_false h3n
                      have h3e : decide ((0 : Int) < (n : Int)) = false := decide_eq_false h3i
                      clear hne h3
                      refine wp_region_held_drew (S := (fun W => W.cell? ⟨jx, 0, none⟩ = some (.string ⟨j.dom.toArray⟩) ∧ W.cell? ⟨jx, 1, none⟩ = some (.int .i64 j.tries) ∧ W.cell? ⟨jx, 2, none⟩ = some (.int .i64 j.due) ∧ W.cell? ⟨b, o + i2 * 10, none⟩ = some (.int .i64 x.id) ∧ W.cell? ⟨b, o + i2 * 10 + 1, none⟩ = some (.int .i64 x.at_) ∧ W.cell? ⟨b, o + i2 * 10 + 2, none⟩ = some (.string ⟨x.mail.sender.toArray⟩) ∧ W.cell? ⟨b, o + i2 * 10 + 3, none⟩ = some (.slice p1 x.mail.rcpts.length c1) ∧ W.cell? ⟨b, o + i2 * 10 + 4, none⟩ = some (.bool x.mail.req) ∧ W.cell? ⟨b, o + i2 * 10 + 5, none⟩ = some (.string ⟨x.mail.envid.toArray⟩) ∧ W.cell? ⟨b, o + i2 * 10 + 6, none⟩ = some (.string ⟨x.mail.text.toArray⟩) ∧ W.cell? ⟨b, o + i2 * 10 + 7, none⟩ = some (.bool x.plain) ∧ W.cell? ⟨b, o + i2 * 10 + 8, none⟩ = some (.slice p2 x.fates.length c2) ∧ W.cell? ⟨b, o + i2 * 10 + 9, none⟩ = some (.slice (some ⟨b3, o3, none⟩) x.jobs.length c3))) (by kernel_rfl) hS0 (fun hHeld => ?_)
                      refine wpAnyH_take (i := 0) (oi := ?oix0) (v := ?vx0) ?h1x0 (by kernel_rfl) (by kernel_rfl) (by kernel_rfl) ?h2x0 ?hyx0 (by assumption) ?restx0
                      case h1x0 => (simp only [List.getElem?_toArray, List.getElem?_cons_succ, List.getElem?_cons_zero]; try rfl)
                      case h2x0 => exact fun _ _ _ h => h
                      case hyx0 => (refine Or.inl ⟨by rfl, ?_⟩; intro w hSw; (try dsimp only at hSw); go_simp; (try with_reducible rfl))
                      try simp only [Act.put, List.setIfInBounds_toArray, List.set_cons_zero, List.set_cons_succ]
                      refine wpAnyH_take (i := 1) (oi := ?oix1) (v := ?vx1) ?h1x1 (by kernel_rfl) (by kernel_rfl) (by kernel_rfl) ?h2x1 ?hyx1 (by assumption) ?restx1
                      case h1x1 => (simp only [List.getElem?_toArray, List.getElem?_cons_succ, List.getElem?_cons_zero]; try rfl)
                      case h2x1 => exact fun _ _ _ h => h
                      case hyx1 => (refine Or.inl ⟨by rfl, ?_⟩; intro w hSw; (try dsimp only at hSw); go_simp; (try with_reducible rfl))
                      try simp only [Act.put, List.setIfInBounds_toArray, List.set_cons_zero, List.set_cons_succ]
                      refine wpAnyH_take (i := 2) (oi := ?oix2) (v := ?vx2) ?h1x2 (by kernel_rfl) (by kernel_rfl) (by kernel_rfl) ?h2x2 ?hyx2 (by assumption) ?restx2
                      case h1x2 => (simp only [List.getElem?_toArray, List.getElem?_cons_succ, List.getElem?_cons_zero]; try rfl)
                      case h2x2 => exact fun _ _ _ h => h
                      case hyx2 => (refine Or.inl ⟨by rfl, ?_⟩; intro w hSw; (try dsimp only at hSw); go_simp; (try with_reducible rfl))
                      try simp only [Act.put, List.setIfInBounds_toArray, List.set_cons_zero, List.set_cons_succ]
                      refine wpAnyH_take (i := 3) (oi := ?oix3) (v := ?vx3) ?h1x3 (by kernel_rfl) (by kernel_rfl) (by kernel_rfl) ?h2x3 ?hyx3 (by assumption) ?restx3
                      case h1x3 => (simp only [List.getElem?_toArray, List.getElem?_cons_succ, List.getElem?_cons_zero]; try rfl)
                      case h2x3 => exact fun _ _ _ h => h
                      case hyx3 => (refine Or.inl ⟨by rfl, ?_⟩; intro w hSw; (try dsimp only at hSw); go_simp; (try with_reducible rfl))
                      try simp only [Act.put, List.setIfInBounds_toArray, List.set_cons_zero, List.set_cons_succ]
                      refine wpAnyH_take (i := 4) (oi := ?oix4) (v := ?vx4) ?h1x4 (by kernel_rfl) (by kernel_rfl) (by kernel_rfl) ?h2x4 ?hyx4 (by assumption) ?restx4
                      case h1x4 => (simp only [List.getElem?_toArray, List.getElem?_cons_succ, List.getElem?_cons_zero]; try rfl)
                      case h2x4 => exact fun _ _ _ h => h
                      case hyx4 => (refine Or.inl ⟨by rfl, ?_⟩; intro w hSw; (try dsimp only at hSw); go_simp; (try with_reducible rfl))
                      try simp only [Act.put, List.setIfInBounds_toArray, List.set_cons_zero, List.set_cons_succ]
                      refine wpAnyH_take (i := 5) (oi := ?oix5) (v := ?vx5) ?h1x5 (by kernel_rfl) (by kernel_rfl) (by kernel_rfl) ?h2x5 ?hyx5 (by assumption) ?restx5
                      case h1x5 => (simp only [List.getElem?_toArray, List.getElem?_cons_succ, List.getElem?_cons_zero]; try rfl)
                      case h2x5 => exact fun _ _ _ h => h
                      case hyx5 => (refine Or.inl ⟨by rfl, ?_⟩; intro w hSw; (try dsimp only at hSw); go_simp; (try with_reducible rfl))
                      try simp only [Act.put, List.setIfInBounds_toArray, List.set_cons_zero, List.set_cons_succ]
                      refine wpAnyH_take (i := 6) (oi := ?oix6) (v := ?vx6) ?h1x6 (by kernel_rfl) (by kernel_rfl) (by kernel_rfl) ?h2x6 ?hyx6 (by assumption) ?restx6
                      case h1x6 => (simp only [List.getElem?_toArray, List.getElem?_cons_succ, List.getElem?_cons_zero]; try rfl)
                      case h2x6 => exact fun _ _ _ h => h
                      case hyx6 => (refine Or.inl ⟨by rfl, ?_⟩; intro w hSw; (try dsimp only at hSw); go_simp; (try with_reducible rfl))
                      try simp only [Act.put, List.setIfInBounds_toArray, List.set_cons_zero, List.set_cons_succ]
                      refine wpAnyH_take (i := 7) (oi := ?oix7) (v := ?vx7) ?h1x7 (by kernel_rfl) (by kernel_rfl) (by kernel_rfl) ?h2x7 ?hyx7 (by assumption) ?restx7
                      case h1x7 => (simp only [List.getElem?_toArray, List.getElem?_cons_succ, List.getElem?_cons_zero]; try rfl)
                      case h2x7 => exact fun _ _ _ h => h
                      case hyx7 => (refine Or.inl ⟨by rfl, ?_⟩; intro w hSw; (try dsimp only at hSw); go_simp; (try with_reducible rfl))
                      try simp only [Act.put, List.setIfInBounds_toArray, List.set_cons_zero, List.set_cons_succ]
                      refine wpAnyH_take (i := 8) (oi := ?oix8) (v := ?vx8) ?h1x8 (by kernel_rfl) (by kernel_rfl) (by kernel_rfl) ?h2x8 ?hyx8 (by assumption) ?restx8
                      case h1x8 => (simp only [List.getElem?_toArray, List.getElem?_cons_succ, List.getElem?_cons_zero]; try rfl)
                      case h2x8 => exact fun _ _ _ h => h
                      case hyx8 => (refine Or.inl ⟨by rfl, ?_⟩; intro w hSw; (try dsimp only at hSw); go_simp; (try with_reducible rfl))
                      try simp only [Act.put, List.setIfInBounds_toArray, List.set_cons_zero, List.set_cons_succ]
                      refine wpAnyH_take (i := 9) (oi := ?oix9) (v := ?vx9) ?h1x9 (by kernel_rfl) (by kernel_rfl) (by kernel_rfl) ?h2x9 ?hyx9 (by assumption) ?restx9
                      case h1x9 => (simp only [List.getElem?_toArray, List.getElem?_cons_succ, List.getElem?_cons_zero]; try rfl)
                      case h2x9 => exact fun _ _ _ h => h
                      case hyx9 => (refine Or.inl ⟨by rfl, ?_⟩; intro w hSw; (try dsimp only at hSw); go_simp; (try with_reducible rfl))
                      try simp only [Act.put, List.setIfInBounds_toArray, List.set_cons_zero, List.set_cons_succ]
                      refine wpAnyH_take (i := 10) (oi := ?oix10) (v := ?vx10) ?h1x10 (by kernel_rfl) (by kernel_rfl) (by kernel_rfl) ?h2x10 ?hyx10 (by assumption) ?restx10
                      case h1x10 => (simp only [List.getElem?_toArray, List.getElem?_cons_succ, List.getElem?_cons_zero]; try rfl)
                      case h2x10 => exact fun _ _ _ h => h
                      case hyx10 => (refine Or.inl ⟨by rfl, ?_⟩; intro w hSw; (try dsimp only at hSw); go_simp; (try with_reducible rfl))
                      try simp only [Act.put, List.setIfInBounds_toArray, List.set_cons_zero, List.set_cons_succ]
                      refine wpAnyH_ready (rs := [11]) (by kernel_rfl) (by simp) ?_
                      refine AllReadyH.cons (o := ?oix11) ?h1x11 (fun K hK => ?restx11) AllReadyH.nil
                      case h1x11 => (simp only [List.getElem?_toArray, List.getElem?_cons_succ, List.getElem?_cons_zero]; try rfl)
                      go_simp
                      go_at_call 14
                      refine hWt.mono ?_
                      rintro e w6 ⟨⟨pp, cc, rfl⟩, hb6⟩
                      have hS6 := hSk w6 hb6
                      refine hK.out _ _ hS6 (fun hHeld => ?_)
                      clear hK K
                      try simp only [Act.put, List.setIfInBounds_toArray, List.set_cons_zero, List.set_cons_succ]
                      refine wpAnyH_ready (rs := [12]) (by kernel_rfl) (by simp) ?_
                      refine AllReadyH.cons (o := ?oix12) ?h1x12 (fun K hK => ?restx12) AllReadyH.nil
                      case h1x12 => (simp only [List.getElem?_toArray, List.getElem?_cons_succ, List.getElem?_cons_zero]; try rfl)
                      go_simp
                      refine hK.out _ _ (by assumption) (fun hHeld => ?_)
                      clear hK K
                      try simp only [Act.put, List.setIfInBounds_toArray, List.set_cons_zero, List.set_cons_succ]
                      refine wpAnyH_take (i := 13) (oi := ?oix13) (v := ?vx13) ?h1x13 (by kernel_rfl) (by kernel_rfl) (by kernel_rfl) ?h2x13 ?hyx13 (by assumption) ?restx13
                      case h1x13 => (simp only [List.getElem?_toArray, List.getElem?_cons_succ, List.getElem?_cons_zero]; try rfl)
                      case h2x13 => exact fun _ _ _ h => h
                      case hyx13 => (refine Or.inl ⟨by rfl, ?_⟩; intro w hSw; (try dsimp only at hSw); go_simp; (try with_reducible rfl))
                      try simp only [Act.put, List.setIfInBounds_toArray, List.set_cons_zero, List.set_cons_succ]
                      refine wpAnyH_take (i := 14) (oi := ?oix14) (v := ?vx14) ?h1x14 (by kernel_rfl) (by kernel_rfl) (by kernel_rfl) ?h2x14 ?hyx14 (by assumption) ?restx14
                      case h1x14 => (simp only [List.getElem?_toArray, List.getElem?_cons_succ, List.getElem?_cons_zero]; try rfl)
                      case h2x14 => exact fun _ _ _ h => h
                      case hyx14 => (refine Or.inl ⟨by rfl, ?_⟩; intro w hSw; (try dsimp only at hSw); go_simp; (try with_reducible rfl))
                      try simp only [Act.put, List.setIfInBounds_toArray, List.set_cons_zero, List.set_cons_succ]
                      refine wpAnyH_take (i := 15) (oi := ?oix15) (v := ?vx15) ?h1x15 (by kernel_rfl) (by kernel_rfl) (by kernel_rfl) ?h2x15 ?hyx15 (by assumption) ?restx15
                      case h1x15 => (simp only [List.getElem?_toArray, List.getElem?_cons_succ, List.getElem?_cons_zero]; try rfl)
                      case h2x15 => exact fun _ _ _ h => h
                      case hyx15 => (refine Or.inl ⟨by rfl, ?_⟩; intro w hSw; (try dsimp only at hSw); go_simp; (try with_reducible rfl))
                      try simp only [Act.put, List.setIfInBounds_toArray, List.set_cons_zero, List.set_cons_succ]
                      refine wpAnyH_take (i := 16) (oi := ?oix16) (v := undef) ?h1x16 (by kernel_rfl) (by kernel_rfl) (by kernel_rfl) ?h2x16 ?hyx16 (by assumption) ?restx16
                      case h1x16 => (simp only [List.getElem?_toArray, List.getElem?_cons_succ, List.getElem?_cons_zero]; try rfl)
                      case h2x16 => exact fun _ _ _ h => h
                      case hyx16 => exact Or.inr ⟨by rfl, rfl⟩
                      try simp only [Act.put, List.setIfInBounds_toArray, List.set_cons_zero, List.set_cons_succ]
                      refine wpAnyH_take (i := 17) (oi := ?oix17) (v := undef) ?h1x17 (by kernel_rfl) (by kernel_rfl) (by kernel_rfl) ?h2x17 ?hyx17 (by assumption) ?restx17
                      case h1x17 => (simp only [List.getElem?_toArray, List.getElem?_cons_succ, List.getElem?_cons_zero]; try rfl)
                      case h2x17 => exact fun _ _ _ h => h
                      case hyx17 => exact Or.inr ⟨by rfl, rfl⟩
                      try simp only [Act.put, List.setIfInBounds_toArray, List.set_cons_zero, List.set_cons_succ]
                      refine wpAnyH_take (i := 18) (oi := ?oix18) (v := undef) ?h1x18 (by kernel_rfl) (by kernel_rfl) (by kernel_rfl) ?h2x18 ?hyx18 (by assumption) ?restx18
                      case h1x18 => (simp only [List.getElem?_toArray, List.getElem?_cons_succ, List.getElem?_cons_zero]; try rfl)
                      case h2x18 => exact fun _ _ _ h => h
                      case hyx18 => exact Or.inr ⟨by rfl, rfl⟩
                      try simp only [Act.put, List.setIfInBounds_toArray, List.set_cons_zero, List.set_cons_succ]
                      refine wpAnyH_take (i := 19) (oi := ?oix19) (v := undef) ?h1x19 (by kernel_rfl) (by kernel_rfl) (by kernel_rfl) ?h2x19 ?hyx19 (by assumption) ?restx19
                      case h1x19 => (simp only [List.getElem?_toArray, List.getElem?_cons_succ, List.getElem?_cons_zero]; try rfl)
                      case h2x19 => exact fun _ _ _ h => h
                      case hyx19 => exact Or.inr ⟨by rfl, rfl⟩
                      try simp only [Act.put, List.setIfInBounds_toArray, List.set_cons_zero, List.set_cons_succ]
                      refine wpAnyH_take (i := 20) (oi := ?oix20) (v := undef) ?h1x20 (by kernel_rfl) (by kernel_rfl) (by kernel_rfl) ?h2x20 ?hyx20 (by assumption) ?restx20
                      case h1x20 => (simp only [List.getElem?_toArray, List.getElem?_cons_succ, List.getElem?_cons_zero]; try rfl)
                      case h2x20 => exact fun _ _ _ h => h
                      case hyx20 => exact Or.inr ⟨by rfl, rfl⟩
                      try simp only [Act.put, List.setIfInBounds_toArray, List.set_cons_zero, List.set_cons_succ]
                      refine wpAnyH_take (i := 21) (oi := ?oix21) (v := undef) ?h1x21 (by kernel_rfl) (by kernel_rfl) (by kernel_rfl) ?h2x21 ?hyx21 (by assumption) ?restx21
                      case h1x21 => (simp only [List.getElem?_toArray, List.getElem?_cons_succ, List.getElem?_cons_zero]; try rfl)
                      case h2x21 => exact fun _ _ _ h => h
                      case hyx21 => exact Or.inr ⟨by rfl, rfl⟩
                      try simp only [Act.put, List.setIfInBounds_toArray, List.set_cons_zero, List.set_cons_succ]
                      refine wpAnyH_take (i := 22) (oi := ?oix22) (v := undef) ?h1x22 (by kernel_rfl) (by kernel_rfl) (by kernel_rfl) ?h2x22 ?hyx22 (by assumption) ?restx22
                      case h1x22 => (simp only [List.getElem?_toArray, List.getElem?_cons_succ, List.getElem?_cons_zero]; try rfl)
                      case h2x22 => exact fun _ _ _ h => h
                      case hyx22 => exact Or.inr ⟨by rfl, rfl⟩
                      try simp only [Act.put, List.setIfInBounds_toArray, List.set_cons_zero, List.set_cons_succ]
                      refine wpAnyH_take (i := 23) (oi := ?oix23) (v := undef) ?h1x23 (by kernel_rfl) (by kernel_rfl) (by kernel_rfl) ?h2x23 ?hyx23 (by assumption) ?restx23
                      case h1x23 => (simp only [List.getElem?_toArray, List.getElem?_cons_succ, List.getElem?_cons_zero]; try rfl)
                      case h2x23 => exact fun _ _ _ h => h
                      case hyx23 => exact Or.inr ⟨by rfl, rfl⟩
                      try simp only [Act.put, List.setIfInBounds_toArray, List.set_cons_zero, List.set_cons_succ]
                      refine wpAnyH_take (i := 24) (oi := ?oix24) (v := undef) ?h1x24 (by kernel_rfl) (by kernel_rfl) (by kernel_rfl) ?h2x24 ?hyx24 (by assumption) ?restx24
                      case h1x24 => (simp only [List.getElem?_toArray, List.getElem?_cons_succ, List.getElem?_cons_zero]; try rfl)
                      case h2x24 => exact fun _ _ _ h => h
                      case hyx24 => exact Or.inr ⟨by rfl, rfl⟩
                      try simp only [Act.put, List.setIfInBounds_toArray, List.set_cons_zero, List.set_cons_succ]
                      refine wpAnyH_take (i := 25) (oi := ?oix25) (v := undef) ?h1x25 (by kernel_rfl) (by kernel_rfl) (by kernel_rfl) ?h2x25 ?hyx25 (by assumption) ?restx25
                      case h1x25 => (simp only [List.getElem?_toArray, List.getElem?_cons_succ, List.getElem?_cons_zero]; try rfl)
                      case h2x25 => exact fun _ _ _ h => h
                      case hyx25 => exact Or.inr ⟨by rfl, rfl⟩
                      try simp only [Act.put, List.setIfInBounds_toArray, List.set_cons_zero, List.set_cons_succ]
                      refine wpAnyH_take (i := 26) (oi := ?oix26) (v := undef) ?h1x26 (by kernel_rfl) (by kernel_rfl) (by kernel_rfl) ?h2x26 ?hyx26 (by assumption) ?restx26
                      case h1x26 => (simp only [List.getElem?_toArray, List.getElem?_cons_succ, List.getElem?_cons_zero]; try rfl)
                      case h2x26 => exact fun _ _ _ h => h
                      case hyx26 => exact Or.inr ⟨by rfl, rfl⟩
                      try simp only [Act.put, List.setIfInBounds_toArray, List.set_cons_zero, List.set_cons_succ]
                      refine wpAnyH_take (i := 27) (oi := ?oix27) (v := undef) ?h1x27 (by kernel_rfl) (by kernel_rfl) (by kernel_rfl) ?h2x27 ?hyx27 (by assumption) ?restx27
                      case h1x27 => (simp only [List.getElem?_toArray, List.getElem?_cons_succ, List.getElem?_cons_zero]; try rfl)
                      case h2x27 => exact fun _ _ _ h => h
                      case hyx27 => exact Or.inr ⟨by rfl, rfl⟩
                      try simp only [Act.put, List.setIfInBounds_toArray, List.set_cons_zero, List.set_cons_succ]
                      refine wpAnyH_take (i := 28) (oi := ?oix28) (v := undef) ?h1x28 (by kernel_rfl) (by kernel_rfl) (by kernel_rfl) ?h2x28 ?hyx28 (by assumption) ?restx28
                      case h1x28 => (simp only [List.getElem?_toArray, List.getElem?_cons_succ, List.getElem?_cons_zero]; try rfl)
                      case h2x28 => exact fun _ _ _ h => h
                      case hyx28 => exact Or.inr ⟨by rfl, rfl⟩
                      try simp only [Act.put, List.setIfInBounds_toArray, List.set_cons_zero, List.set_cons_succ]
                      refine wpAnyH_take (i := 29) (oi := ?oix29) (v := undef) ?h1x29 (by kernel_rfl) (by kernel_rfl) (by kernel_rfl) ?h2x29 ?hyx29 (by assumption) ?restx29
                      case h1x29 => (simp only [List.getElem?_toArray, List.getElem?_cons_succ, List.getElem?_cons_zero]; try rfl)
                      case h2x29 => exact fun _ _ _ h => h
                      case hyx29 => exact Or.inr ⟨by rfl, rfl⟩
                      try simp only [Act.put, List.setIfInBounds_toArray, List.set_cons_zero, List.set_cons_succ]
                      refine wpAnyH_take (i := 30) (oi := ?oix30) (v := undef) ?h1x30 (by kernel_rfl) (by kernel_rfl) (by kernel_rfl) ?h2x30 ?hyx30 (by assumption) ?restx30
                      case h1x30 => (simp only [List.getElem?_toArray, List.getElem?_cons_succ, List.getElem?_cons_zero]; try rfl)
                      case h2x30 => exact fun _ _ _ h => h
                      case hyx30 => exact Or.inr ⟨by rfl, rfl⟩
                      try simp only [Act.put, List.setIfInBounds_toArray, List.set_cons_zero, List.set_cons_succ]
                      refine wpAnyH_take (i := 31) (oi := ?oix31) (v := undef) ?h1x31 (by kernel_rfl) (by kernel_rfl) (by kernel_rfl) ?h2x31 ?hyx31 (by assumption) ?restx31
                      case h1x31 => (simp only [List.getElem?_toArray, List.getElem?_cons_succ, List.getElem?_cons_zero]; try rfl)
                      case h2x31 => exact fun _ _ _ h => h
                      case hyx31 => exact Or.inr ⟨by rfl, rfl⟩
                      try simp only [Act.put, List.setIfInBounds_toArray, List.set_cons_zero, List.set_cons_succ]
                      refine wpAnyH_take (i := 32) (oi := ?oix32) (v := undef) ?h1x32 (by kernel_rfl) (by kernel_rfl) (by kernel_rfl) ?h2x32 ?hyx32 (by assumption) ?restx32
                      case h1x32 => (simp only [List.getElem?_toArray, List.getElem?_cons_succ, List.getElem?_cons_zero]; try rfl)
                      case h2x32 => exact fun _ _ _ h => h
                      case hyx32 => exact Or.inr ⟨by rfl, rfl⟩
                      try simp only [Act.put, List.setIfInBounds_toArray, List.set_cons_zero, List.set_cons_succ]
                      refine wpAnyH_take (i := 33) (oi := ?oix33) (v := undef) ?h1x33 (by kernel_rfl) (by kernel_rfl) (by kernel_rfl) ?h2x33 ?hyx33 (by assumption) ?restx33
                      case h1x33 => (simp only [List.getElem?_toArray, List.getElem?_cons_succ, List.getElem?_cons_zero]; try rfl)
                      case h2x33 => exact fun _ _ _ h => h
                      case hyx33 => exact Or.inr ⟨by rfl, rfl⟩
                      try simp only [Act.put, List.setIfInBounds_toArray, List.set_cons_zero, List.set_cons_succ]
                      refine wpAnyH_take (i := 34) (oi := ?oix34) (v := undef) ?h1x34 (by kernel_rfl) (by kernel_rfl) (by kernel_rfl) ?h2x34 ?hyx34 (by assumption) ?restx34
                      case h1x34 => (simp only [List.getElem?_toArray, List.getElem?_cons_succ, List.getElem?_cons_zero]; try rfl)
                      case h2x34 => exact fun _ _ _ h => h
                      case hyx34 => exact Or.inr ⟨by rfl, rfl⟩
                      try simp only [Act.put, List.setIfInBounds_toArray, List.set_cons_zero, List.set_cons_succ]
                      refine wpAnyH_take (i := 35) (oi := ?oix35) (v := undef) ?h1x35 (by kernel_rfl) (by kernel_rfl) (by kernel_rfl) ?h2x35 ?hyx35 (by assumption) ?restx35
                      case h1x35 => (simp only [List.getElem?_toArray, List.getElem?_cons_succ, List.getElem?_cons_zero]; try rfl)
                      case h2x35 => exact fun _ _ _ h => h
                      case hyx35 => exact Or.inr ⟨by rfl, rfl⟩
                      try simp only [Act.put, List.setIfInBounds_toArray, List.set_cons_zero, List.set_cons_succ]
                      refine wpAnyH_take (i := 36) (oi := ?oix36) (v := undef) ?h1x36 (by kernel_rfl) (by kernel_rfl) (by kernel_rfl) ?h2x36 ?hyx36 (by assumption) ?restx36
                      case h1x36 => (simp only [List.getElem?_toArray, List.getElem?_cons_succ, List.getElem?_cons_zero]; try rfl)
                      case h2x36 => exact fun _ _ _ h => h
                      case hyx36 => exact Or.inr ⟨by rfl, rfl⟩
                      try simp only [Act.put, List.setIfInBounds_toArray, List.set_cons_zero, List.set_cons_succ]
                      refine wpAnyH_take (i := 37) (oi := ?oix37) (v := undef) ?h1x37 (by kernel_rfl) (by kernel_rfl) (by kernel_rfl) ?h2x37 ?hyx37 (by assumption) ?restx37
                      case h1x37 => (simp only [List.getElem?_toArray, List.getElem?_cons_succ, List.getElem?_cons_zero]; try rfl)
                      case h2x37 => exact fun _ _ _ h => h
                      case hyx37 => exact Or.inr ⟨by rfl, rfl⟩
                      try simp only [Act.put, List.setIfInBounds_toArray, List.set_cons_zero, List.set_cons_succ]
                      refine wpAnyH_take (i := 38) (oi := ?oix38) (v := undef) ?h1x38 (by kernel_rfl) (by kernel_rfl) (by kernel_rfl) ?h2x38 ?hyx38 (by assumption) ?restx38
                      case h1x38 => (simp only [List.getElem?_toArray, List.getElem?_cons_succ, List.getElem?_cons_zero]; try rfl)
                      case h2x38 => exact fun _ _ _ h => h
                      case hyx38 => exact Or.inr ⟨by rfl, rfl⟩
                      try simp only [Act.put, List.setIfInBounds_toArray, List.set_cons_zero, List.set_cons_succ]
                      refine wpAnyH_take (i := 39) (oi := ?oix39) (v := ?vx39) ?h1x39 (by kernel_rfl) (by kernel_rfl) (by kernel_rfl) ?h2x39 ?hyx39 (by assumption) ?restx39
                      case h1x39 => (simp only [List.getElem?_toArray, List.getElem?_cons_succ, List.getElem?_cons_zero]; try rfl)
                      case h2x39 => exact fun _ _ _ h => h
                      case hyx39 => (refine Or.inl ⟨by rfl, ?_⟩; intro w hSw; (try dsimp only at hSw); go_simp; (try with_reducible rfl))
                      try simp only [Act.put, List.setIfInBounds_toArray, List.set_cons_zero, List.set_cons_succ]
                      refine wpAnyH_done (by kernel_rfl) ?_ _
                      have H6 := Lib.hid (H3.out.1.trans (((below_drew w3).trans (hb6.mono (below_drew w3).size)).mono H3.out.1.size))
                      clear hWt hSk hS6 hS0 hb6 z0 z1 z2 k0 k1 k2 k3 k4 k5 k6 k7 k8 k9
                      go_wp2
                      go_roundw
                      case rel => exact ⟨k + 1, by simp [hw1], hkl, H6.out⟩
                      case measure => simp [natI, hw1]; omega
                    · have h3i : (0 : Int) < (n : Int) := by omega
                      have h3n : 0 < n := by omega
                      have h3d : decide (0 < n) = true := decide_eq_true h3n
                      have h3e : decide ((0 : Int) < (n : Int)) = true := decide_eq_true h3i
                      obtain ⟨his, hnd, hni⟩ := HAL.out h4 (hne h3)
                      subst his
                      have e1 : decide (j.due < due) = false := decide_eq_false (show ¬ j.due < due by omega)
                      clear hne
                      by_cases h5 : j.due = due
                      · have e2 : (j.due == due) = true := by simpa using h5
                        have e3 : decide (j.due = due) = true := by simpa using h5
                        have hni := hni h5
                        have e4 : decide (x.id < id) = false := decide_eq_false (show ¬ x.id < id by omega)
                        clear h5
                        refine wp_region_held_drew (S := (fun W => W.cell? ⟨jx, 0, none⟩ = some (.string ⟨j.dom.toArray⟩) ∧ W.cell? ⟨jx, 1, none⟩ = some (.int .i64 j.tries) ∧ W.cell? ⟨jx, 2, none⟩ = some (.int .i64 j.due) ∧ W.cell? ⟨b, o + i2 * 10, none⟩ = some (.int .i64 x.id) ∧ W.cell? ⟨b, o + i2 * 10 + 1, none⟩ = some (.int .i64 x.at_) ∧ W.cell? ⟨b, o + i2 * 10 + 2, none⟩ = some (.string ⟨x.mail.sender.toArray⟩) ∧ W.cell? ⟨b, o + i2 * 10 + 3, none⟩ = some (.slice p1 x.mail.rcpts.length c1) ∧ W.cell? ⟨b, o + i2 * 10 + 4, none⟩ = some (.bool x.mail.req) ∧ W.cell? ⟨b, o + i2 * 10 + 5, none⟩ = some (.string ⟨x.mail.envid.toArray⟩) ∧ W.cell? ⟨b, o + i2 * 10 + 6, none⟩ = some (.string ⟨x.mail.text.toArray⟩) ∧ W.cell? ⟨b, o + i2 * 10 + 7, none⟩ = some (.bool x.plain) ∧ W.cell? ⟨b, o + i2 * 10 + 8, none⟩ = some (.slice p2 x.fates.length c2) ∧ W.cell? ⟨b, o + i2 * 10 + 9, none⟩ = some (.slice (some ⟨b3, o3, none⟩) x.jobs.length c3))) (by kernel_rfl) hS0 (fun hHeld => ?_)
                        refine wpAnyH_take (i := 0) (oi := ?oiy0) (v := ?vy0) ?h1y0 (by kernel_rfl) (by kernel_rfl) (by kernel_rfl) ?h2y0 ?hyy0 (by assumption) ?resty0
                        case h1y0 => (simp only [List.getElem?_toArray, List.getElem?_cons_succ, List.getElem?_cons_zero]; try rfl)
                        case h2y0 => exact fun _ _ _ h => h
                        case hyy0 => (refine Or.inl ⟨by rfl, ?_⟩; intro w hSw; (try dsimp only at hSw); go_simp; (try with_reducible rfl))
                        try simp only [Act.put, List.setIfInBounds_toArray, List.set_cons_zero, List.set_cons_succ]
                        refine wpAnyH_take (i := 1) (oi := ?oiy1) (v := ?vy1) ?h1y1 (by kernel_rfl) (by kernel_rfl) (by kernel_rfl) ?h2y1 ?hyy1 (by assumption) ?resty1
                        case h1y1 => (simp only [List.getElem?_toArray, List.getElem?_cons_succ, List.getElem?_cons_zero]; try rfl)
                        case h2y1 => exact fun _ _ _ h => h
                        case hyy1 => (refine Or.inl ⟨by rfl, ?_⟩; intro w hSw; (try dsimp only at hSw); go_simp; (try with_reducible rfl))
                        try simp only [Act.put, List.setIfInBounds_toArray, List.set_cons_zero, List.set_cons_succ]
                        refine wpAnyH_take (i := 2) (oi := ?oiy2) (v := ?vy2) ?h1y2 (by kernel_rfl) (by kernel_rfl) (by kernel_rfl) ?h2y2 ?hyy2 (by assumption) ?resty2
                        case h1y2 => (simp only [List.getElem?_toArray, List.getElem?_cons_succ, List.getElem?_cons_zero]; try rfl)
                        case h2y2 => exact fun _ _ _ h => h
                        case hyy2 => (refine Or.inl ⟨by rfl, ?_⟩; intro w hSw; (try dsimp only at hSw); go_simp; (try with_reducible rfl))
                        try simp only [Act.put, List.setIfInBounds_toArray, List.set_cons_zero, List.set_cons_succ]
                        refine wpAnyH_take (i := 3) (oi := ?oiy3) (v := ?vy3) ?h1y3 (by kernel_rfl) (by kernel_rfl) (by kernel_rfl) ?h2y3 ?hyy3 (by assumption) ?resty3
                        case h1y3 => (simp only [List.getElem?_toArray, List.getElem?_cons_succ, List.getElem?_cons_zero]; try rfl)
                        case h2y3 => exact fun _ _ _ h => h
                        case hyy3 => (refine Or.inl ⟨by rfl, ?_⟩; intro w hSw; (try dsimp only at hSw); go_simp; (try with_reducible rfl))
                        try simp only [Act.put, List.setIfInBounds_toArray, List.set_cons_zero, List.set_cons_succ]
                        refine wpAnyH_take (i := 4) (oi := ?oiy4) (v := ?vy4) ?h1y4 (by kernel_rfl) (by kernel_rfl) (by kernel_rfl) ?h2y4 ?hyy4 (by assumption) ?resty4
                        case h1y4 => (simp only [List.getElem?_toArray, List.getElem?_cons_succ, List.getElem?_cons_zero]; try rfl)
                        case h2y4 => exact fun _ _ _ h => h
                        case hyy4 => (refine Or.inl ⟨by rfl, ?_⟩; intro w hSw; (try dsimp only at hSw); go_simp; (try with_reducible rfl))
                        try simp only [Act.put, List.setIfInBounds_toArray, List.set_cons_zero, List.set_cons_succ]
                        refine wpAnyH_take (i := 5) (oi := ?oiy5) (v := ?vy5) ?h1y5 (by kernel_rfl) (by kernel_rfl) (by kernel_rfl) ?h2y5 ?hyy5 (by assumption) ?resty5
                        case h1y5 => (simp only [List.getElem?_toArray, List.getElem?_cons_succ, List.getElem?_cons_zero]; try rfl)
                        case h2y5 => exact fun _ _ _ h => h
                        case hyy5 => (refine Or.inl ⟨by rfl, ?_⟩; intro w hSw; (try dsimp only at hSw); go_simp; (try with_reducible rfl))
                        try simp only [Act.put, List.setIfInBounds_toArray, List.set_cons_zero, List.set_cons_succ]
                        refine wpAnyH_take (i := 6) (oi := ?oiy6) (v := ?vy6) ?h1y6 (by kernel_rfl) (by kernel_rfl) (by kernel_rfl) ?h2y6 ?hyy6 (by assumption) ?resty6
                        case h1y6 => (simp only [List.getElem?_toArray, List.getElem?_cons_succ, List.getElem?_cons_zero]; try rfl)
                        case h2y6 => exact fun _ _ _ h => h
                        case hyy6 => (refine Or.inl ⟨by rfl, ?_⟩; intro w hSw; (try dsimp only at hSw); go_simp; (try with_reducible rfl))
                        try simp only [Act.put, List.setIfInBounds_toArray, List.set_cons_zero, List.set_cons_succ]
                        refine wpAnyH_take (i := 7) (oi := ?oiy7) (v := ?vy7) ?h1y7 (by kernel_rfl) (by kernel_rfl) (by kernel_rfl) ?h2y7 ?hyy7 (by assumption) ?resty7
                        case h1y7 => (simp only [List.getElem?_toArray, List.getElem?_cons_succ, List.getElem?_cons_zero]; try rfl)
                        case h2y7 => exact fun _ _ _ h => h
                        case hyy7 => (refine Or.inl ⟨by rfl, ?_⟩; intro w hSw; (try dsimp only at hSw); go_simp; (try with_reducible rfl))
                        try simp only [Act.put, List.setIfInBounds_toArray, List.set_cons_zero, List.set_cons_succ]
                        refine wpAnyH_take (i := 8) (oi := ?oiy8) (v := ?vy8) ?h1y8 (by kernel_rfl) (by kernel_rfl) (by kernel_rfl) ?h2y8 ?hyy8 (by assumption) ?resty8
                        case h1y8 => (simp only [List.getElem?_toArray, List.getElem?_cons_succ, List.getElem?_cons_zero]; try rfl)
                        case h2y8 => exact fun _ _ _ h => h
                        case hyy8 => (refine Or.inl ⟨by rfl, ?_⟩; intro w hSw; (try dsimp only at hSw); go_simp; (try with_reducible rfl))
                        try simp only [Act.put, List.setIfInBounds_toArray, List.set_cons_zero, List.set_cons_succ]
                        refine wpAnyH_take (i := 9) (oi := ?oiy9) (v := ?vy9) ?h1y9 (by kernel_rfl) (by kernel_rfl) (by kernel_rfl) ?h2y9 ?hyy9 (by assumption) ?resty9
                        case h1y9 => (simp only [List.getElem?_toArray, List.getElem?_cons_succ, List.getElem?_cons_zero]; try rfl)
                        case h2y9 => exact fun _ _ _ h => h
                        case hyy9 => (refine Or.inl ⟨by rfl, ?_⟩; intro w hSw; (try dsimp only at hSw); go_simp; (try with_reducible rfl))
                        try simp only [Act.put, List.setIfInBounds_toArray, List.set_cons_zero, List.set_cons_succ]
                        refine wpAnyH_take (i := 10) (oi := ?oiy10) (v := ?vy10) ?h1y10 (by kernel_rfl) (by kernel_rfl) (by kernel_rfl) ?h2y10 ?hyy10 (by assumption) ?resty10
                        case h1y10 => (simp only [List.getElem?_toArray, List.getElem?_cons_succ, List.getElem?_cons_zero]; try rfl)
                        case h2y10 => exact fun _ _ _ h => h
                        case hyy10 => (refine Or.inl ⟨by rfl, ?_⟩; intro w hSw; (try dsimp only at hSw); go_simp; (try with_reducible rfl))
                        try simp only [Act.put, List.setIfInBounds_toArray, List.set_cons_zero, List.set_cons_succ]
                        refine wpAnyH_ready (rs := [11]) (by kernel_rfl) (by simp) ?_
                        refine AllReadyH.cons (o := ?oiy11) ?h1y11 (fun K hK => ?resty11) AllReadyH.nil
                        case h1y11 => (simp only [List.getElem?_toArray, List.getElem?_cons_succ, List.getElem?_cons_zero]; try rfl)
                        go_simp
                        go_at_call 14
                        refine hWt.mono ?_
                        rintro e w6 ⟨⟨pp, cc, rfl⟩, hb6⟩
                        have hS6 := hSk w6 hb6
                        refine hK.out _ _ hS6 (fun hHeld => ?_)
                        clear hK K
                        try simp only [Act.put, List.setIfInBounds_toArray, List.set_cons_zero, List.set_cons_succ]
                        refine wpAnyH_ready (rs := [12]) (by kernel_rfl) (by simp) ?_
                        refine AllReadyH.cons (o := ?oiy12) ?h1y12 (fun K hK => ?resty12) AllReadyH.nil
                        case h1y12 => (simp only [List.getElem?_toArray, List.getElem?_cons_succ, List.getElem?_cons_zero]; try rfl)
                        go_simp
                        refine hK.out _ _ (by assumption) (fun hHeld => ?_)
                        clear hK K
                        try simp only [Act.put, List.setIfInBounds_toArray, List.set_cons_zero, List.set_cons_succ]
                        refine wpAnyH_take (i := 13) (oi := ?oiy13) (v := ?vy13) ?h1y13 (by kernel_rfl) (by kernel_rfl) (by kernel_rfl) ?h2y13 ?hyy13 (by assumption) ?resty13
                        case h1y13 => (simp only [List.getElem?_toArray, List.getElem?_cons_succ, List.getElem?_cons_zero]; try rfl)
                        case h2y13 => exact fun _ _ _ h => h
                        case hyy13 => (refine Or.inl ⟨by rfl, ?_⟩; intro w hSw; (try dsimp only at hSw); go_simp; (try with_reducible rfl))
                        try simp only [Act.put, List.setIfInBounds_toArray, List.set_cons_zero, List.set_cons_succ]
                        refine wpAnyH_take (i := 14) (oi := ?oiy14) (v := ?vy14) ?h1y14 (by kernel_rfl) (by kernel_rfl) (by kernel_rfl) ?h2y14 ?hyy14 (by assumption) ?resty14
                        case h1y14 => (simp only [List.getElem?_toArray, List.getElem?_cons_succ, List.getElem?_cons_zero]; try rfl)
                        case h2y14 => exact fun _ _ _ h => h
                        case hyy14 => (refine Or.inl ⟨by rfl, ?_⟩; intro w hSw; (try dsimp only at hSw); go_simp; (try with_reducible rfl))
                        try simp only [Act.put, List.setIfInBounds_toArray, List.set_cons_zero, List.set_cons_succ]
                        refine wpAnyH_take (i := 15) (oi := ?oiy15) (v := ?vy15) ?h1y15 (by kernel_rfl) (by kernel_rfl) (by kernel_rfl) ?h2y15 ?hyy15 (by assumption) ?resty15
                        case h1y15 => (simp only [List.getElem?_toArray, List.getElem?_cons_succ, List.getElem?_cons_zero]; try rfl)
                        case h2y15 => exact fun _ _ _ h => h
                        case hyy15 => (refine Or.inl ⟨by rfl, ?_⟩; intro w hSw; (try dsimp only at hSw); go_simp; (try with_reducible rfl))
                        try simp only [Act.put, List.setIfInBounds_toArray, List.set_cons_zero, List.set_cons_succ]
                        refine wpAnyH_take (i := 16) (oi := ?oiy16) (v := ?vy16) ?h1y16 (by kernel_rfl) (by kernel_rfl) (by kernel_rfl) ?h2y16 ?hyy16 (by assumption) ?resty16
                        case h1y16 => (simp only [List.getElem?_toArray, List.getElem?_cons_succ, List.getElem?_cons_zero]; try rfl)
                        case h2y16 => exact fun _ _ _ h => h
                        case hyy16 => (refine Or.inl ⟨by rfl, ?_⟩; intro w hSw; (try dsimp only at hSw); go_simp; (try with_reducible rfl))
                        try simp only [Act.put, List.setIfInBounds_toArray, List.set_cons_zero, List.set_cons_succ]
                        refine wpAnyH_take (i := 17) (oi := ?oiy17) (v := ?vy17) ?h1y17 (by kernel_rfl) (by kernel_rfl) (by kernel_rfl) ?h2y17 ?hyy17 (by assumption) ?resty17
                        case h1y17 => (simp only [List.getElem?_toArray, List.getElem?_cons_succ, List.getElem?_cons_zero]; try rfl)
                        case h2y17 => exact fun _ _ _ h => h
                        case hyy17 => (refine Or.inl ⟨by rfl, ?_⟩; intro w hSw; (try dsimp only at hSw); go_simp; (try with_reducible rfl))
                        try simp only [Act.put, List.setIfInBounds_toArray, List.set_cons_zero, List.set_cons_succ]
                        refine wpAnyH_take (i := 18) (oi := ?oiy18) (v := ?vy18) ?h1y18 (by kernel_rfl) (by kernel_rfl) (by kernel_rfl) ?h2y18 ?hyy18 (by assumption) ?resty18
                        case h1y18 => (simp only [List.getElem?_toArray, List.getElem?_cons_succ, List.getElem?_cons_zero]; try rfl)
                        case h2y18 => exact fun _ _ _ h => h
                        case hyy18 => (refine Or.inl ⟨by rfl, ?_⟩; intro w hSw; (try dsimp only at hSw); go_simp; (try with_reducible rfl))
                        try simp only [Act.put, List.setIfInBounds_toArray, List.set_cons_zero, List.set_cons_succ]
                        refine wpAnyH_take (i := 19) (oi := ?oiy19) (v := ?vy19) ?h1y19 (by kernel_rfl) (by kernel_rfl) (by kernel_rfl) ?h2y19 ?hyy19 (by assumption) ?resty19
                        case h1y19 => (simp only [List.getElem?_toArray, List.getElem?_cons_succ, List.getElem?_cons_zero]; try rfl)
                        case h2y19 => exact fun _ _ _ h => h
                        case hyy19 => (refine Or.inl ⟨by rfl, ?_⟩; intro w hSw; (try dsimp only at hSw); go_simp; (try with_reducible rfl))
                        try simp only [Act.put, List.setIfInBounds_toArray, List.set_cons_zero, List.set_cons_succ]
                        refine wpAnyH_take (i := 20) (oi := ?oiy20) (v := ?vy20) ?h1y20 (by kernel_rfl) (by kernel_rfl) (by kernel_rfl) ?h2y20 ?hyy20 (by assumption) ?resty20
                        case h1y20 => (simp only [List.getElem?_toArray, List.getElem?_cons_succ, List.getElem?_cons_zero]; try rfl)
                        case h2y20 => exact fun _ _ _ h => h
                        case hyy20 => (refine Or.inl ⟨by rfl, ?_⟩; intro w hSw; (try dsimp only at hSw); go_simp; (try with_reducible rfl))
                        try simp only [Act.put, List.setIfInBounds_toArray, List.set_cons_zero, List.set_cons_succ]
                        refine wpAnyH_take (i := 21) (oi := ?oiy21) (v := ?vy21) ?h1y21 (by kernel_rfl) (by kernel_rfl) (by kernel_rfl) ?h2y21 ?hyy21 (by assumption) ?resty21
                        case h1y21 => (simp only [List.getElem?_toArray, List.getElem?_cons_succ, List.getElem?_cons_zero]; try rfl)
                        case h2y21 => exact fun _ _ _ h => h
                        case hyy21 => (refine Or.inl ⟨by rfl, ?_⟩; intro w hSw; (try dsimp only at hSw); go_simp; (try with_reducible rfl))
                        try simp only [Act.put, List.setIfInBounds_toArray, List.set_cons_zero, List.set_cons_succ]
                        refine wpAnyH_take (i := 22) (oi := ?oiy22) (v := ?vy22) ?h1y22 (by kernel_rfl) (by kernel_rfl) (by kernel_rfl) ?h2y22 ?hyy22 (by assumption) ?resty22
                        case h1y22 => (simp only [List.getElem?_toArray, List.getElem?_cons_succ, List.getElem?_cons_zero]; try rfl)
                        case h2y22 => exact fun _ _ _ h => h
                        case hyy22 => (refine Or.inl ⟨by rfl, ?_⟩; intro w hSw; (try dsimp only at hSw); go_simp; (try with_reducible rfl))
                        try simp only [Act.put, List.setIfInBounds_toArray, List.set_cons_zero, List.set_cons_succ]
                        refine wpAnyH_take (i := 23) (oi := ?oiy23) (v := ?vy23) ?h1y23 (by kernel_rfl) (by kernel_rfl) (by kernel_rfl) ?h2y23 ?hyy23 (by assumption) ?resty23
                        case h1y23 => (simp only [List.getElem?_toArray, List.getElem?_cons_succ, List.getElem?_cons_zero]; try rfl)
                        case h2y23 => exact fun _ _ _ h => h
                        case hyy23 => (refine Or.inl ⟨by rfl, ?_⟩; intro w hSw; (try dsimp only at hSw); go_simp; (try with_reducible rfl))
                        try simp only [Act.put, List.setIfInBounds_toArray, List.set_cons_zero, List.set_cons_succ]
                        refine wpAnyH_take (i := 24) (oi := ?oiy24) (v := ?vy24) ?h1y24 (by kernel_rfl) (by kernel_rfl) (by kernel_rfl) ?h2y24 ?hyy24 (by assumption) ?resty24
                        case h1y24 => (simp only [List.getElem?_toArray, List.getElem?_cons_succ, List.getElem?_cons_zero]; try rfl)
                        case h2y24 => exact fun _ _ _ h => h
                        case hyy24 => (refine Or.inl ⟨by rfl, ?_⟩; intro w hSw; (try dsimp only at hSw); go_simp; (try with_reducible rfl))
                        try simp only [Act.put, List.setIfInBounds_toArray, List.set_cons_zero, List.set_cons_succ]
                        refine wpAnyH_take (i := 25) (oi := ?oiy25) (v := ?vy25) ?h1y25 (by kernel_rfl) (by kernel_rfl) (by kernel_rfl) ?h2y25 ?hyy25 (by assumption) ?resty25
                        case h1y25 => (simp only [List.getElem?_toArray, List.getElem?_cons_succ, List.getElem?_cons_zero]; try rfl)
                        case h2y25 => exact fun _ _ _ h => h
                        case hyy25 => (refine Or.inl ⟨by rfl, ?_⟩; intro w hSw; (try dsimp only at hSw); go_simp; (try with_reducible rfl))
                        try simp only [Act.put, List.setIfInBounds_toArray, List.set_cons_zero, List.set_cons_succ]
                        refine wpAnyH_take (i := 26) (oi := ?oiy26) (v := ?vy26) ?h1y26 (by kernel_rfl) (by kernel_rfl) (by kernel_rfl) ?h2y26 ?hyy26 (by assumption) ?resty26
                        case h1y26 => (simp only [List.getElem?_toArray, List.getElem?_cons_succ, List.getElem?_cons_zero]; try rfl)
                        case h2y26 => exact fun _ _ _ h => h
                        case hyy26 => (refine Or.inl ⟨by rfl, ?_⟩; intro w hSw; (try dsimp only at hSw); go_simp; (try with_reducible rfl))
                        try simp only [Act.put, List.setIfInBounds_toArray, List.set_cons_zero, List.set_cons_succ]
                        refine wpAnyH_take (i := 27) (oi := ?oiy27) (v := ?vy27) ?h1y27 (by kernel_rfl) (by kernel_rfl) (by kernel_rfl) ?h2y27 ?hyy27 (by assumption) ?resty27
                        case h1y27 => (simp only [List.getElem?_toArray, List.getElem?_cons_succ, List.getElem?_cons_zero]; try rfl)
                        case h2y27 => exact fun _ _ _ h => h
                        case hyy27 => (refine Or.inl ⟨by rfl, ?_⟩; intro w hSw; (try dsimp only at hSw); go_simp; (try with_reducible rfl))
                        try simp only [Act.put, List.setIfInBounds_toArray, List.set_cons_zero, List.set_cons_succ]
                        refine wpAnyH_take (i := 28) (oi := ?oiy28) (v := ?vy28) ?h1y28 (by kernel_rfl) (by kernel_rfl) (by kernel_rfl) ?h2y28 ?hyy28 (by assumption) ?resty28
                        case h1y28 => (simp only [List.getElem?_toArray, List.getElem?_cons_succ, List.getElem?_cons_zero]; try rfl)
                        case h2y28 => exact fun _ _ _ h => h
                        case hyy28 => (refine Or.inl ⟨by rfl, ?_⟩; intro w hSw; (try dsimp only at hSw); go_simp; (try with_reducible rfl))
                        try simp only [Act.put, List.setIfInBounds_toArray, List.set_cons_zero, List.set_cons_succ]
                        refine wpAnyH_take (i := 29) (oi := ?oiy29) (v := ?vy29) ?h1y29 (by kernel_rfl) (by kernel_rfl) (by kernel_rfl) ?h2y29 ?hyy29 (by assumption) ?resty29
                        case h1y29 => (simp only [List.getElem?_toArray, List.getElem?_cons_succ, List.getElem?_cons_zero]; try rfl)
                        case h2y29 => exact fun _ _ _ h => h
                        case hyy29 => (refine Or.inl ⟨by rfl, ?_⟩; intro w hSw; (try dsimp only at hSw); go_simp; (try with_reducible rfl))
                        try simp only [Act.put, List.setIfInBounds_toArray, List.set_cons_zero, List.set_cons_succ]
                        refine wpAnyH_take (i := 30) (oi := ?oiy30) (v := ?vy30) ?h1y30 (by kernel_rfl) (by kernel_rfl) (by kernel_rfl) ?h2y30 ?hyy30 (by assumption) ?resty30
                        case h1y30 => (simp only [List.getElem?_toArray, List.getElem?_cons_succ, List.getElem?_cons_zero]; try rfl)
                        case h2y30 => exact fun _ _ _ h => h
                        case hyy30 => (refine Or.inl ⟨by rfl, ?_⟩; intro w hSw; (try dsimp only at hSw); go_simp; (try with_reducible rfl))
                        try simp only [Act.put, List.setIfInBounds_toArray, List.set_cons_zero, List.set_cons_succ]
                        refine wpAnyH_take (i := 31) (oi := ?oiy31) (v := ?vy31) ?h1y31 (by kernel_rfl) (by kernel_rfl) (by kernel_rfl) ?h2y31 ?hyy31 (by assumption) ?resty31
                        case h1y31 => (simp only [List.getElem?_toArray, List.getElem?_cons_succ, List.getElem?_cons_zero]; try rfl)
                        case h2y31 => exact fun _ _ _ h => h
                        case hyy31 => (refine Or.inl ⟨by rfl, ?_⟩; intro w hSw; (try dsimp only at hSw); go_simp; (try with_reducible rfl))
                        try simp only [Act.put, List.setIfInBounds_toArray, List.set_cons_zero, List.set_cons_succ]
                        refine wpAnyH_take (i := 32) (oi := ?oiy32) (v := ?vy32) ?h1y32 (by kernel_rfl) (by kernel_rfl) (by kernel_rfl) ?h2y32 ?hyy32 (by assumption) ?resty32
                        case h1y32 => (simp only [List.getElem?_toArray, List.getElem?_cons_succ, List.getElem?_cons_zero]; try rfl)
                        case h2y32 => exact fun _ _ _ h => h
                        case hyy32 => (refine Or.inl ⟨by rfl, ?_⟩; intro w hSw; (try dsimp only at hSw); go_simp; (try with_reducible rfl))
                        try simp only [Act.put, List.setIfInBounds_toArray, List.set_cons_zero, List.set_cons_succ]
                        refine wpAnyH_take (i := 33) (oi := ?oiy33) (v := ?vy33) ?h1y33 (by kernel_rfl) (by kernel_rfl) (by kernel_rfl) ?h2y33 ?hyy33 (by assumption) ?resty33
                        case h1y33 => (simp only [List.getElem?_toArray, List.getElem?_cons_succ, List.getElem?_cons_zero]; try rfl)
                        case h2y33 => exact fun _ _ _ h => h
                        case hyy33 => (refine Or.inl ⟨by rfl, ?_⟩; intro w hSw; (try dsimp only at hSw); go_simp; (try with_reducible rfl))
                        try simp only [Act.put, List.setIfInBounds_toArray, List.set_cons_zero, List.set_cons_succ]
                        refine wpAnyH_take (i := 34) (oi := ?oiy34) (v := ?vy34) ?h1y34 (by kernel_rfl) (by kernel_rfl) (by kernel_rfl) ?h2y34 ?hyy34 (by assumption) ?resty34
                        case h1y34 => (simp only [List.getElem?_toArray, List.getElem?_cons_succ, List.getElem?_cons_zero]; try rfl)
                        case h2y34 => exact fun _ _ _ h => h
                        case hyy34 => (refine Or.inl ⟨by rfl, ?_⟩; intro w hSw; (try dsimp only at hSw); go_simp; (try with_reducible rfl))
                        try simp only [Act.put, List.setIfInBounds_toArray, List.set_cons_zero, List.set_cons_succ]
                        refine wpAnyH_take (i := 35) (oi := ?oiy35) (v := ?vy35) ?h1y35 (by kernel_rfl) (by kernel_rfl) (by kernel_rfl) ?h2y35 ?hyy35 (by assumption) ?resty35
                        case h1y35 => (simp only [List.getElem?_toArray, List.getElem?_cons_succ, List.getElem?_cons_zero]; try rfl)
                        case h2y35 => exact fun _ _ _ h => h
                        case hyy35 => (refine Or.inl ⟨by rfl, ?_⟩; intro w hSw; (try dsimp only at hSw); go_simp; (try with_reducible rfl))
                        try simp only [Act.put, List.setIfInBounds_toArray, List.set_cons_zero, List.set_cons_succ]
                        refine wpAnyH_take (i := 36) (oi := ?oiy36) (v := ?vy36) ?h1y36 (by kernel_rfl) (by kernel_rfl) (by kernel_rfl) ?h2y36 ?hyy36 (by assumption) ?resty36
                        case h1y36 => (simp only [List.getElem?_toArray, List.getElem?_cons_succ, List.getElem?_cons_zero]; try rfl)
                        case h2y36 => exact fun _ _ _ h => h
                        case hyy36 => (refine Or.inl ⟨by rfl, ?_⟩; intro w hSw; (try dsimp only at hSw); go_simp; (try with_reducible rfl))
                        try simp only [Act.put, List.setIfInBounds_toArray, List.set_cons_zero, List.set_cons_succ]
                        refine wpAnyH_take (i := 37) (oi := ?oiy37) (v := ?vy37) ?h1y37 (by kernel_rfl) (by kernel_rfl) (by kernel_rfl) ?h2y37 ?hyy37 (by assumption) ?resty37
                        case h1y37 => (simp only [List.getElem?_toArray, List.getElem?_cons_succ, List.getElem?_cons_zero]; try rfl)
                        case h2y37 => exact fun _ _ _ h => h
                        case hyy37 => (refine Or.inl ⟨by rfl, ?_⟩; intro w hSw; (try dsimp only at hSw); go_simp; (try with_reducible rfl))
                        try simp only [Act.put, List.setIfInBounds_toArray, List.set_cons_zero, List.set_cons_succ]
                        refine wpAnyH_take (i := 38) (oi := ?oiy38) (v := ?vy38) ?h1y38 (by kernel_rfl) (by kernel_rfl) (by kernel_rfl) ?h2y38 ?hyy38 (by assumption) ?resty38
                        case h1y38 => (simp only [List.getElem?_toArray, List.getElem?_cons_succ, List.getElem?_cons_zero]; try rfl)
                        case h2y38 => exact fun _ _ _ h => h
                        case hyy38 => (refine Or.inl ⟨by rfl, ?_⟩; intro w hSw; (try dsimp only at hSw); go_simp; (try with_reducible rfl))
                        try simp only [Act.put, List.setIfInBounds_toArray, List.set_cons_zero, List.set_cons_succ]
                        refine wpAnyH_take (i := 39) (oi := ?oiy39) (v := ?vy39) ?h1y39 (by kernel_rfl) (by kernel_rfl) (by kernel_rfl) ?h2y39 ?hyy39 (by assumption) ?resty39
                        case h1y39 => (simp only [List.getElem?_toArray, List.getElem?_cons_succ, List.getElem?_cons_zero]; try rfl)
                        case h2y39 => exact fun _ _ _ h => h
                        case hyy39 => (refine Or.inl ⟨by rfl, ?_⟩; intro w hSw; (try dsimp only at hSw); go_simp; (try with_reducible rfl))
                        try simp only [Act.put, List.setIfInBounds_toArray, List.set_cons_zero, List.set_cons_succ]
                        refine wpAnyH_done (by kernel_rfl) ?_ _
                        have H6 := Lib.hid (H3.out.1.trans (((below_drew w3).trans (hb6.mono (below_drew w3).size)).mono H3.out.1.size))
                        clear hWt hSk hS6 hS0 hb6 z0 z1 z2 k0 k1 k2 k3 k4 k5 k6 k7 k8 k9
                        go_wp2
                        go_roundw
                        case rel => exact ⟨k + 1, by simp [hw1], hkl, H6.out⟩
                        case measure => simp [natI, hw1]; omega
                      · have e2 : (j.due == due) = false := by simpa using h5
                        have e3 : decide (j.due = due) = false := by simpa using h5
                        clear hni
                        refine wp_region_held_drew (S := (fun W => W.cell? ⟨jx, 0, none⟩ = some (.string ⟨j.dom.toArray⟩) ∧ W.cell? ⟨jx, 1, none⟩ = some (.int .i64 j.tries) ∧ W.cell? ⟨jx, 2, none⟩ = some (.int .i64 j.due) ∧ W.cell? ⟨b, o + i2 * 10, none⟩ = some (.int .i64 x.id) ∧ W.cell? ⟨b, o + i2 * 10 + 1, none⟩ = some (.int .i64 x.at_) ∧ W.cell? ⟨b, o + i2 * 10 + 2, none⟩ = some (.string ⟨x.mail.sender.toArray⟩) ∧ W.cell? ⟨b, o + i2 * 10 + 3, none⟩ = some (.slice p1 x.mail.rcpts.length c1) ∧ W.cell? ⟨b, o + i2 * 10 + 4, none⟩ = some (.bool x.mail.req) ∧ W.cell? ⟨b, o + i2 * 10 + 5, none⟩ = some (.string ⟨x.mail.envid.toArray⟩) ∧ W.cell? ⟨b, o + i2 * 10 + 6, none⟩ = some (.string ⟨x.mail.text.toArray⟩) ∧ W.cell? ⟨b, o + i2 * 10 + 7, none⟩ = some (.bool x.plain) ∧ W.cell? ⟨b, o + i2 * 10 + 8, none⟩ = some (.slice p2 x.fates.length c2) ∧ W.cell? ⟨b, o + i2 * 10 + 9, none⟩ = some (.slice (some ⟨b3, o3, none⟩) x.jobs.length c3))) (by kernel_rfl) hS0 (fun hHeld => ?_)
                        refine wpAnyH_take (i := 0) (oi := ?oiz0) (v := ?vz0) ?h1z0 (by kernel_rfl) (by kernel_rfl) (by kernel_rfl) ?h2z0 ?hyz0 (by assumption) ?restz0
                        case h1z0 => (simp only [List.getElem?_toArray, List.getElem?_cons_succ, List.getElem?_cons_zero]; try rfl)
                        case h2z0 => exact fun _ _ _ h => h
                        case hyz0 => (refine Or.inl ⟨by rfl, ?_⟩; intro w hSw; (try dsimp only at hSw); go_simp; (try with_reducible rfl))
                        try simp only [Act.put, List.setIfInBounds_toArray, List.set_cons_zero, List.set_cons_succ]
                        refine wpAnyH_take (i := 1) (oi := ?oiz1) (v := ?vz1) ?h1z1 (by kernel_rfl) (by kernel_rfl) (by kernel_rfl) ?h2z1 ?hyz1 (by assumption) ?restz1
                        case h1z1 => (simp only [List.getElem?_toArray, List.getElem?_cons_succ, List.getElem?_cons_zero]; try rfl)
                        case h2z1 => exact fun _ _ _ h => h
                        case hyz1 => (refine Or.inl ⟨by rfl, ?_⟩; intro w hSw; (try dsimp only at hSw); go_simp; (try with_reducible rfl))
                        try simp only [Act.put, List.setIfInBounds_toArray, List.set_cons_zero, List.set_cons_succ]
                        refine wpAnyH_take (i := 2) (oi := ?oiz2) (v := ?vz2) ?h1z2 (by kernel_rfl) (by kernel_rfl) (by kernel_rfl) ?h2z2 ?hyz2 (by assumption) ?restz2
                        case h1z2 => (simp only [List.getElem?_toArray, List.getElem?_cons_succ, List.getElem?_cons_zero]; try rfl)
                        case h2z2 => exact fun _ _ _ h => h
                        case hyz2 => (refine Or.inl ⟨by rfl, ?_⟩; intro w hSw; (try dsimp only at hSw); go_simp; (try with_reducible rfl))
                        try simp only [Act.put, List.setIfInBounds_toArray, List.set_cons_zero, List.set_cons_succ]
                        refine wpAnyH_take (i := 3) (oi := ?oiz3) (v := ?vz3) ?h1z3 (by kernel_rfl) (by kernel_rfl) (by kernel_rfl) ?h2z3 ?hyz3 (by assumption) ?restz3
                        case h1z3 => (simp only [List.getElem?_toArray, List.getElem?_cons_succ, List.getElem?_cons_zero]; try rfl)
                        case h2z3 => exact fun _ _ _ h => h
                        case hyz3 => (refine Or.inl ⟨by rfl, ?_⟩; intro w hSw; (try dsimp only at hSw); go_simp; (try with_reducible rfl))
                        try simp only [Act.put, List.setIfInBounds_toArray, List.set_cons_zero, List.set_cons_succ]
                        refine wpAnyH_take (i := 4) (oi := ?oiz4) (v := ?vz4) ?h1z4 (by kernel_rfl) (by kernel_rfl) (by kernel_rfl) ?h2z4 ?hyz4 (by assumption) ?restz4
                        case h1z4 => (simp only [List.getElem?_toArray, List.getElem?_cons_succ, List.getElem?_cons_zero]; try rfl)
                        case h2z4 => exact fun _ _ _ h => h
                        case hyz4 => (refine Or.inl ⟨by rfl, ?_⟩; intro w hSw; (try dsimp only at hSw); go_simp; (try with_reducible rfl))
                        try simp only [Act.put, List.setIfInBounds_toArray, List.set_cons_zero, List.set_cons_succ]
                        refine wpAnyH_take (i := 5) (oi := ?oiz5) (v := ?vz5) ?h1z5 (by kernel_rfl) (by kernel_rfl) (by kernel_rfl) ?h2z5 ?hyz5 (by assumption) ?restz5
                        case h1z5 => (simp only [List.getElem?_toArray, List.getElem?_cons_succ, List.getElem?_cons_zero]; try rfl)
                        case h2z5 => exact fun _ _ _ h => h
                        case hyz5 => (refine Or.inl ⟨by rfl, ?_⟩; intro w hSw; (try dsimp only at hSw); go_simp; (try with_reducible rfl))
                        try simp only [Act.put, List.setIfInBounds_toArray, List.set_cons_zero, List.set_cons_succ]
                        refine wpAnyH_take (i := 6) (oi := ?oiz6) (v := ?vz6) ?h1z6 (by kernel_rfl) (by kernel_rfl) (by kernel_rfl) ?h2z6 ?hyz6 (by assumption) ?restz6
                        case h1z6 => (simp only [List.getElem?_toArray, List.getElem?_cons_succ, List.getElem?_cons_zero]; try rfl)
                        case h2z6 => exact fun _ _ _ h => h
                        case hyz6 => (refine Or.inl ⟨by rfl, ?_⟩; intro w hSw; (try dsimp only at hSw); go_simp; (try with_reducible rfl))
                        try simp only [Act.put, List.setIfInBounds_toArray, List.set_cons_zero, List.set_cons_succ]
                        refine wpAnyH_take (i := 7) (oi := ?oiz7) (v := ?vz7) ?h1z7 (by kernel_rfl) (by kernel_rfl) (by kernel_rfl) ?h2z7 ?hyz7 (by assumption) ?restz7
                        case h1z7 => (simp only [List.getElem?_toArray, List.getElem?_cons_succ, List.getElem?_cons_zero]; try rfl)
                        case h2z7 => exact fun _ _ _ h => h
                        case hyz7 => (refine Or.inl ⟨by rfl, ?_⟩; intro w hSw; (try dsimp only at hSw); go_simp; (try with_reducible rfl))
                        try simp only [Act.put, List.setIfInBounds_toArray, List.set_cons_zero, List.set_cons_succ]
                        refine wpAnyH_take (i := 8) (oi := ?oiz8) (v := ?vz8) ?h1z8 (by kernel_rfl) (by kernel_rfl) (by kernel_rfl) ?h2z8 ?hyz8 (by assumption) ?restz8
                        case h1z8 => (simp only [List.getElem?_toArray, List.getElem?_cons_succ, List.getElem?_cons_zero]; try rfl)
                        case h2z8 => exact fun _ _ _ h => h
                        case hyz8 => (refine Or.inl ⟨by rfl, ?_⟩; intro w hSw; (try dsimp only at hSw); go_simp; (try with_reducible rfl))
                        try simp only [Act.put, List.setIfInBounds_toArray, List.set_cons_zero, List.set_cons_succ]
                        refine wpAnyH_take (i := 9) (oi := ?oiz9) (v := ?vz9) ?h1z9 (by kernel_rfl) (by kernel_rfl) (by kernel_rfl) ?h2z9 ?hyz9 (by assumption) ?restz9
                        case h1z9 => (simp only [List.getElem?_toArray, List.getElem?_cons_succ, List.getElem?_cons_zero]; try rfl)
                        case h2z9 => exact fun _ _ _ h => h
                        case hyz9 => (refine Or.inl ⟨by rfl, ?_⟩; intro w hSw; (try dsimp only at hSw); go_simp; (try with_reducible rfl))
                        try simp only [Act.put, List.setIfInBounds_toArray, List.set_cons_zero, List.set_cons_succ]
                        refine wpAnyH_take (i := 10) (oi := ?oiz10) (v := ?vz10) ?h1z10 (by kernel_rfl) (by kernel_rfl) (by kernel_rfl) ?h2z10 ?hyz10 (by assumption) ?restz10
                        case h1z10 => (simp only [List.getElem?_toArray, List.getElem?_cons_succ, List.getElem?_cons_zero]; try rfl)
                        case h2z10 => exact fun _ _ _ h => h
                        case hyz10 => (refine Or.inl ⟨by rfl, ?_⟩; intro w hSw; (try dsimp only at hSw); go_simp; (try with_reducible rfl))
                        try simp only [Act.put, List.setIfInBounds_toArray, List.set_cons_zero, List.set_cons_succ]
                        refine wpAnyH_ready (rs := [11]) (by kernel_rfl) (by simp) ?_
                        refine AllReadyH.cons (o := ?oiz11) ?h1z11 (fun K hK => ?restz11) AllReadyH.nil
                        case h1z11 => (simp only [List.getElem?_toArray, List.getElem?_cons_succ, List.getElem?_cons_zero]; try rfl)
                        go_simp
                        go_at_call 14
                        refine hWt.mono ?_
                        rintro e w6 ⟨⟨pp, cc, rfl⟩, hb6⟩
                        have hS6 := hSk w6 hb6
                        refine hK.out _ _ hS6 (fun hHeld => ?_)
                        clear hK K
                        try simp only [Act.put, List.setIfInBounds_toArray, List.set_cons_zero, List.set_cons_succ]
                        refine wpAnyH_ready (rs := [12]) (by kernel_rfl) (by simp) ?_
                        refine AllReadyH.cons (o := ?oiz12) ?h1z12 (fun K hK => ?restz12) AllReadyH.nil
                        case h1z12 => (simp only [List.getElem?_toArray, List.getElem?_cons_succ, List.getElem?_cons_zero]; try rfl)
                        go_simp
                        refine hK.out _ _ (by assumption) (fun hHeld => ?_)
                        clear hK K
                        try simp only [Act.put, List.setIfInBounds_toArray, List.set_cons_zero, List.set_cons_succ]
                        refine wpAnyH_take (i := 13) (oi := ?oiz13) (v := ?vz13) ?h1z13 (by kernel_rfl) (by kernel_rfl) (by kernel_rfl) ?h2z13 ?hyz13 (by assumption) ?restz13
                        case h1z13 => (simp only [List.getElem?_toArray, List.getElem?_cons_succ, List.getElem?_cons_zero]; try rfl)
                        case h2z13 => exact fun _ _ _ h => h
                        case hyz13 => (refine Or.inl ⟨by rfl, ?_⟩; intro w hSw; (try dsimp only at hSw); go_simp; (try with_reducible rfl))
                        try simp only [Act.put, List.setIfInBounds_toArray, List.set_cons_zero, List.set_cons_succ]
                        refine wpAnyH_take (i := 14) (oi := ?oiz14) (v := ?vz14) ?h1z14 (by kernel_rfl) (by kernel_rfl) (by kernel_rfl) ?h2z14 ?hyz14 (by assumption) ?restz14
                        case h1z14 => (simp only [List.getElem?_toArray, List.getElem?_cons_succ, List.getElem?_cons_zero]; try rfl)
                        case h2z14 => exact fun _ _ _ h => h
                        case hyz14 => (refine Or.inl ⟨by rfl, ?_⟩; intro w hSw; (try dsimp only at hSw); go_simp; (try with_reducible rfl))
                        try simp only [Act.put, List.setIfInBounds_toArray, List.set_cons_zero, List.set_cons_succ]
                        refine wpAnyH_take (i := 15) (oi := ?oiz15) (v := ?vz15) ?h1z15 (by kernel_rfl) (by kernel_rfl) (by kernel_rfl) ?h2z15 ?hyz15 (by assumption) ?restz15
                        case h1z15 => (simp only [List.getElem?_toArray, List.getElem?_cons_succ, List.getElem?_cons_zero]; try rfl)
                        case h2z15 => exact fun _ _ _ h => h
                        case hyz15 => (refine Or.inl ⟨by rfl, ?_⟩; intro w hSw; (try dsimp only at hSw); go_simp; (try with_reducible rfl))
                        try simp only [Act.put, List.setIfInBounds_toArray, List.set_cons_zero, List.set_cons_succ]
                        refine wpAnyH_take (i := 16) (oi := ?oiz16) (v := ?vz16) ?h1z16 (by kernel_rfl) (by kernel_rfl) (by kernel_rfl) ?h2z16 ?hyz16 (by assumption) ?restz16
                        case h1z16 => (simp only [List.getElem?_toArray, List.getElem?_cons_succ, List.getElem?_cons_zero]; try rfl)
                        case h2z16 => exact fun _ _ _ h => h
                        case hyz16 => (refine Or.inl ⟨by rfl, ?_⟩; intro w hSw; (try dsimp only at hSw); go_simp; (try with_reducible rfl))
                        try simp only [Act.put, List.setIfInBounds_toArray, List.set_cons_zero, List.set_cons_succ]
                        refine wpAnyH_take (i := 17) (oi := ?oiz17) (v := ?vz17) ?h1z17 (by kernel_rfl) (by kernel_rfl) (by kernel_rfl) ?h2z17 ?hyz17 (by assumption) ?restz17
                        case h1z17 => (simp only [List.getElem?_toArray, List.getElem?_cons_succ, List.getElem?_cons_zero]; try rfl)
                        case h2z17 => exact fun _ _ _ h => h
                        case hyz17 => (refine Or.inl ⟨by rfl, ?_⟩; intro w hSw; (try dsimp only at hSw); go_simp; (try with_reducible rfl))
                        try simp only [Act.put, List.setIfInBounds_toArray, List.set_cons_zero, List.set_cons_succ]
                        refine wpAnyH_take (i := 18) (oi := ?oiz18) (v := ?vz18) ?h1z18 (by kernel_rfl) (by kernel_rfl) (by kernel_rfl) ?h2z18 ?hyz18 (by assumption) ?restz18
                        case h1z18 => (simp only [List.getElem?_toArray, List.getElem?_cons_succ, List.getElem?_cons_zero]; try rfl)
                        case h2z18 => exact fun _ _ _ h => h
                        case hyz18 => (refine Or.inl ⟨by rfl, ?_⟩; intro w hSw; (try dsimp only at hSw); go_simp; (try with_reducible rfl))
                        try simp only [Act.put, List.setIfInBounds_toArray, List.set_cons_zero, List.set_cons_succ]
                        refine wpAnyH_take (i := 19) (oi := ?oiz19) (v := ?vz19) ?h1z19 (by kernel_rfl) (by kernel_rfl) (by kernel_rfl) ?h2z19 ?hyz19 (by assumption) ?restz19
                        case h1z19 => (simp only [List.getElem?_toArray, List.getElem?_cons_succ, List.getElem?_cons_zero]; try rfl)
                        case h2z19 => exact fun _ _ _ h => h
                        case hyz19 => (refine Or.inl ⟨by rfl, ?_⟩; intro w hSw; (try dsimp only at hSw); go_simp; (try with_reducible rfl))
                        try simp only [Act.put, List.setIfInBounds_toArray, List.set_cons_zero, List.set_cons_succ]
                        refine wpAnyH_take (i := 20) (oi := ?oiz20) (v := ?vz20) ?h1z20 (by kernel_rfl) (by kernel_rfl) (by kernel_rfl) ?h2z20 ?hyz20 (by assumption) ?restz20
                        case h1z20 => (simp only [List.getElem?_toArray, List.getElem?_cons_succ, List.getElem?_cons_zero]; try rfl)
                        case h2z20 => exact fun _ _ _ h => h
                        case hyz20 => (refine Or.inl ⟨by rfl, ?_⟩; intro w hSw; (try dsimp only at hSw); go_simp; (try with_reducible rfl))
                        try simp only [Act.put, List.setIfInBounds_toArray, List.set_cons_zero, List.set_cons_succ]
                        refine wpAnyH_take (i := 21) (oi := ?oiz21) (v := ?vz21) ?h1z21 (by kernel_rfl) (by kernel_rfl) (by kernel_rfl) ?h2z21 ?hyz21 (by assumption) ?restz21
                        case h1z21 => (simp only [List.getElem?_toArray, List.getElem?_cons_succ, List.getElem?_cons_zero]; try rfl)
                        case h2z21 => exact fun _ _ _ h => h
                        case hyz21 => (refine Or.inl ⟨by rfl, ?_⟩; intro w hSw; (try dsimp only at hSw); go_simp; (try with_reducible rfl))
                        try simp only [Act.put, List.setIfInBounds_toArray, List.set_cons_zero, List.set_cons_succ]
                        refine wpAnyH_take (i := 22) (oi := ?oiz22) (v := ?vz22) ?h1z22 (by kernel_rfl) (by kernel_rfl) (by kernel_rfl) ?h2z22 ?hyz22 (by assumption) ?restz22
                        case h1z22 => (simp only [List.getElem?_toArray, List.getElem?_cons_succ, List.getElem?_cons_zero]; try rfl)
                        case h2z22 => exact fun _ _ _ h => h
                        case hyz22 => (refine Or.inl ⟨by rfl, ?_⟩; intro w hSw; (try dsimp only at hSw); go_simp; (try with_reducible rfl))
                        try simp only [Act.put, List.setIfInBounds_toArray, List.set_cons_zero, List.set_cons_succ]
                        refine wpAnyH_take (i := 23) (oi := ?oiz23) (v := ?vz23) ?h1z23 (by kernel_rfl) (by kernel_rfl) (by kernel_rfl) ?h2z23 ?hyz23 (by assumption) ?restz23
                        case h1z23 => (simp only [List.getElem?_toArray, List.getElem?_cons_succ, List.getElem?_cons_zero]; try rfl)
                        case h2z23 => exact fun _ _ _ h => h
                        case hyz23 => (refine Or.inl ⟨by rfl, ?_⟩; intro w hSw; (try dsimp only at hSw); go_simp; (try with_reducible rfl))
                        try simp only [Act.put, List.setIfInBounds_toArray, List.set_cons_zero, List.set_cons_succ]
                        refine wpAnyH_take (i := 24) (oi := ?oiz24) (v := ?vz24) ?h1z24 (by kernel_rfl) (by kernel_rfl) (by kernel_rfl) ?h2z24 ?hyz24 (by assumption) ?restz24
                        case h1z24 => (simp only [List.getElem?_toArray, List.getElem?_cons_succ, List.getElem?_cons_zero]; try rfl)
                        case h2z24 => exact fun _ _ _ h => h
                        case hyz24 => (refine Or.inl ⟨by rfl, ?_⟩; intro w hSw; (try dsimp only at hSw); go_simp; (try with_reducible rfl))
                        try simp only [Act.put, List.setIfInBounds_toArray, List.set_cons_zero, List.set_cons_succ]
                        refine wpAnyH_take (i := 25) (oi := ?oiz25) (v := ?vz25) ?h1z25 (by kernel_rfl) (by kernel_rfl) (by kernel_rfl) ?h2z25 ?hyz25 (by assumption) ?restz25
                        case h1z25 => (simp only [List.getElem?_toArray, List.getElem?_cons_succ, List.getElem?_cons_zero]; try rfl)
                        case h2z25 => exact fun _ _ _ h => h
                        case hyz25 => (refine Or.inl ⟨by rfl, ?_⟩; intro w hSw; (try dsimp only at hSw); go_simp; (try with_reducible rfl))
                        try simp only [Act.put, List.setIfInBounds_toArray, List.set_cons_zero, List.set_cons_succ]
                        refine wpAnyH_take (i := 26) (oi := ?oiz26) (v := ?vz26) ?h1z26 (by kernel_rfl) (by kernel_rfl) (by kernel_rfl) ?h2z26 ?hyz26 (by assumption) ?restz26
                        case h1z26 => (simp only [List.getElem?_toArray, List.getElem?_cons_succ, List.getElem?_cons_zero]; try rfl)
                        case h2z26 => exact fun _ _ _ h => h
                        case hyz26 => (refine Or.inl ⟨by rfl, ?_⟩; intro w hSw; (try dsimp only at hSw); go_simp; (try with_reducible rfl))
                        try simp only [Act.put, List.setIfInBounds_toArray, List.set_cons_zero, List.set_cons_succ]
                        refine wpAnyH_take (i := 27) (oi := ?oiz27) (v := ?vz27) ?h1z27 (by kernel_rfl) (by kernel_rfl) (by kernel_rfl) ?h2z27 ?hyz27 (by assumption) ?restz27
                        case h1z27 => (simp only [List.getElem?_toArray, List.getElem?_cons_succ, List.getElem?_cons_zero]; try rfl)
                        case h2z27 => exact fun _ _ _ h => h
                        case hyz27 => (refine Or.inl ⟨by rfl, ?_⟩; intro w hSw; (try dsimp only at hSw); go_simp; (try with_reducible rfl))
                        try simp only [Act.put, List.setIfInBounds_toArray, List.set_cons_zero, List.set_cons_succ]
                        refine wpAnyH_take (i := 28) (oi := ?oiz28) (v := ?vz28) ?h1z28 (by kernel_rfl) (by kernel_rfl) (by kernel_rfl) ?h2z28 ?hyz28 (by assumption) ?restz28
                        case h1z28 => (simp only [List.getElem?_toArray, List.getElem?_cons_succ, List.getElem?_cons_zero]; try rfl)
                        case h2z28 => exact fun _ _ _ h => h
                        case hyz28 => (refine Or.inl ⟨by rfl, ?_⟩; intro w hSw; (try dsimp only at hSw); go_simp; (try with_reducible rfl))
                        try simp only [Act.put, List.setIfInBounds_toArray, List.set_cons_zero, List.set_cons_succ]
                        refine wpAnyH_take (i := 29) (oi := ?oiz29) (v := ?vz29) ?h1z29 (by kernel_rfl) (by kernel_rfl) (by kernel_rfl) ?h2z29 ?hyz29 (by assumption) ?restz29
                        case h1z29 => (simp only [List.getElem?_toArray, List.getElem?_cons_succ, List.getElem?_cons_zero]; try rfl)
                        case h2z29 => exact fun _ _ _ h => h
                        case hyz29 => (refine Or.inl ⟨by rfl, ?_⟩; intro w hSw; (try dsimp only at hSw); go_simp; (try with_reducible rfl))
                        try simp only [Act.put, List.setIfInBounds_toArray, List.set_cons_zero, List.set_cons_succ]
                        refine wpAnyH_take (i := 30) (oi := ?oiz30) (v := undef) ?h1z30 (by kernel_rfl) (by kernel_rfl) (by kernel_rfl) ?h2z30 ?hyz30 (by assumption) ?restz30
                        case h1z30 => (simp only [List.getElem?_toArray, List.getElem?_cons_succ, List.getElem?_cons_zero]; try rfl)
                        case h2z30 => exact fun _ _ _ h => h
                        case hyz30 => exact Or.inr ⟨by rfl, rfl⟩
                        try simp only [Act.put, List.setIfInBounds_toArray, List.set_cons_zero, List.set_cons_succ]
                        refine wpAnyH_take (i := 31) (oi := ?oiz31) (v := undef) ?h1z31 (by kernel_rfl) (by kernel_rfl) (by kernel_rfl) ?h2z31 ?hyz31 (by assumption) ?restz31
                        case h1z31 => (simp only [List.getElem?_toArray, List.getElem?_cons_succ, List.getElem?_cons_zero]; try rfl)
                        case h2z31 => exact fun _ _ _ h => h
                        case hyz31 => exact Or.inr ⟨by rfl, rfl⟩
                        try simp only [Act.put, List.setIfInBounds_toArray, List.set_cons_zero, List.set_cons_succ]
                        refine wpAnyH_take (i := 32) (oi := ?oiz32) (v := undef) ?h1z32 (by kernel_rfl) (by kernel_rfl) (by kernel_rfl) ?h2z32 ?hyz32 (by assumption) ?restz32
                        case h1z32 => (simp only [List.getElem?_toArray, List.getElem?_cons_succ, List.getElem?_cons_zero]; try rfl)
                        case h2z32 => exact fun _ _ _ h => h
                        case hyz32 => exact Or.inr ⟨by rfl, rfl⟩
                        try simp only [Act.put, List.setIfInBounds_toArray, List.set_cons_zero, List.set_cons_succ]
                        refine wpAnyH_take (i := 33) (oi := ?oiz33) (v := undef) ?h1z33 (by kernel_rfl) (by kernel_rfl) (by kernel_rfl) ?h2z33 ?hyz33 (by assumption) ?restz33
                        case h1z33 => (simp only [List.getElem?_toArray, List.getElem?_cons_succ, List.getElem?_cons_zero]; try rfl)
                        case h2z33 => exact fun _ _ _ h => h
                        case hyz33 => exact Or.inr ⟨by rfl, rfl⟩
                        try simp only [Act.put, List.setIfInBounds_toArray, List.set_cons_zero, List.set_cons_succ]
                        refine wpAnyH_take (i := 34) (oi := ?oiz34) (v := undef) ?h1z34 (by kernel_rfl) (by kernel_rfl) (by kernel_rfl) ?h2z34 ?hyz34 (by assumption) ?restz34
                        case h1z34 => (simp only [List.getElem?_toArray, List.getElem?_cons_succ, List.getElem?_cons_zero]; try rfl)
                        case h2z34 => exact fun _ _ _ h => h
                        case hyz34 => exact Or.inr ⟨by rfl, rfl⟩
                        try simp only [Act.put, List.setIfInBounds_toArray, List.set_cons_zero, List.set_cons_succ]
                        refine wpAnyH_take (i := 35) (oi := ?oiz35) (v := undef) ?h1z35 (by kernel_rfl) (by kernel_rfl) (by kernel_rfl) ?h2z35 ?hyz35 (by assumption) ?restz35
                        case h1z35 => (simp only [List.getElem?_toArray, List.getElem?_cons_succ, List.getElem?_cons_zero]; try rfl)
                        case h2z35 => exact fun _ _ _ h => h
                        case hyz35 => exact Or.inr ⟨by rfl, rfl⟩
                        try simp only [Act.put, List.setIfInBounds_toArray, List.set_cons_zero, List.set_cons_succ]
                        refine wpAnyH_take (i := 36) (oi := ?oiz36) (v := undef) ?h1z36 (by kernel_rfl) (by kernel_rfl) (by kernel_rfl) ?h2z36 ?hyz36 (by assumption) ?restz36
                        case h1z36 => (simp only [List.getElem?_toArray, List.getElem?_cons_succ, List.getElem?_cons_zero]; try rfl)
                        case h2z36 => exact fun _ _ _ h => h
                        case hyz36 => exact Or.inr ⟨by rfl, rfl⟩
                        try simp only [Act.put, List.setIfInBounds_toArray, List.set_cons_zero, List.set_cons_succ]
                        refine wpAnyH_take (i := 37) (oi := ?oiz37) (v := ?vz37) ?h1z37 (by kernel_rfl) (by kernel_rfl) (by kernel_rfl) ?h2z37 ?hyz37 (by assumption) ?restz37
                        case h1z37 => (simp only [List.getElem?_toArray, List.getElem?_cons_succ, List.getElem?_cons_zero]; try rfl)
                        case h2z37 => exact fun _ _ _ h => h
                        case hyz37 => (refine Or.inl ⟨by rfl, ?_⟩; intro w hSw; (try dsimp only at hSw); go_simp; (try with_reducible rfl))
                        try simp only [Act.put, List.setIfInBounds_toArray, List.set_cons_zero, List.set_cons_succ]
                        refine wpAnyH_take (i := 38) (oi := ?oiz38) (v := ?vz38) ?h1z38 (by kernel_rfl) (by kernel_rfl) (by kernel_rfl) ?h2z38 ?hyz38 (by assumption) ?restz38
                        case h1z38 => (simp only [List.getElem?_toArray, List.getElem?_cons_succ, List.getElem?_cons_zero]; try rfl)
                        case h2z38 => exact fun _ _ _ h => h
                        case hyz38 => (refine Or.inl ⟨by rfl, ?_⟩; intro w hSw; (try dsimp only at hSw); go_simp; (try with_reducible rfl))
                        try simp only [Act.put, List.setIfInBounds_toArray, List.set_cons_zero, List.set_cons_succ]
                        refine wpAnyH_take (i := 39) (oi := ?oiz39) (v := ?vz39) ?h1z39 (by kernel_rfl) (by kernel_rfl) (by kernel_rfl) ?h2z39 ?hyz39 (by assumption) ?restz39
                        case h1z39 => (simp only [List.getElem?_toArray, List.getElem?_cons_succ, List.getElem?_cons_zero]; try rfl)
                        case h2z39 => exact fun _ _ _ h => h
                        case hyz39 => (refine Or.inl ⟨by rfl, ?_⟩; intro w hSw; (try dsimp only at hSw); go_simp; (try with_reducible rfl))
                        try simp only [Act.put, List.setIfInBounds_toArray, List.set_cons_zero, List.set_cons_succ]
                        refine wpAnyH_done (by kernel_rfl) ?_ _
                        have H6 := Lib.hid (H3.out.1.trans (((below_drew w3).trans (hb6.mono (below_drew w3).size)).mono H3.out.1.size))
                        clear hWt hSk hS6 hS0 hb6 z0 z1 z2 k0 k1 k2 k3 k4 k5 k6 k7 k8 k9
                        go_wp2
                        go_roundw
                        case rel => exact ⟨k + 1, by simp [hw1], hkl, H6.out⟩
                        case measure => simp [natI, hw1]; omega
                  · have h4i : decide (j.due ≤ now) = false := decide_eq_false h4
                    have H6 := Lib.hid H3.out.1
                    go_quiet (fail)
                    clear z0 z1 z2
                    go_wp2
                    go_roundw
                    case rel => exact ⟨k + 1, by simp [hw1], hkl, H6.out.trans ((below_drewN (Below.refl _ _) _).mono H6.out.size)⟩
                    case measure => simp [natI, hw1]; omega
                · have hkli : ¬ (k : Int) < (x.jobs.length : Int) := by omega
                  have hw1 : wrap64 ((i2 : Int) + 1) = (i2 : Int) + 1 := by unfold wrap64; omega
                  clear hk hkl
                  go_wp2
                  go_roundw
                  case rel => exact ⟨i2 + 1, by simp [hw1], HXE.out.2.2, HR2.out⟩
                  case measure => have := HXE.out.2.2; simp [natI, hw1]; omega
            · have hli : ¬ (i2 : Int) < (l.length : Int) := by omega
              go_wp2
              refine bodyPost_ret (v := .bool true) (by simp [results, Tryz.results4, go_sem]) rfl ⟨rfl, HR.out⟩
end Go.Proofs.YtdlpdpelhkgnlaaGreatDoor
