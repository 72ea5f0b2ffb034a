/- Of, All. -/
import Derived.Test.YtojhledbfaninaaClearn
namespace Go.Proofs.Ytojhledbfaninaa
open Go Go.RowKit Go.Shelf Go.Sort
attribute [local go_sem] bneI

/-- What Of tells. -/
def ofE (d : Bytes) (now : Int) (L : List PE) : Option PE := match lookE d L with
  | some p => if now < p.unt then some p else none
  | none => none
def OfPost (w : World) (o : Option PE) (e : Ending) (w' : World) : Prop :=
  (o = none ∧ e = .returned (.tuple #[evp zeroM, .bool false])) ∨ ∃ x : EM, o = some x.1 ∧ e = .returned (.tuple #[evp x, .bool true]) ∧ MxAt w' (fun k => w.heap.size ≤ k) x.2 x.1.mx
theorem CacheAt.lts {W : World} {B : Nat → Prop} {b bm : Nat} {most : Int} {l : CM} (h : CacheAt W B b bm most l) : CacheAt W (fun k => B k ∧ k < W.heap.size) b bm most l :=
  ⟨h.obj, h.map, h.key, fun q hq => (h.mxs q hq).lts⟩
/-- Few texts an entry. -/
def FewE (L : List PE) : Prop := ∀ p ∈ L, p.mx.length ≤ 1000000
theorem GoodE.few {most : Int} {L : List PE} (h : GoodE most L) : FewE L := fun p hp => by
  have := h.may p hp
  simp [mayE, polB] at this
  omega

set_option maxRecDepth 100000 in
set_option maxHeartbeats 2000000 in
theorem of_any (b bm : Nat) (most : Int) (B : Nat → Prop) (L : List PE) (w : World) (h : CacheIs w B b bm most L) (hf : FewE L) (d : Bytes) (now : Int) :
    Calls Try.prog 7 #[.pointer (some ⟨b, 0, none⟩), .string ⟨d.toArray⟩, .int .i64 now] w fun e w' => OfPost w (ofE d now L) e w' ∧ Below w.heap.size w w' := by
  obtain ⟨l, hc, hE⟩ := h
  have hlook := ents_look hE hc.map.nodup hc.key d
  obtain ⟨W, hW⟩ : ∃ W, W = w.alloc (.cells #[.string ⟨#[]⟩, .string ⟨#[]⟩, .int .u8 0, .slice none 0 0, .int .i64 0, .int .i64 0] 27) := ⟨_, rfl⟩
  have hB : Below w.heap.size w W := by rw [hW]; exact (Below.refl _ w).alloc (Nat.le_refl _) _
  have hres : W.heap[w.heap.size]? = some (.cells #[.string ⟨#[]⟩, .string ⟨#[]⟩, .int .u8 0, .slice none 0 0, .int .i64 0, .int .i64 0] 27 (0, 0)) := by rw [hW, ha_eq rfl]
  have hsz : W.heap.size = w.heap.size + 1 := by rw [hW]; simp
  have hcW := hc.below hB
  have hlk := hcW.lookup d
  unfold str at hlk
  obtain ⟨c0, c1⟩ := hcW.cells
  obtain ⟨z0, z1, z2, z3, z4, z5⟩ := box6 hres
  have fz := froz6 hres
  cases hlo : look l d with
  | none =>
    rw [hlo, look_none.1 hlo] at hlk
    rw [hlo] at hlook
    have hof : ofE d now L = none := by unfold ofE; rw [← hlook]; rfl
    have HH := Lib.hid (And.intro hof (And.intro hB (And.intro hsz hres)))
    clear hof hB hcW hc hE hlook hlo hres hsz
    simp only [Option.map_none, Option.getD_none] at hlk
    unfold zeroM at hlk
    rw [lit_ev] at hlk
    go_enter Try.func7, Try.ntmps7
    go_upto_region 3 with (fail)
    rw [← hW]
    clear hW z0 z1 z2 z3 z4 z5 fz
    go_upto_region 4 with (fail)
    generalize hwC : World.alloc _ _ = wC
    have hBC : Below w.heap.size w wC := by rw [← hwC]; exact HH.out.2.1.alloc HH.out.2.1.size _
    have hresC : wC.heap[w.heap.size]? = some (.cells #[.string ⟨#[]⟩, .string ⟨#[]⟩, .int .u8 0, .slice none 0 0, .int .i64 0, .int .i64 0] 27 (0, 0)) := by rw [← hwC]; exact (ha_ne (by rw [HH.out.2.2.1]; omega)).trans HH.out.2.2.2
    have hAC : W.heap.size = w.heap.size + 1 := HH.out.2.2.1
    clear hwC hlk c0 c1 hAC
    obtain ⟨z0, z1, z2, z3, z4, z5⟩ := box6 hresC
    have fz := froz6 hresC
    go_wp2
    refine bodyPost_ret (v := .tuple #[.agg #[.string ⟨#[]⟩, .string ⟨#[]⟩, .int .u8 0, .slice none 0 0, .int .i64 0, .int .i64 0], .bool false]) (by simp [results, Try.results7, go_sem, z0, z1, z2, z3, z4, z5]) rfl ⟨.inl ⟨HH.out.1, rfl⟩, ?_⟩
    repeat (first | with_reducible exact hBC | refine Below.setCell ?_ (by dsimp only; omega) _)
  | some x =>
    have hhas : has l d = true := by
      cases hx : has l d with
      | false => rw [look_none.2 hx] at hlo; cases hlo
      | true => rfl
    rw [hlo, hhas] at hlk
    rw [hlo] at hlook
    have hof : ofE d now L = if now < x.1.unt then some x.1 else none := by unfold ofE; rw [← hlook]; rfl
    have hmx := hcW.mxs _ (look_mem hlo)
    have hfx : x.1.mx.length ≤ 1000000 := hf _ ((hE.mem _).2 (List.mem_map.2 ⟨_, look_mem hlo, rfl⟩))
    have HH := Lib.hid (And.intro hof (And.intro hB (And.intro hsz hres)))
    have HM := Lib.hid (And.intro hmx hfx)
    clear hof hB hcW hc hE hlook hlo hres hsz hmx hfx hhas
    obtain ⟨⟨d1, i1, m1, mx1, age1, unt1⟩, p1, n1, cc1⟩ := x
    simp only [Option.map_some, Option.getD_some] at hlk
    rw [lit_ev] at hlk
    go_enter Try.func7, Try.ntmps7
    go_upto_region 3 with (fail)
    rw [← hW]
    clear hW z0 z1 z2 z3 z4 z5 fz
    go_upto_region 4 with (fail)
    generalize hwC : World.alloc _ _ = wC
    have hBC : Below w.heap.size w wC := by rw [← hwC]; exact HH.out.2.1.alloc HH.out.2.1.size _
    have hresC : wC.heap[w.heap.size]? = some (.cells #[.string ⟨#[]⟩, .string ⟨#[]⟩, .int .u8 0, .slice none 0 0, .int .i64 0, .int .i64 0] 27 (0, 0)) := by rw [← hwC]; exact (ha_ne (by rw [HH.out.2.2.1]; omega)).trans HH.out.2.2.2
    have hAC : W.heap.size = w.heap.size + 1 := HH.out.2.2.1
    have hbx : wC.heap[W.heap.size]? = some (.cells #[.string ⟨d1.toArray⟩, .string ⟨i1.toArray⟩, .int .u8 (m1 : Int), .slice p1 n1 cc1, .int .i64 age1, .int .i64 unt1] 27 (0, 0)) := by rw [← hwC]; exact ha_eq rfl
    have hWC : Below W.heap.size W wC := by rw [← hwC]; exact (Below.refl _ _).alloc (Nat.le_refl _) _
    have hO := own_any (⟨d1, i1, m1, mx1, age1, unt1⟩, (p1, n1, cc1)) B wC (HM.out.1.below hWC) HM.out.2
    rw [lit_ev] at hO
    rw [hAC] at hbx
    have HC := Lib.hid (And.intro hBC hresC)
    clear hwC hlk c0 c1 hWC
    obtain ⟨y0, y1, y2, y3, y4, y5⟩ := box6 hbx
    rw [hAC]
    by_cases hlt : now < unt1
    · have hn : ¬ unt1 ≤ now := by omega
      have HL := Lib.hid hlt
      clear hresC hBC hbx hlt
      go_wp2_with fail
      refine hO.mono ?_
      rintro e w5 ⟨⟨p', n', c'⟩, rfl, hm5, hb5⟩
      have hres5 := (hb5.block _ (Array.getElem?_eq_some_iff.1 HC.out.2).1).trans HC.out.2
      obtain ⟨z0, z1, z2, z3, z4, z5⟩ := box6 hres5
      have fz := froz6 hres5
      have hlt5 : w.heap.size < wC.heap.size := (Array.getElem?_eq_some_iff.1 HC.out.2).1
      have HN := Lib.hid (And.intro (hm5.mono (B' := fun k => w.heap.size + 1 ≤ k) (fun k hk => Nat.le_trans hlt5 hk)) (HC.out.1.trans (hb5.mono HC.out.1.size)))
      clear hm5 hb5 hres5 hO y0 y1 y2 y3 y4 y5 hlt5
      rw [lit_ev]
      go_wp2
      refine bodyPost_ret (v := .tuple #[.agg #[.string ⟨d1.toArray⟩, .string ⟨i1.toArray⟩, .int .u8 (m1 : Int), .slice p' n' c', .int .i64 age1, .int .i64 unt1], .bool true]) (by simp [results, Try.results7, go_sem, z0, z1, z2, z3, z4, z5]) rfl ⟨.inr ⟨(⟨d1, i1, m1, mx1, age1, unt1⟩, (p', n', c')), HH.out.1.trans (if_pos HL.out), rfl, ?_⟩, ?_⟩
      · have h1 := HN.out.1
        refine MxAt.mono (B := fun k => w.heap.size + 1 ≤ k) ?_ (fun k hk => by omega)
        repeat (first | with_reducible exact h1 | refine MxAt.setCell ?_ (by intro k hk; dsimp only at *; omega))
      · have h1 := HN.out.2
        repeat (first | with_reducible exact h1 | refine Below.setCell ?_ (by dsimp only; omega) _)
    · have hn : unt1 ≤ now := by omega
      have HL := Lib.hid hlt
      clear hbx hO hlt
      obtain ⟨z0, z1, z2, z3, z4, z5⟩ := box6 hresC
      have fz := froz6 hresC
      go_wp2
      refine bodyPost_ret (v := .tuple #[.agg #[.string ⟨#[]⟩, .string ⟨#[]⟩, .int .u8 0, .slice none 0 0, .int .i64 0, .int .i64 0], .bool false]) (by simp [results, Try.results7, go_sem, z0, z1, z2, z3, z4, z5]) rfl ⟨.inl ⟨HH.out.1.trans (if_neg (by have := HL.out; omega)), rfl⟩, ?_⟩
      repeat (first | with_reducible exact hBC | refine Below.setCell ?_ (by dsimp only; omega) _)

/-! ### Slices of entries, wherever they lie -/
def RowE (W : World) (v : Value) (zs : List EM) : Prop :=
  (zs = [] ∧ ∃ p c, v = .slice p 0 c) ∨ (zs ≠ [] ∧ ∃ b o c, v = .slice (some ⟨b, o, none⟩) zs.length c ∧ ∀ (i : Nat) (hi : i < zs.length) (k : Nat) (u : Value), (ecells zs[i])[k]? = some u → W.cell? ⟨b, o + i * 6 + k, none⟩ = some u)
def TextsE (W : World) (B : Nat → Prop) (zs : List EM) : Prop := ∀ x ∈ zs, MxAt W B x.2 x.1.mx
/-- A slice of the call's own, in a block from base on. -/
def OwnRow (W : World) (base : Nat) (v : Value) (zs : List EM) : Prop :=
  (zs = [] ∧ ∃ p c, v = .slice p 0 c) ∨ (zs ≠ [] ∧ ∃ g c, v = .slice (some ⟨g, 0, none⟩) zs.length c ∧ zs.length ≤ c ∧ base ≤ g ∧ ERow W g zs)
theorem OwnRow.row {W : World} {base : Nat} {v : Value} {zs : List EM} (h : OwnRow W base v zs) : RowE W v zs := by
  rcases h with ⟨h1, h2⟩ | ⟨h1, g, c, rfl, _, _, hr⟩
  · exact .inl ⟨h1, h2⟩
  · exact .inr ⟨h1, g, 0, c, rfl, fun i hi k u hu => by rw [Nat.zero_add]; exact (hr.cell hi hu).1⟩
/-- What All hands back. -/
def AllPost (w : World) (L : List PE) (e : Ending) (w' : World) : Prop :=
  ∃ v zs, e = .returned v ∧ zs.map (·.1) = L ∧ OwnRow w' w.heap.size v zs ∧ TextsE w' (fun k => w.heap.size ≤ k) zs
theorem RowE.below {W W' : World} {v : Value} {zs : List EM} (h : RowE W v zs) (hb : Below W.heap.size W W') : RowE W' v zs := by
  rcases h with h | ⟨h1, b, o, c, rfl, hc⟩
  · exact .inl h
  · exact .inr ⟨h1, b, o, c, rfl, fun i hi k u hu => (hb.cell (cell_lt (hc i hi k u hu))).trans (hc i hi k u hu)⟩
theorem TextsE.below {W W' : World} {B : Nat → Prop} {zs : List EM} (h : TextsE W B zs) (hb : Below W.heap.size W W') : TextsE W' B zs := fun x hx => (h x hx).below hb
theorem TextsE.mono {W : World} {B B' : Nat → Prop} {zs : List EM} (h : TextsE W B zs) (hb : ∀ k, B k → B' k) : TextsE W B' zs := fun x hx => (h x hx).mono hb

/-- All under way. -/
structure AInv (w wr : World) (B : Nat → Prop) (L : List PE) (g i : Nat) (zs : List EM) : Prop where
  map : zs.map (·.1) = L
  row : ERow wr g zs
  done : ∀ (j : Nat) (hj : j < zs.length), j < i → MxAt wr (fun k => w.heap.size ≤ k ∧ k ≠ g) zs[j].2 zs[j].1.mx
  rest : ∀ (j : Nat) (hj : j < zs.length), i ≤ j → MxAt wr (fun k => B k ∧ k < w.heap.size) zs[j].2 zs[j].1.mx
  below : Below w.heap.size w wr
theorem AInv.step {w wr w5 : World} {B : Nat → Prop} {L : List PE} {g i : Nat} {zs : List EM} (h : AInv w wr B L g i zs) (hi : i < zs.length) (hg : w.heap.size ≤ g) (hgw : g < wr.heap.size) (hb : Below wr.heap.size wr w5) (s : SH) (hm : MxAt w5 (fun k => wr.heap.size ≤ k) s zs[i].1.mx) :
    AInv w (w5.setCells g (i * 6) (ecells (zs[i].1, s))) B L g (i + 1) (zs.set i (zs[i].1, s)) := by
  have hr5 := (h.row.below hb hgw).store hi (zs[i].1, s)
  have hgr := grownBy_setCells w5 g (i * 6) (ecells (zs[i].1, s))
  have keepB : ∀ {B' : Nat → Prop} {t : SH} {m : List Bytes}, MxAt w5 B' t m → (∀ k, B' k → k ≠ g) → MxAt (w5.setCells g (i * 6) (ecells (zs[i].1, s))) B' t m := fun hm' hn => hm'.keep fun a v hv hBa => cell_grown hgr hv (fun e => hn _ hBa (by injection e with e; exact e.symm))
  refine ⟨?_, hr5.2, fun j hj hlt => ?_, fun j hj hle => ?_, ?_⟩
  · rw [List.map_set, h.map]
    apply List.ext_getElem?
    intro k
    by_cases e : i = k
    · subst e
      have : i < L.length := by rw [← h.map]; simpa using hi
      rw [List.getElem?_set_self this, List.getElem?_eq_getElem this]
      congr 1
      have := congrArg (fun l => l[i]?) h.map
      simp only [List.getElem?_map, List.getElem?_eq_getElem hi, Option.map_some] at this
      rw [List.getElem?_eq_getElem ‹i < L.length›] at this
      exact Option.some.inj this
    · rw [List.getElem?_set_ne e]
  · by_cases e : i = j
    · subst e
      simp only [List.getElem_set_self]
      exact keepB (hm.mono (fun k hk => ⟨Nat.le_trans h.below.size hk, fun e => by rw [e] at hk; exact absurd hgw (Nat.not_lt.2 hk)⟩)) (fun k hk => hk.2)
    · have hj' : j < zs.length := by simpa using hj
      simp only [List.getElem_set_ne e]
      exact keepB ((h.done j hj' (by omega)).below hb) (fun k hk => hk.2)
  · have hj' : j < zs.length := by simpa using hj
    simp only [List.getElem_set_ne (show i ≠ j by omega)]
    exact keepB ((h.rest j hj' (by omega)).below hb) (fun k hk => by have := hk.2; omega)
  · exact (h.below.trans (hb.mono h.below.size)).grown hgr (Nat.le_trans h.below.size hb.size) (fun k e => by cases e; exact hg)

set_option maxRecDepth 100000 in
set_option maxHeartbeats 2000000 in
theorem all_any (b bm : Nat) (most : Int) (B : Nat → Prop) (L : List PE) (w : World) (h : CacheIs w B b bm most L) (hl : L.length ≤ 1000) (hf : FewE L) :
    Calls Try.prog 11 #[.pointer (some ⟨b, 0, none⟩)] w fun e w' => AllPost w L e w' ∧ Below w.heap.size w w' := by
  obtain ⟨l, hc, hE⟩ := h
  have hL := list_any b bm most _ L w ⟨l, hc.lts, hE⟩ hl
  clear hc hE
  go_enter Try.func11, Try.ntmps11
  go_wp2_with fail
  refine hL.mono ?_
  rintro e w2 ⟨v, ps, rfl, hmap, ho, hb2⟩
  clear hL
  have hpl : ps.length = L.length := by have := congrArg List.length hmap; simpa using this
  rcases ho.1.2 with ⟨rfl, h0⟩ | ⟨g, cap, cur, rfl, hgb, hgc, hcap, hcm, hcs, htk⟩
  · have hps : ps = [] := List.eq_nil_of_length_eq_zero h0
    subst hps
    have hLn : L = [] := hmap.symm
    have HH := Lib.hid (And.intro hLn hb2)
    clear hmap ho hb2 hLn hpl h0
    go_wp2_with fail
    go_loopw [4, 11] (fun _ s11 wr => s11 = .int .i64 0 ∧ wr = w2) (fun _ _ _ => 0)
    case atStart => exact ⟨rfl, rfl⟩
    case round =>
      obtain ⟨rfl, rfl⟩ := hrel
      go_wp2
      refine bodyPost_ret (v := .slice none 0 0) (by simp [results, Try.results11, go_sem]) rfl ⟨⟨_, [], rfl, HH.out.1.symm, .inl ⟨rfl, none, 0, rfl⟩, fun x hx => by simp at hx⟩, HH.out.2⟩
  · have hgw : g < w2.heap.size := (Array.getElem?_eq_some_iff.1 hgc).1
    have hI : AInv w w2 B L g 0 ps := ⟨hmap, erow_own hgc htk, fun j hj h => absurd h (Nat.not_lt_zero _), fun j hj _ => ho.2 _ (List.getElem_mem hj), hb2⟩
    have hn : ps.length ≤ 1000 := by omega
    have HH := Lib.hid (And.intro hI (And.intro hgb hgw))
    clear hmap ho hb2 hI hgc htk hcs hpl hl hgb hgw
    go_wp2_with fail
    go_loopw [4, 11] (fun _ s11 wr => ∃ (i : Nat) (zs : List EM), s11 = .int .i64 (i : Int) ∧ i ≤ ps.length ∧ zs.length = ps.length ∧ AInv w wr B L g i zs ∧ g < wr.heap.size) (fun _ s11 _ => ps.length - natI s11)
    case atStart => exact ⟨0, ps, rfl, Nat.zero_le _, rfl, HH.out.1, HH.out.2.2⟩
    case round =>
      obtain ⟨i, zs, rfl, hi, hzl, hI, hgw⟩ := hrel
      by_cases hlast : i < ps.length
      · have hli : (i : Int) < (ps.length : Int) := by omega
        have hiz : i < zs.length := by omega
        obtain ⟨c0, c1, c2, c3, c4, c5⟩ := hI.row.six hiz
        have hmi := hI.rest i hiz (Nat.le_refl _)
        have hstep := fun (w5 : World) (hb : Below wr.heap.size wr w5) (s : SH) => hI.step hiz HH.out.2.1 hgw hb s
        have hfx : zs[i].1.mx.length ≤ 1000000 := hf _ (by rw [← hI.map]; exact List.mem_map.2 ⟨_, List.getElem_mem hiz, rfl⟩)
        have hO := own_any zs[i] _ wr hmi hfx
        have hrow5 := fun (w5 : World) (hb : Below wr.heap.size wr w5) => And.intro ((hI.row.below hb hgw).six hiz) (frozE (hI.row.below hb hgw) hiz)
        have HZ := Lib.hid (And.intro hstep (And.intro hrow5 hzl))
        clear hmi hstep hfx hrow5 hI hzl
        obtain ⟨x, hx⟩ : ∃ x, x = zs[i] := ⟨_, rfl⟩
        rw [← hx] at c0 c1 c2 c3 c4 c5 hO HZ
        clear hx
        obtain ⟨⟨d1, i1, m1, mx1, age1, unt1⟩, p1, n1, cc1⟩ := x
        rw [lit_ev] at hO
        dsimp only at c0 c1 c2 c3 c4 c5 hO HZ
        go_wp2_with fail
        refine hO.mono ?_
        rintro e w5 ⟨⟨p', n', c'⟩, rfl, hm5, hb5⟩
        obtain ⟨⟨z0, z1, z2, z3, z4, z5⟩, f0, f1, f2, f3, f4, f5⟩ := HZ.out.2.1 w5 hb5
        have hnew := HZ.out.1 w5 hb5 (p', n', c') hm5
        have HN := Lib.hid (And.intro hnew (And.intro HZ.out.2.2 (Nat.lt_of_lt_of_le hgw hb5.size)))
        clear HZ hnew hm5 hb5 hO c0 c1 c2 c3 c4 c5 hgw
        rw [lit_ev]
        go_wp2
        go_roundw
        case rel => exact ⟨i + 1, _, by simp, by omega, by simpa using HN.out.2.1, HN.out.1, by simpa [World.setCell] using HN.out.2.2⟩
        case measure => simp [natI]; omega
      · have hli : ¬ (i : Int) < (ps.length : Int) := by omega
        have HZ := Lib.hid (And.intro hI (And.intro hzl hi))
        clear hI
        go_wp2
        have hne : zs ≠ [] ∨ zs = [] := by cases zs <;> simp
        refine bodyPost_ret (v := .slice (some ⟨g, 0, none⟩) ps.length cap) (by simp [results, Try.results11, go_sem]) rfl ⟨⟨_, zs, rfl, HZ.out.1.map, ?_, ?_⟩, HZ.out.1.below⟩
        · rw [← hzl]
          rcases hne with h | h
          · exact .inr ⟨h, g, cap, rfl, by rw [hzl]; exact hcap, HH.out.2.1, HZ.out.1.row⟩
          · exact .inl ⟨h, _, cap, by rw [h]; rfl⟩
        · intro x hx
          obtain ⟨j, hj, rfl⟩ := List.getElem_of_mem hx
          exact (HZ.out.1.done j hj (by omega)).mono (fun k hk => hk.1)
end Go.Proofs.Ytojhledbfaninaa
