/- The law's like: is a cache the document's? -/
import Derived.Test.YtojhledbfaninaaGreatZspoil
import Derived.Deep.RegionHeld3
import Derived.Deep.CutRange
namespace Go.Proofs.YtojhledbfaninaaGreat
open Go Go.RowKit Go.Shelf Go.Sort
attribute [local go_sem] bneI

theorem rowE_oneB (w : World) (x : EM) (t : TypeId) : RowE (w.alloc (.cells (ecells x).toArray t)) (.slice (some ⟨w.heap.size, 0, none⟩) 1 1) [x] := by
  refine .inr ⟨by simp, w.heap.size, 0, 1, rfl, fun i hi k u hu => ?_⟩
  obtain rfl : i = 0 := by simpa using hi
  have hc := cell_list (w := w) (cs := ecells x) (t := t) rfl k u hu
  rw [addr0] at hc
  simpa using hc
theorem rowE_blk {w : World} {k : Nat} {x : EM} {t : TypeId} {f : Nat × Nat} (h : w.heap[k]? = some (.cells (ecells x).toArray t f)) : RowE w (.slice (some ⟨k, 0, none⟩) 1 1) [x] := by
  refine .inr ⟨by simp, k, 0, 1, rfl, fun i hi j u hu => ?_⟩
  obtain rfl : i = 0 := by simpa using hi
  have hu' : (ecells x)[j]? = some u := by simpa using hu
  simp [World.cell?, h, hu']
/-- All's rows may be written over. -/
theorem mx_spoil {W : World} {base g : Nat} {s : SH} {mx : List Bytes} (h1 : MxAt W (fun k => base ≤ k ∧ NF W k) s mx) (h2 : MxAt W (fun k => k ≠ g) s mx) (hf : mx.length ≤ 1000000) :
    s.2.1 ≤ 1000000 ∧ ∀ k, k < s.2.1 → ∃ b o, s.1 = some ⟨b, o, none⟩ ∧ base ≤ b ∧ b ≠ g ∧ NF W b ∧ ∃ v, W.cell? ⟨b, o + k, none⟩ = some v := by
  refine ⟨by rw [h1.1]; exact hf, fun k hk => ?_⟩
  rw [h1.1] at hk
  have hne : mx ≠ [] := fun e => by rw [e] at hk; simp at hk
  cases hs : s.1 with
  | none =>
    have := h1.2.1 hs
    have h3 := h1.1
    rw [this] at h3
    simp at h3
    omega
  | some a =>
    obtain ⟨hb, hc⟩ := h1.2.2 a hs
    obtain ⟨hg, _⟩ := h2.2.2 a hs
    have hk' : mx[k]? = some mx[k] := List.getElem?_eq_getElem hk
    have hcell := hc k _ hk'
    obtain ⟨b, o, sp⟩ := a
    have hsp : sp = none := by
      have := World.cell?_spot (hc 0 _ (List.getElem?_eq_getElem (List.length_pos_iff.2 hne)))
      simpa [Addr.add] using this
    subst hsp
    rw [addr_add] at hcell
    exact ⟨b, o, rfl, (hb hne).1, hg hne, (hb hne).2, _, hcell⟩
theorem SpE.rows {w5 w6 : World} {base : Nat} {p : Option Addr} {c : Nat} {za : List EM} (hr : RowE w5 (.slice p za.length c) za) (hg : ∀ g, (Value.slice p za.length c).ownBlock = some g → za ≠ [] → (Value.slice p za.length c) = .slice (some ⟨g, 0, none⟩) za.length (match (Value.slice p za.length c) with | .slice _ _ c => c | _ => 0) ∧ base ≤ g ∧ NF w5 g ∧ TextsE w5 (fun k => k ≠ g) za)
    (ht : TextsE w5 (fun k => base ≤ k ∧ NF w5 k) za) (hf : ∀ x ∈ za, x.1.mx.length ≤ 1000000) (hb : Below w5.heap.size w5 w6) : ∀ i, i < za.length → ∃ g, p = some ⟨g, 0, none⟩ ∧ SpE w6 base g za.length (za.map (fun e : EM => e.2)) := by
  intro i hi
  have hne : za ≠ [] := fun e => by rw [e] at hi; simp at hi
  rcases hr with ⟨h0, _⟩ | ⟨_, b, o, c1, e, hc⟩
  · exact absurd h0 hne
  · injection e with e1 _ e3
    subst e1 e3
    obtain ⟨he, h1, h2, h3⟩ := hg b rfl hne
    injection he with he _ _
    injection he with he
    injection he with _ he _
    subst he
    refine ⟨b, rfl, by simp, h1, h2.below hb, fun j hj => ?_, fun j hj => ?_, fun x hx => ?_⟩
    · have := hc j hj 0 _ rfl
      simp only [Nat.zero_add, Nat.add_zero] at this
      exact ⟨_, below_keep hb _ _ this⟩
    · have hj' : j < za.length := by simpa using hj
      have := hc j hj' 3 _ rfl
      simp only [Nat.zero_add] at this
      simp only [List.getElem_map]
      exact below_keep hb _ _ this
    · obtain ⟨z, hz, rfl⟩ := List.mem_map.1 hx
      exact mx_spoil (MxL.below (ht z hz) hb) ((h3 z hz).below hb) (hf z hz)
theorem SpE.one {T : TypeId} {base : Nat} (W : World) (x : EM) (hm : MxAt W (fun k => base ≤ k ∧ NF W k) x.2 x.1.mx) (hb : base ≤ W.heap.size) (hf : x.1.mx.length ≤ 1000000) : SpE (W.alloc (.cells (ecells x).toArray T)) base W.heap.size 1 [x.2] := by
  have hB : Below W.heap.size W (W.alloc (.cells (ecells x).toArray T)) := (Below.refl _ W).alloc (Nat.le_refl _) _
  have hg : (W.alloc (.cells (ecells x).toArray T)).heap[W.heap.size]? = some (.cells (ecells x).toArray T (0, 0)) := ha_eq rfl
  generalize W.alloc (.cells (ecells x).toArray T) = W' at hg hB ⊢
  refine ⟨rfl, hb, ⟨_, _, hg⟩, fun i hi => ?_, fun i hi => ?_, fun y hy => ?_⟩
  · obtain rfl : i = 0 := by omega
    exact ⟨str x.1.dom, by simp [World.cell?, hg, ecells]⟩
  · obtain rfl : i = 0 := by simpa using hi
    simp [World.cell?, hg, ecells]
  · rw [List.mem_singleton] at hy
    subst hy
    refine mx_spoil (MxL.below hm hB) (((hm.lts).mono fun k hk => ?_).below hB) hf
    exact Nat.ne_of_lt hk.2
theorem onceL {p q : Prop} (h : p) (f : RowKit.Hid p → q) : q := f (Lib.hid h)
/-- What Of answers on both sides. -/
structure OfTwo (W : World) (base : Nat) (zs : List EM) (x z : EM) (is : Bool) : Prop where
  pe : x.1 = z.1
  mx : MxAt W (fun k => base ≤ k ∧ NF W k) x.2 x.1.mx
  mz : MxAt W Any z.2 z.1.mx
  few : x.1.mx.length ≤ 1000000
theorem mx_zero (W : World) (B : Nat → Prop) : MxAt W B (none, 0, 0) [] := ⟨rfl, fun _ => rfl, fun a h => by cases h⟩

set_option maxRecDepth 100000 in
set_option maxHeartbeats 8000000 in
theorem like_any (w : World) (B B' : Nat → Prop) (b bm bd : Nat) (most : Int) (L : List PE) (zs : List EM) (hc : CacheIs w B b bm most L) (hd : DocIs w B' bd most zs) (hz : zs.map (fun e : EM => e.1) = L) (hG : GoodE most L) (h8 : most ≤ 8) (d : Bytes) (now : Int) :
    Calls Tryz.prog 16 #[.pointer (some ⟨b, 0, none⟩), .pointer (some ⟨bd, 0, none⟩), .string ⟨d.toArray⟩, .int .i64 now] w fun e w' => e = .returned (.bool true) ∧ Below w.heap.size w w' := by
  have hO := ofL_any b bm most B L w hc hG.few d now
  have hlz : zs.length ≤ 1000 := by have := hG.small h8; rw [← hz] at this; simpa using this
  have HH := Lib.hid (And.intro hc (And.intro hd (And.intro hz hG)))
  clear hc hd hz hG
  go_enter Tryz.func16, Tryz.ntmps16
  go_wp2_with fail
  refine hO.mono ?_
  rintro e w1 ⟨hP, hb1⟩
  clear hO
  obtain ⟨x, is, rfl, hx⟩ : ∃ (x : EM) (is : Bool), e = .returned (.tuple #[evp x, .bool is]) ∧ ((ofE d now L = none ∧ x = zeroM ∧ is = false) ∨ (ofE d now L = some x.1 ∧ is = true ∧ MxAt w1 (fun k => w.heap.size ≤ k ∧ NF w1 k) x.2 x.1.mx)) := by
    rcases hP with ⟨h, rfl⟩ | ⟨x, h, rfl, hm⟩
    · exact ⟨_, _, rfl, .inl ⟨h, rfl, rfl⟩⟩
    · exact ⟨_, _, rfl, .inr ⟨h, rfl, hm⟩⟩
  clear hP
  have HX := Lib.hid (And.intro hb1 hx)
  clear hb1 hx
  obtain ⟨⟨d1, i1, m1, mx1, a1, u1⟩, q1, n1, c1⟩ := x
  rw [lit_ev]
  go_upto_region 2 with (fail)
  generalize hwA : World.alloc _ _ = wA
  have h1A : Below w1.heap.size w1 wA := by rw [← hwA]; exact (Below.refl _ _).alloc (Nat.le_refl _) _
  have hxA : wA.heap[w1.heap.size]? = some (.cells #[.string ⟨d1.toArray⟩, .string ⟨i1.toArray⟩, .int .u8 (m1 : Int), .slice q1 n1 c1, .int .i64 a1, .int .i64 u1] 51 (0, 0)) := by rw [← hwA]; exact ha_eq rfl
  have hwAb : Below w.heap.size w wA := HX.out.1.trans (h1A.mono HX.out.1.size)
  have hR := refOf_any bd B' most now zs d wA (HH.out.2.1.below hwAb) (by rw [HH.out.2.2.1]; exact HH.out.2.2.2.asc) (by omega)
  have HA := Lib.hid (And.intro h1A (And.intro hxA hwAb))
  clear hwA h1A hxA hwAb
  go_wp2_with fail
  refine hR.mono ?_
  rintro e w2 ⟨hP, hb2⟩
  clear hR
  have hxA2 : w2.heap[w1.heap.size]? = some (.cells #[.string ⟨d1.toArray⟩, .string ⟨i1.toArray⟩, .int .u8 (m1 : Int), .slice q1 n1 c1, .int .i64 a1, .int .i64 u1] 51 (0, 0)) := (hb2.block _ (Array.getElem?_eq_some_iff.1 HA.out.2.1).1).trans HA.out.2.1
  have h12 : Below w1.heap.size w1 w2 := HA.out.1.trans (hb2.mono HA.out.1.size)
  have hw2 : Below w.heap.size w w2 := HA.out.2.2.trans (hb2.mono HA.out.2.2.size)
  obtain ⟨z, rfl, hOT⟩ : ∃ z : EM, e = .returned (.tuple #[evp z, .bool is]) ∧ OfTwo w2 w.heap.size zs (⟨d1, i1, m1, mx1, a1, u1⟩, q1, n1, c1) z is := by
    rcases HX.out.2 with ⟨h, hxz, rfl⟩ | ⟨h, rfl, hm⟩
    · unfold ROfPost at hP
      rw [HH.out.2.2.1, h] at hP
      rcases hP with ⟨_, rfl⟩ | ⟨z, _, h', _⟩
      · rw [hxz]
        exact ⟨zeroM, rfl, ⟨rfl, mx_zero _ _, mx_zero _ _, by simp [zeroM]⟩⟩
      · cases h'
    · unfold ROfPost at hP
      rw [HH.out.2.2.1, h] at hP
      rcases hP with ⟨h', _⟩ | ⟨z, hz, h', rfl⟩
      · cases h'
      · injection h' with h'
        have hdm := (HH.out.2.1.below hw2)
        obtain ⟨v, _, _, ht, _⟩ := hdm
        have hzm := (ht z hz).mono (B' := Any) (fun _ _ => trivial)
        refine ⟨z, rfl, ⟨h', MxL.below hm h12, hzm, ?_⟩⟩
        refine HH.out.2.2.2.few _ ?_
        rw [h', ← HH.out.2.2.1]
        exact List.mem_map.2 ⟨z, hz, rfl⟩
  clear hP
  have H2 := Lib.hid (And.intro hxA2 (And.intro h12 (And.intro hw2 hOT)))
  clear hxA2 h12 hw2 hOT hb2
  obtain ⟨⟨d2, i2, m2, mx2, a2, u2⟩, q2, n2, c2⟩ := z
  rw [lit_ev]
  go_upto_region 3 with (fail)
  generalize hw3 : World.alloc _ _ = w3
  have h23 : Below w2.heap.size w2 w3 := by rw [← hw3]; exact (Below.refl _ _).alloc (Nat.le_refl _) _
  have hy3 : w3.heap[w2.heap.size]? = some (.cells #[.string ⟨d2.toArray⟩, .string ⟨i2.toArray⟩, .int .u8 (m2 : Int), .slice q2 n2 c2, .int .i64 a2, .int .i64 u2] 67 (0, 0)) := by rw [← hw3]; exact ha_eq rfl
  have hx3 := (h23.block _ (Array.getElem?_eq_some_iff.1 H2.out.1).1).trans H2.out.1
  obtain ⟨x0, x1, x2, x3, x4, x5⟩ := box6 hx3
  obtain ⟨y0, y1, y2, y3, y4, y5⟩ := box6 hy3
  have hS0 : ∀ W' : World, (∀ a v, w3.cell? a = some v → W'.cell? a = some v) → (W'.cell? ⟨w1.heap.size, 0, none⟩ = some (.string ⟨d1.toArray⟩) ∧ W'.cell? ⟨w1.heap.size, 1, none⟩ = some (.string ⟨i1.toArray⟩) ∧ W'.cell? ⟨w1.heap.size, 2, none⟩ = some (.int .u8 (m1 : Int)) ∧ W'.cell? ⟨w1.heap.size, 3, none⟩ = some (.slice q1 n1 c1) ∧ W'.cell? ⟨w1.heap.size, 4, none⟩ = some (.int .i64 a1) ∧ W'.cell? ⟨w1.heap.size, 5, none⟩ = some (.int .i64 u1) ∧ W'.cell? ⟨w2.heap.size, 0, none⟩ = some (.string ⟨d2.toArray⟩) ∧ W'.cell? ⟨w2.heap.size, 1, none⟩ = some (.string ⟨i2.toArray⟩) ∧ W'.cell? ⟨w2.heap.size, 2, none⟩ = some (.int .u8 (m2 : Int)) ∧ W'.cell? ⟨w2.heap.size, 3, none⟩ = some (.slice q2 n2 c2) ∧ W'.cell? ⟨w2.heap.size, 4, none⟩ = some (.int .i64 a2) ∧ W'.cell? ⟨w2.heap.size, 5, none⟩ = some (.int .i64 u2)) := fun W' hk => ⟨hk _ _ x0, hk _ _ x1, hk _ _ x2, hk _ _ x3, hk _ _ x4, hk _ _ x5, hk _ _ y0, hk _ _ y1, hk _ _ y2, hk _ _ y3, hk _ _ y4, hk _ _ y5⟩
  have hSb := fun (W' : World) (hb : Below w3.heap.size w3 W') => hS0 W' (fun a v h => below_keep hb a v h)
  have hS1 := hSb w3.drew (below_drew w3)
  have hbA : ∀ o, Below w3.heap.size w3 (w3.alloc o).drew := fun o => ((Below.refl _ w3).alloc (Nat.le_refl _) o).trans ((below_drew (w3.alloc o)).mono (by simp))
  have hbB : ∀ o o', Below w3.heap.size w3 ((w3.alloc o).alloc o').drew := fun o o' => (((Below.refl _ w3).alloc (Nat.le_refl _) o).alloc (by simp) o').trans ((below_drew ((w3.alloc o).alloc o')).mono (by simp; omega))
  have hT : ∀ (W' : World) (v : Value), Below w3.heap.size w3 W' → RowE W' v [((⟨d1, i1, m1, mx1, a1, u1⟩, q1, n1, c1) : EM)] → Calls Tryz.prog 33 #[v] W' (fun e w'' => ∃ v', e = .returned v' ∧ RowE w'' v' [((⟨d1, i1, m1, mx1, a1, u1⟩, q1, n1, c1) : EM)] ∧ Below W'.heap.size W' w'' ∧ Below w3.heap.size w3 w'') := fun W' v hb hr =>
    (told_any v _ W' hr (by simp)).mono fun e w'' ⟨v', he, hr', hb'⟩ => ⟨v', he, hr', hb', hb.trans (hb'.mono hb.size)⟩
  have hSm : ∀ (W' : World) (v6 v7 : Value), RowE W' v6 [((⟨d1, i1, m1, mx1, a1, u1⟩, q1, n1, c1) : EM)] → RowE W' v7 [((⟨d2, i2, m2, mx2, a2, u2⟩, q2, n2, c2) : EM)] → Below w3.heap.size w3 W' → Calls Tryz.prog 32 #[v6, v7] W' (fun e w'' => e = .returned (.bool true) ∧ Below w3.heap.size w3 w'') := fun W' v6 v7 h6 h7 hb => by
    have hO := H2.out.2.2.2
    have h2w : Below w2.heap.size w2 W' := h23.trans (hb.mono h23.size)
    refine (refSame_any v6 v7 _ _ Any Any W' h6 h7 (fun x hx => by rw [List.mem_singleton] at hx; subst hx; exact (hO.mx.mono (fun _ _ => trivial)).below h2w) (fun x hx => by rw [List.mem_singleton] at hx; subst hx; exact hO.mz.below h2w) (fun x hx => by rw [List.mem_singleton] at hx; subst hx; exact hO.few) (by simp)).mono ?_
    rintro e w'' ⟨rfl, hb'⟩
    refine ⟨?_, hb.trans (hb'.mono hb.size)⟩
    have hpe := hO.pe
    dsimp only at hpe
    simp [hpe]
  have hxa : RowE (w3.alloc (.cells #[.string ⟨d1.toArray⟩, .string ⟨i1.toArray⟩, .int .u8 (m1 : Int), .slice q1 n1 c1, .int .i64 a1, .int .i64 u1] 51)).drew (.slice (some ⟨w3.heap.size, 0, none⟩) 1 1) [((⟨d1, i1, m1, mx1, a1, u1⟩, q1, n1, c1) : EM)] := rowE_blk (x := ((⟨d1, i1, m1, mx1, a1, u1⟩, q1, n1, c1) : EM)) (show (w3.alloc (.cells #[.string ⟨d1.toArray⟩, .string ⟨i1.toArray⟩, .int .u8 (m1 : Int), .slice q1 n1 c1, .int .i64 a1, .int .i64 u1] 51)).heap[w3.heap.size]? = _ from ha_eq rfl)
  have hxb : RowE ((w3.alloc (.cells #[.string ⟨d1.toArray⟩, .string ⟨i1.toArray⟩, .int .u8 (m1 : Int), .slice q1 n1 c1, .int .i64 a1, .int .i64 u1] 51)).alloc (.cells #[.string ⟨d2.toArray⟩, .string ⟨i2.toArray⟩, .int .u8 (m2 : Int), .slice q2 n2 c2, .int .i64 a2, .int .i64 u2] 67)).drew (.slice (some ⟨w3.heap.size, 0, none⟩) 1 1) [((⟨d1, i1, m1, mx1, a1, u1⟩, q1, n1, c1) : EM)] := rowE_blk (x := ((⟨d1, i1, m1, mx1, a1, u1⟩, q1, n1, c1) : EM)) (show ((w3.alloc (.cells #[.string ⟨d1.toArray⟩, .string ⟨i1.toArray⟩, .int .u8 (m1 : Int), .slice q1 n1 c1, .int .i64 a1, .int .i64 u1] 51)).alloc (.cells #[.string ⟨d2.toArray⟩, .string ⟨i2.toArray⟩, .int .u8 (m2 : Int), .slice q2 n2 c2, .int .i64 a2, .int .i64 u2] 67)).heap[w3.heap.size]? = _ from (ha_ne (by simp)).trans (ha_eq rfl))
  have hxc : RowE ((w3.alloc (.cells #[.string ⟨d2.toArray⟩, .string ⟨i2.toArray⟩, .int .u8 (m2 : Int), .slice q2 n2 c2, .int .i64 a2, .int .i64 u2] 67)).alloc (.cells #[.string ⟨d1.toArray⟩, .string ⟨i1.toArray⟩, .int .u8 (m1 : Int), .slice q1 n1 c1, .int .i64 a1, .int .i64 u1] 51)).drew (.slice (some ⟨w3.heap.size + 1, 0, none⟩) 1 1) [((⟨d1, i1, m1, mx1, a1, u1⟩, q1, n1, c1) : EM)] := rowE_blk (x := ((⟨d1, i1, m1, mx1, a1, u1⟩, q1, n1, c1) : EM)) (show ((w3.alloc (.cells #[.string ⟨d2.toArray⟩, .string ⟨i2.toArray⟩, .int .u8 (m2 : Int), .slice q2 n2 c2, .int .i64 a2, .int .i64 u2] 67)).alloc (.cells #[.string ⟨d1.toArray⟩, .string ⟨i1.toArray⟩, .int .u8 (m1 : Int), .slice q1 n1 c1, .int .i64 a1, .int .i64 u1] 51)).heap[w3.heap.size + 1]? = _ from ha_eq (by simp))
  have hzb : RowE ((w3.alloc (.cells #[.string ⟨d1.toArray⟩, .string ⟨i1.toArray⟩, .int .u8 (m1 : Int), .slice q1 n1 c1, .int .i64 a1, .int .i64 u1] 51)).alloc (.cells #[.string ⟨d2.toArray⟩, .string ⟨i2.toArray⟩, .int .u8 (m2 : Int), .slice q2 n2 c2, .int .i64 a2, .int .i64 u2] 67)).drew (.slice (some ⟨w3.heap.size + 1, 0, none⟩) 1 1) [((⟨d2, i2, m2, mx2, a2, u2⟩, q2, n2, c2) : EM)] := rowE_blk (x := ((⟨d2, i2, m2, mx2, a2, u2⟩, q2, n2, c2) : EM)) (show ((w3.alloc (.cells #[.string ⟨d1.toArray⟩, .string ⟨i1.toArray⟩, .int .u8 (m1 : Int), .slice q1 n1 c1, .int .i64 a1, .int .i64 u1] 51)).alloc (.cells #[.string ⟨d2.toArray⟩, .string ⟨i2.toArray⟩, .int .u8 (m2 : Int), .slice q2 n2 c2, .int .i64 a2, .int .i64 u2] 67)).heap[w3.heap.size + 1]? = _ from ha_eq (by simp))
  have hzc : RowE ((w3.alloc (.cells #[.string ⟨d2.toArray⟩, .string ⟨i2.toArray⟩, .int .u8 (m2 : Int), .slice q2 n2 c2, .int .i64 a2, .int .i64 u2] 67)).alloc (.cells #[.string ⟨d1.toArray⟩, .string ⟨i1.toArray⟩, .int .u8 (m1 : Int), .slice q1 n1 c1, .int .i64 a1, .int .i64 u1] 51)).drew (.slice (some ⟨w3.heap.size, 0, none⟩) 1 1) [((⟨d2, i2, m2, mx2, a2, u2⟩, q2, n2, c2) : EM)] := rowE_blk (x := ((⟨d2, i2, m2, mx2, a2, u2⟩, q2, n2, c2) : EM)) (show ((w3.alloc (.cells #[.string ⟨d2.toArray⟩, .string ⟨i2.toArray⟩, .int .u8 (m2 : Int), .slice q2 n2 c2, .int .i64 a2, .int .i64 u2] 67)).alloc (.cells #[.string ⟨d1.toArray⟩, .string ⟨i1.toArray⟩, .int .u8 (m1 : Int), .slice q1 n1 c1, .int .i64 a1, .int .i64 u1] 51)).heap[w3.heap.size]? = _ from (ha_ne (by simp)).trans (ha_eq rfl))
  have hw3 : Below w.heap.size w w3 := H2.out.2.2.1.trans (h23.mono H2.out.2.2.1.size)
  have H3 := Lib.hid (And.intro hw3 (And.intro hx3 h23))
  clear hw3 h23 hy3 hx3 hS0 x0 x1 x2 x3 x4 x5 y0 y1 y2 y3 y4 y5
  go_cut [40] from 29 to 40 (fun s40 w' => s40 = .bool false ∧ Below w3.heap.size w3 w')
  case first =>
    go_region_held3 (fun W' => W'.cell? ⟨w1.heap.size, 0, none⟩ = some (.string ⟨d1.toArray⟩) ∧ W'.cell? ⟨w1.heap.size, 1, none⟩ = some (.string ⟨i1.toArray⟩) ∧ W'.cell? ⟨w1.heap.size, 2, none⟩ = some (.int .u8 (m1 : Int)) ∧ W'.cell? ⟨w1.heap.size, 3, none⟩ = some (.slice q1 n1 c1) ∧ W'.cell? ⟨w1.heap.size, 4, none⟩ = some (.int .i64 a1) ∧ W'.cell? ⟨w1.heap.size, 5, none⟩ = some (.int .i64 u1) ∧ W'.cell? ⟨w2.heap.size, 0, none⟩ = some (.string ⟨d2.toArray⟩) ∧ W'.cell? ⟨w2.heap.size, 1, none⟩ = some (.string ⟨i2.toArray⟩) ∧ W'.cell? ⟨w2.heap.size, 2, none⟩ = some (.int .u8 (m2 : Int)) ∧ W'.cell? ⟨w2.heap.size, 3, none⟩ = some (.slice q2 n2 c2) ∧ W'.cell? ⟨w2.heap.size, 4, none⟩ = some (.int .i64 a2) ∧ W'.cell? ⟨w2.heap.size, 5, none⟩ = some (.int .i64 u2))
      ((first | with_reducible exact hS1 | with_reducible exact hS5 | with_reducible exact hSb _ (hbA _) | with_reducible exact hSb _ (hbB _ _) | with_reducible exact hSb _ hb6 | with_reducible exact hSb _ (hb5'.alloc hb5'.size _) | fail "S"))
      ((first
        | (go_at_call 32; refine (hSm _ _ _ (by first | with_reducible exact hr5 | exact hr5.below ((Below.refl _ w5).alloc (Nat.le_refl _) _)) (by first | exact rowE_oneB w5 ((⟨d2, i2, m2, mx2, a2, u2⟩, q2, n2, c2) : EM) _ | exact hzb.below hb5 | exact hzc.below hb5) (by first | with_reducible exact hb5' | with_reducible exact hb5'.alloc hb5'.size _)).mono ?_; rintro e w6 ⟨rfl, hb6⟩)
        | (go_at_call 33; refine (hT _ _ (by first | with_reducible exact hbA _ | with_reducible exact hbB _ _) (by first | with_reducible exact hxa | with_reducible exact hxb | with_reducible exact hxc)).mono ?_; rintro e w5 ⟨v5, rfl, hr5, hb5, hb5'⟩; have hS5 := hSb w5 hb5')))
    all_goals
      go_wp2
      go_meet
      case rel => exact ⟨by simp, hb6⟩
  case rest =>
    obtain ⟨rfl, hb34⟩ := hcut
    generalize hww : wc = w4 at *
    clear hww hSb hS1 hbA hbB hT hSm hxa hxb hxc hzb hzc
    have hw4 : Below w.heap.size w w4 := H3.out.1.trans (hb34.mono H3.out.1.size)
    have hAl := allL_any b bm most B L w4 (HH.out.1.below hw4) (HH.out.2.2.2.small h8) HH.out.2.2.2.few
    have H4 := Lib.hid (And.intro hb34 hw4)
    clear hb34 hw4
    go_wp2_with fail
    refine hAl.mono ?_
    rintro e w5 ⟨⟨v, za, rfl, hza, hra, hga, hta⟩, hb5⟩
    clear hAl
    obtain ⟨p, c, rfl⟩ := hra.sh
    have hzl : za.length ≤ 1000 := by have := HH.out.2.2.2.small h8; rw [← hza] at this; simpa using this
    have hw5 : Below w.heap.size w w5 := H4.out.2.trans (hb5.mono H4.out.2.size)
    have hdoc := HH.out.2.1.below hw5
    obtain ⟨vL, hdb, hdr, hdt, _⟩ := hdoc
    have y1 : w5.cell? ⟨bd, 1, none⟩ = some vL := by simp [World.cell?, hdb]
    have hS : ∀ W' : World, Below w5.heap.size w5 W' → W'.cell? ⟨bd, 1, none⟩ = some vL := fun W' h => below_keep h _ _ y1
    have hS1 := hS w5.drew (below_drew w5)
    have hT : ∀ (W' : World), Below w5.heap.size w5 W' → Calls Tryz.prog 33 #[.slice p za.length c] W' (fun e w'' => ∃ v', e = .returned v' ∧ RowE w'' v' za ∧ Below w5.heap.size w5 w'') := fun W' hb =>
      (told_any (.slice p za.length c) za W' (hra.below hb) (by omega)).mono fun e w'' ⟨v', he, hr', hb'⟩ => ⟨v', he, hr', hb.trans (hb'.mono hb.size)⟩
    have hSm : ∀ (W' : World) (v6 : Value), RowE W' v6 za → Below w5.heap.size w5 W' → Calls Tryz.prog 32 #[v6, vL] W' (fun e w'' => e = .returned (.bool true) ∧ Below w5.heap.size w5 w'') := fun W' v6 h6 hb => by
      refine (refSame_any v6 vL za zs _ _ W' h6 (hdr.below hb) (hta.below hb) (hdt.below hb) (fun x hx => HH.out.2.2.2.few _ (by rw [← hza]; exact List.mem_map.2 ⟨x, hx, rfl⟩)) (by omega)).mono ?_
      rintro e w'' ⟨rfl, hb'⟩
      refine ⟨?_, hb.trans (hb'.mono hb.size)⟩
      have h2 : za.map (fun e : EM => e.1) = zs.map (fun e : EM => e.1) := by rw [HH.out.2.2.1]; exact hza
      simp [h2]
    have H5 := Lib.hid (And.intro hra (And.intro hga (And.intro hta (And.intro hb5 (And.intro hw5 hza)))))
    clear hra hga hta hb5 hw5 hza hdb hdr hdt y1
    go_upto_region 6 with (fail)
    go_cut [14] from 43 to 49 (fun s14 w' => s14 = .bool true ∧ Below w5.heap.size w5 w')
    case first =>
      go_region_held3 (fun W' => W'.cell? ⟨bd, 1, none⟩ = some vL)
        ((first | with_reducible exact hS1 | with_reducible exact hS _ hb6 | with_reducible exact hS _ hb7 | fail "S"))
        ((first
          | (go_at_call 32; refine (hSm _ _ hr6 hb6).mono ?_; rintro e w7 ⟨rfl, hb7⟩)
          | (go_at_call 33; refine (hT _ (below_drew w5)).mono ?_; rintro e w6 ⟨v6, rfl, hr6, hb6⟩)))
      all_goals
        go_wp2
        go_meet
        case rel => exact ⟨rfl, hb7⟩
    case rest =>
      obtain ⟨rfl, hb56⟩ := hcut
      generalize hww : wc = w6 at *
      clear hww hS hS1 hT hSm
      have hw46 : Below w4.heap.size w4 w6 := H5.out.2.2.2.1.trans (hb56.mono H5.out.2.2.2.1.size)
      have hSp := spoilE_any w6 w4.heap.size p za.length c (za.map (fun e : EM => e.2)) (SpE.rows H5.out.1 H5.out.2.1 H5.out.2.2.1 (fun x hx => HH.out.2.2.2.few _ (by rw [← H5.out.2.2.2.2.2]; exact List.mem_map.2 ⟨x, hx, rfl⟩)) hb56) (by omega)
      have H6 := Lib.hid hw46
      clear hw46 hb56
      go_wp2_with fail
      refine hSp.mono ?_
      rintro e w7 ⟨rfl, hb67⟩
      have hw47 : Below w4.heap.size w4 w7 := H6.out.trans hb67
      have hw17 : Below w1.heap.size w1 w7 := by
        have h1 := H2.out.2.1
        have h2 := h1.trans (H3.out.2.2.mono h1.size)
        have h3 := h2.trans (H4.out.1.mono h2.size)
        exact h3.trans (hw47.mono h3.size)
      have hx7 : w7.heap[w1.heap.size]? = some (.cells #[.string ⟨d1.toArray⟩, .string ⟨i1.toArray⟩, .int .u8 (m1 : Int), .slice q1 n1 c1, .int .i64 a1, .int .i64 u1] 51 (0, 0)) := by
        have h2 := (H4.out.1.block _ (Array.getElem?_eq_some_iff.1 H3.out.2.1).1).trans H3.out.2.1
        exact (hw47.block _ (Array.getElem?_eq_some_iff.1 h2).1).trans h2
      have hm7 : MxAt w7 (fun k => w.heap.size ≤ k ∧ NF w7 k) (q1, n1, c1) mx1 := by
        have h1 := H3.out.2.2.trans (H4.out.1.mono H3.out.2.2.size)
        exact MxL.below (MxL.below H2.out.2.2.2.mx h1) hw47
      obtain ⟨x0, x1, x2, x3, x4, x5⟩ := box6 hx7
      have hw7 : Below w.heap.size w w7 := H4.out.2.trans (hw47.mono H4.out.2.size)
      have hSo := SpE.one (T := 51) w7 (⟨d1, i1, m1, mx1, a1, u1⟩, q1, n1, c1) hm7 hw7.size H2.out.2.2.2.few
      have hSp2 := spoilE_any _ w.heap.size (some ⟨w7.heap.size, 0, none⟩) 1 1 [(q1, n1, c1)] (fun i _ => ⟨w7.heap.size, rfl, hSo⟩) (by omega)
      simp only [ecells, str, shV] at hSp2
      have H7 := Lib.hid hw7
      clear hSp hx7 hm7 hw7 hSo hw17 hw47 hb67
      go_wp2_with fail
      refine hSp2.mono ?_
      rintro e w8 ⟨rfl, hb8⟩
      clear hSp2 x0 x1 x2 x3 x4 x5
      have hw8 : Below w.heap.size w w8 := (H7.out.alloc H7.out.size _).trans hb8
      have hdoc := HH.out.2.1.below hw8
      obtain ⟨vL, hdb, hdr, hdt, _⟩ := hdoc
      have y1 : w8.cell? ⟨bd, 1, none⟩ = some vL := by simp [World.cell?, hdb]
      have hS : ∀ W' : World, Below w8.heap.size w8 W' → W'.cell? ⟨bd, 1, none⟩ = some vL := fun W' h => below_keep h _ _ y1
      have hS1 := hS w8.drew (below_drew w8)
      have hAl : ∀ (W' : World), Below w8.heap.size w8 W' → Calls Tryz.prog 15 #[.pointer (some ⟨b, 0, none⟩)] W' (fun e w'' => ∃ v zb, e = .returned v ∧ zb.map (fun e : EM => e.1) = L ∧ RowE w'' v zb ∧ TextsE w'' Any zb ∧ Below w8.heap.size w8 w'') := fun W' hb =>
        (allL_any b bm most B L W' ((HH.out.1.below hw8).below hb) (HH.out.2.2.2.small h8) HH.out.2.2.2.few).mono fun e w'' ⟨⟨v, zb, he, hz, hr, _, ht⟩, hb'⟩ => ⟨v, zb, he, hz, hr, fun x hx => (ht x hx).mono (fun _ _ => trivial), hb.trans (hb'.mono hb.size)⟩
      have hT : ∀ (W' : World) (v : Value) (zb : List EM), zb.map (fun e : EM => e.1) = L → RowE W' v zb → TextsE W' Any zb → Below w8.heap.size w8 W' → Calls Tryz.prog 33 #[v] W' (fun e w'' => ∃ v', e = .returned v' ∧ RowE w'' v' zb ∧ TextsE w'' Any zb ∧ Below w8.heap.size w8 w'') := fun W' v zb hz hr ht hb =>
        (told_any v zb W' hr (by have := HH.out.2.2.2.small h8; rw [← hz] at this; simp at this; omega)).mono fun e w'' ⟨v', he, hr', hb'⟩ => ⟨v', he, hr', ht.below hb', hb.trans (hb'.mono hb.size)⟩
      have hSm : ∀ (W' : World) (v6 : Value) (zb : List EM), zb.map (fun e : EM => e.1) = L → RowE W' v6 zb → TextsE W' Any zb → Below w8.heap.size w8 W' → Calls Tryz.prog 32 #[v6, vL] W' (fun e w'' => e = .returned (.bool true) ∧ Below w8.heap.size w8 w'') := fun W' v6 zb hz h6 ht hb => by
        refine (refSame_any v6 vL zb zs _ _ W' h6 (hdr.below hb) ht (hdt.below hb) (fun x hx => HH.out.2.2.2.few _ (by rw [← hz]; exact List.mem_map.2 ⟨x, hx, rfl⟩)) (by have := HH.out.2.2.2.small h8; rw [← hz] at this; simp at this; omega)).mono ?_
        rintro e w'' ⟨rfl, hb'⟩
        refine ⟨?_, hb.trans (hb'.mono hb.size)⟩
        have h2 : zb.map (fun e : EM => e.1) = zs.map (fun e : EM => e.1) := by rw [HH.out.2.2.1]; exact hz
        simp [h2]
      have H8 := Lib.hid hw8
      clear hw8 hdb hdr hdt y1 hb8
      go_wp2_with fail
      go_region_held3 (fun W' => W'.cell? ⟨bd, 1, none⟩ = some vL)
        ((first | with_reducible exact hS1 | with_reducible exact hS _ hb9 | with_reducible exact hS _ hb10 | with_reducible exact hS _ hb11 | fail "S"))
        ((first
          | (go_at_call 32; refine (hSm _ _ zb hz hr10 ht10 hb10).mono ?_; rintro e w11 ⟨rfl, hb11⟩)
          | (go_at_call 33; refine (hT _ _ zb hz hr9 ht9 hb9).mono ?_; rintro e w10 ⟨v10, rfl, hr10, ht10, hb10⟩)
          | (go_at_call 15; refine (hAl _ (below_drew w8)).mono ?_; rintro e w9 ⟨v9, zb, rfl, hz, hr9, ht9, hb9⟩)))
      all_goals
        have HF := Lib.hid (H8.out.trans (hb11.mono H8.out.size))
        clear hS hS1 hAl hT hSm hz hr9 ht9 hb9 hr10 ht10 hb10 hb11
        go_wp2
        refine bodyPost_ret (v := .bool true) (by simp [results, Tryz.results16, go_sem]) rfl ⟨rfl, HF.out⟩
end Go.Proofs.YtojhledbfaninaaGreat
