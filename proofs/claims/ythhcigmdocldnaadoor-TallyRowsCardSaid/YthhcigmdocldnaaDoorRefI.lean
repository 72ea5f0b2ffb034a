/- The document's own tally: Domains. -/
import Derived.Test.YthhcigmdocldnaaDoorRefB
import Derived.Test.YthhcigmdocldnaaDoorRefG
import Derived.Test.YthhcigmdocldnaaDoorApp
namespace Go.Proofs.YthhcigmdocldnaaDoor
open Go Go.RowKit Go.Shelf Go.Sort

/-- A quiet callee behind a quiet region. -/
theorem quiet_more {P : Program} {f : FuncId} {args : Array Value} {w : World} {a n : Nat} {v : Value} (h : ∀ W, Calls P f args W fun e w' => e = .returned v ∧ ∃ m, w' = W.drewN m) : Calls P f args (w.drewN (a + n)) fun e w'' => e = .returned v ∧ ∃ m, w'' = w.drewN (a + m) :=
  (h _).mono fun _ _ ⟨he, m, hm⟩ => ⟨he, n + m, by rw [hm, World.drewN_drewN, Nat.add_assoc]⟩

/-- The text of element i of what was counted, whatever the list's length. -/
theorem RefAt.elem {W : World} {base r : Nat} {names : Int} {acc : List Res} (h : RefAt W base r names acc) : ∃ p c, W.cell? ⟨r, 1, none⟩ = some (.slice p acc.length c) ∧ ∀ i (hi : i < acc.length), ∃ g, p = some ⟨g, 0, none⟩ ∧ acc.length ≤ c ∧ g < W.heap.size ∧ W.cell? ⟨g, i * 3, none⟩ = some (.string ⟨acc[i].1.1.toArray⟩) := by
  obtain ⟨v, hb, ho⟩ := h
  have hsh : ∃ p c, v = .slice p acc.length c := by
    rcases ho.2 with ⟨rfl, h0⟩ | ⟨g, cap, cur, rfl, _⟩
    · exact ⟨none, 0, by rw [h0]⟩
    · exact ⟨_, _, rfl⟩
  obtain ⟨p, c, rfl⟩ := hsh
  refine ⟨p, c, by simp [World.cell?, hb], fun i hi => ?_⟩
  rcases ho.2 with ⟨_, h0⟩ | ⟨g, cap, cur, e, _, hg, hcap, _⟩
  · omega
  · injection e with e1 _ e3
    subst e1 e3
    refine ⟨g, rfl, hcap, (Array.getElem?_eq_some_iff.1 hg).1, own_cell ho (j := i * 3) (by omega) ?_⟩
    have := flat3 resCells (fun _ => rfl) acc i 0 hi (by omega)
    rw [Nat.add_zero] at this
    rw [this]
    rfl

/-- What Domains answers. -/
def DomPost (w : World) (acc : List Res) (e : Ending) (w' : World) : Prop := ∃ v ds, e = .returned v ∧ Asc cmpB ds ∧ (∀ d, d ∈ ds ↔ ∃ x ∈ acc, x.1.1 = d) ∧ w'.ownsRow w.heap.size 9 1 v ds.length (ds.map str) ∧ Below w.heap.size w w'

set_option maxRecDepth 100000 in
theorem run_head (po : Option Addr) (n co k : Nat) (hk : k ≤ co) (w : World) : (Instr.slice 31 (.slice po n co) none (some (.int .i64 (k : Int))) none).run Tryd.prog w = .ok (sliced po 0 k co 1) w := by
  have h1 : (k : Int) ≤ (co : Int) := by omega
  rw [run_slice_h w 31 po n co Tryd.underlying31 .i64 (k : Int) (by omega) h1]
  rfl
set_option maxRecDepth 100000 in
theorem run_tail (po : Option Addr) (n co k : Nat) (hk : k ≤ n) (w : World) : (Instr.slice 31 (.slice po n co) (some (.int .i64 (k : Int))) none none).run Tryd.prog w = .ok (sliced po k n co 1) w := by
  have h1 : (k : Int) ≤ (n : Int) := by omega
  rw [run_slice_l w 31 po n co Tryd.underlying31 .i64 (k : Int) (by omega) h1]
  rfl
theorem row_head {w : World} {base : Nat} {po : Option Addr} {n co k : Nat} {xs : List Value} (h : w.ownsRow base 9 1 (.slice po n co) n xs) (hk : k ≤ n) : RowIn w w.heap.size (sliced po 0 k co 1) k (xs.take k) := by
  rcases h.2 with ⟨e, h0⟩ | ⟨g, cap, cur, e, _, hg, hc, _⟩
  · injection e with e1 e2 e3
    subst e1 e3 h0
    have : k = 0 := by omega
    subst this
    exact .inl ⟨by simp [sliced], rfl, rfl⟩
  · have hcl := h.cells (g := g) (by rw [e]; rfl)
    injection e with e1 e2 e3
    subst e1 e3
    refine .inr ⟨⟨g, 0, none⟩, co, by simp [sliced, Addr.add], fun _ => (Array.getElem?_eq_some_iff.1 hg).1, fun j u hj => ?_⟩
    exact hcl j u (by rw [List.getElem?_take] at hj; split at hj; exact hj; cases hj)
theorem row_tail {w : World} {base : Nat} {po : Option Addr} {n co k : Nat} {xs : List Value} (h : w.ownsRow base 9 1 (.slice po n co) n xs) (hk : k ≤ n) : RowIn w w.heap.size (sliced po k n co 1) (n - k) (xs.drop k) := by
  have hl := h.1
  rcases h.2 with ⟨e, h0⟩ | ⟨g, cap, cur, e, _, hg, hc, _⟩
  · injection e with e1 e2 e3
    subst e1 e3 h0
    have : k = 0 := by omega
    subst this
    have : xs = [] := List.eq_nil_of_length_eq_zero (by simpa using hl)
    subst this
    exact .inl ⟨by simp [sliced], rfl, rfl⟩
  · have hcl := h.cells (g := g) (by rw [e]; rfl)
    injection e with e1 e2 e3
    subst e1 e3
    have hgl := (Array.getElem?_eq_some_iff.1 hg).1
    by_cases hck : co = k
    · have hn : n = k := by omega
      subst hn hck
      refine .inr ⟨⟨g, 0, none⟩, 0, by simp [sliced], fun _ => hgl, fun j u hj => ?_⟩
      rw [List.drop_of_length_le (by omega)] at hj
      simp at hj
    · refine .inr ⟨⟨g, k, none⟩, co - k, by simp [sliced, hck, addr0], fun _ => hgl, fun j u hj => ?_⟩
      rw [List.getElem?_drop] at hj
      have := hcl (k + j) u hj
      rw [addr0] at this
      rw [addrk]
      exact this
theorem own_cap {w : World} {base : Nat} {e : TypeId} {size : Nat} {po : Option Addr} {n co m : Nat} {xs : List Value} (h : w.ownsRow base e size (.slice po n co) m xs) : n ≤ co := by
  rcases h.2 with ⟨e, _⟩ | ⟨g, cap, cur, e, _, _, hc, _⟩
  · injection e with _ e2 e3; omega
  · injection e with _ e2 e3; omega
theorem ins_len {α : Type} {ds : List α} {d : α} {k : Nat} (hk : k ≤ ds.length) : (ds.take k ++ [d] ++ ds.drop k).length = ds.length + 1 := by
  simp
  omega
theorem ins_own {w : World} {base base' : Nat} {v : Value} {ds : List Bytes} {d : Bytes} {k : Nat} (h : w.ownsRow base 9 1 v (0 + k + 1 + (ds.length - k)) ([] ++ (ds.map str).take k ++ [str d] ++ (ds.map str).drop k)) (hb : base' ≤ base) (hk : k ≤ ds.length) :
    w.ownsRow base' 9 1 v (ds.take k ++ [d] ++ ds.drop k).length ((ds.take k ++ [d] ++ ds.drop k).map str) := by
  rw [ins_len hk]
  have e : 0 + k + 1 + (ds.length - k) = ds.length + 1 := by omega
  rw [e] at h
  have e2 : (ds.take k ++ [d] ++ ds.drop k).map str = [] ++ (ds.map str).take k ++ [str d] ++ (ds.map str).drop k := by simp [List.map_take, List.map_drop]
  rw [e2]
  exact own_base h hb
theorem below_drw {n₀ : Nat} {a w : World} (h : Below n₀ a w) : Below n₀ a w.drew := ⟨h.os, h.tape, h.output, h.size, h.block⟩

set_option maxRecDepth 100000 in
set_option maxHeartbeats 2000000 in
theorem refDomains_any (w : World) (base r : Nat) (names : Int) (acc : List Res) (h : RefAt w base r names acc) (hn : acc.length ≤ 1000) (hs : ∀ x ∈ acc, x.1.1.length ≤ 1000000) :
    Calls Tryd.prog 45 #[.pointer (some ⟨r, 0, none⟩)] w (DomPost w acc) := by
  obtain ⟨p, c, hr1, hel⟩ := h.elem
  have hrl := h.lt
  have HH := Lib.hid (And.intro hr1 (And.intro hel (And.intro hs hrl)))
  clear h hr1 hel hs hrl
  obtain ⟨i1, hi1, hr0, hr1, hr2⟩ := info_parts infoS
  go_enter Tryd.func45, Tryd.ntmps45
  go_wp2_with fail
  go_loopw [3, 4] (fun ov iv wr => ∃ (i : Nat) (ds : List Bytes), iv = .int .i64 (i : Int) ∧ i ≤ acc.length ∧ Asc cmpB ds ∧ (∀ d, d ∈ ds ↔ ∃ x ∈ acc.take i, x.1.1 = d) ∧ ds.length ≤ i ∧ wr.ownsRow w.heap.size 9 1 ov ds.length (ds.map str) ∧ Below w.heap.size w wr)
    (fun _ iv _ => acc.length - natI iv)
  case atStart => exact ⟨0, [], rfl, Nat.zero_le _, List.Pairwise.nil, by simp, Nat.le_refl _, ⟨rfl, .inl ⟨rfl, rfl⟩⟩, Below.refl _ _⟩
  case round =>
    obtain ⟨i, ds, rfl, hi, hasc, hmem, hdl, ho, hB⟩ := hrel
    have r1 : wr.cell? ⟨r, 1, none⟩ = some (.slice p acc.length c) := (hB.cell (p := ⟨r, 1, none⟩) HH.out.2.2.2).trans HH.out.1
    by_cases hlast : i < acc.length
    · have hli : (i : Int) < (acc.length : Int) := by omega
      obtain ⟨g, rfl, hcap, hgl, hc0⟩ := HH.out.2.1 i hlast
      have c0 : wr.cell? ⟨g, i * 3, none⟩ = some (.string ⟨acc[i].1.1.toArray⟩) := (hB.cell (p := ⟨g, i * 3, none⟩) hgl).trans hc0
      have hsl := HH.out.2.2.1 acc[i] (List.getElem_mem hlast)
      have htk : acc.take (i + 1) = acc.take i ++ [acc[i]] := List.take_succ_eq_append_getElem hlast
      have hsh : ∃ po co, u3 = .slice po ds.length co := by
        rcases ho.2 with ⟨e, h0⟩ | ⟨g, cap, cur, e, _⟩
        · exact ⟨none, 0, by rw [e, h0]⟩
        · exact ⟨_, _, e⟩
      obtain ⟨po, co, rfl⟩ := hsh
      have hocells : ∀ k (hk : k < ds.length), ∃ go, po = some ⟨go, 0, none⟩ ∧ ds.length ≤ co ∧ wr.cell? ⟨go, k, none⟩ = some (.string ⟨ds[k].toArray⟩) := by
        intro k hk
        rcases ho.2 with ⟨_, h0⟩ | ⟨g, cap, cur, e, _, _, hcap, _⟩
        · omega
        · injection e with e1 _ e3
          subst e1 e3
          refine ⟨g, rfl, hcap, own_cell ho (j := k) (by omega) ?_⟩
          rw [List.getElem?_map, List.getElem?_eq_getElem hk]
          rfl
      have hdsz : ∀ k (hk : k < ds.length), ds[k].length ≤ 1000000 := by
        intro k hk
        obtain ⟨x, hx, e⟩ := (hmem ds[k]).1 (List.getElem_mem hk)
        rw [← e]
        exact HH.out.2.2.1 x (List.mem_of_mem_take hx)
      generalize acc[i] = q at *
      obtain ⟨⟨qd, qt⟩, qx⟩ := q
      dsimp only at c0 hsl
      have HR := Lib.hid (And.intro hasc (And.intro hmem (And.intro hdl (And.intro ho (And.intro hB (And.intro htk (And.intro hocells hdsz)))))))
      have hd1000 : (ds.length : Int) ≤ 1000 := by omega
      clear hasc hmem ho hB htk hocells hdsz hc0 hi hdl
      go_wp2_with fail
      go_loopw [5] (fun kv wq => ∃ k m : Nat, kv = .int .i64 (k : Int) ∧ k ≤ ds.length ∧ (∀ j (hj : j < ds.length), j < k → cmpB ds[j] qd < 0) ∧ wq = wr.drewN m)
        (fun kv _ => ds.length - natI kv)
      case atStart => exact ⟨0, 0, rfl, Nat.zero_le _, fun _ _ h => absurd h (Nat.not_lt_zero _), rfl⟩
      case round =>
        obtain ⟨k, m, rfl, hk, hbe, rfl⟩ := hrel
        by_cases hk1 : k < ds.length
        · have hki : (k : Int) < (ds.length : Int) := by omega
          obtain ⟨go, rfl, hoc, o0⟩ := HR.out.2.2.2.2.2.2.1 k hk1
          have hsz1 : (⟨ds[k].toArray⟩ : ByteArray).size ≤ maxLen := by have := HR.out.2.2.2.2.2.2.2 k hk1; show ds[k].length ≤ maxLen; unfold maxLen; omega
          have hsz2 : (⟨qd.toArray⟩ : ByteArray).size ≤ maxLen := by show qd.length ≤ maxLen; unfold maxLen; omega
          have hcv : cmpB (⟨ds[k].toArray⟩ : ByteArray).data.toList (⟨qd.toArray⟩ : ByteArray).data.toList = cmpB ds[k] qd := rfl
          have hcmp := fun W => refCompare_any ⟨ds[k].toArray⟩ ⟨qd.toArray⟩ W hsz1 hsz2
          unfold CmpPost at hcmp
          rw [hcv] at hcmp
          by_cases h3 : cmpB ds[k] qd < 0
          · have HB := Lib.hid (And.intro hbe h3)
            have h3d : decide (cmpB ds[k] qd < 0) = true := decide_eq_true h3
            clear hbe hsz1 hsz2 hcv
            generalize cmpB ds[k] qd = z at hcmp h3 h3d
            go_wp2_with fail
            go_quiet ((go_at_call 55; exact quiet_more hcmp))
            go_wp2
            go_roundw
            case rel =>
              refine ⟨k + 1, _, by simp, by omega, ?_, by first | rfl | exact World.drewN_drewN _ _ _⟩
              intro j hj hjk
              by_cases e : j = k
              · subst e; exact HB.out.2
              · exact HB.out.1 j hj (by omega)
            case measure => simp [natI]; omega
          · have h3d : decide (cmpB ds[k] qd < 0) = false := decide_eq_false h3
            by_cases h4 : ds[k] = qd
            · have HB := Lib.hid (And.intro hbe h4)
              rw [h4] at o0
              have f : ((⟨qd.toArray⟩ : ByteArray).toList == (⟨qd.toArray⟩ : ByteArray).toList) = true := beq_self_eq_true _
              rw [h4] at hcmp h3d
              clear hbe hsz1 hsz2 hcv h3 h4
              generalize (⟨qd.toArray⟩ : ByteArray) = sq at hcmp o0 c0 f
              generalize cmpB qd qd = z at hcmp h3d
              go_wp2_with fail
              go_quiet ((go_at_call 55; exact quiet_more hcmp))
              go_wp2_with fail
              go_quiet (fail)
              go_wp2
              go_roundw
              case rel =>
                refine ⟨i + 1, ds, by simp, by omega, HR.out.1, ?_, by have := HR.out.2.2.1; omega, ?_, ?_⟩
                · intro d
                  rw [HR.out.2.1, HR.out.2.2.2.2.2.1]
                  constructor
                  · rintro ⟨x, hx, e⟩
                    exact ⟨x, List.mem_append_left _ hx, e⟩
                  · rintro ⟨x, hx, e⟩
                    rcases List.mem_append.1 hx with hx | hx
                    · exact ⟨x, hx, e⟩
                    · rw [List.mem_singleton.1 hx] at e
                      have hm : qd ∈ ds := by rw [← HB.out.2]; exact List.getElem_mem hk1
                      obtain ⟨y, hy, e2⟩ := (HR.out.2.1 qd).1 hm
                      exact ⟨y, hy, e2.trans e⟩
                · exact own_below HR.out.2.2.2.1 (below_drewN (Below.refl wr.heap.size wr) _)
                · exact HR.out.2.2.2.2.1.trans (Below.less (below_drewN (Below.refl _ wr) _) HR.out.2.2.2.2.1.size)
              case measure => simp [natI]; omega
            · have HB := Lib.hid (And.intro hbe (And.intro h3 h4))
              have f : ((⟨ds[k].toArray⟩ : ByteArray).toList == (⟨qd.toArray⟩ : ByteArray).toList) = false := by
                have h5 : (⟨ds[k].toArray⟩ : ByteArray).toList = ds[k] := by simp [ByteArray.toList_eq]
                have h6 : (⟨qd.toArray⟩ : ByteArray).toList = qd := by simp [ByteArray.toList_eq]
                rw [h5, h6]
                simpa using h4
              have f2 : ((⟨ds[k].toArray⟩ : ByteArray).toList == qd) = false := by
                have h5 : (⟨ds[k].toArray⟩ : ByteArray).toList = ds[k] := by simp [ByteArray.toList_eq]
                rw [h5]
                simpa using h4
              clear hbe hsz1 hsz2 hcv h3 h4
              generalize (⟨ds[k].toArray⟩ : ByteArray) = sk at hcmp o0 f f2
              generalize cmpB ds[k] qd = z at hcmp h3d
              go_wp2_with fail
              go_quiet ((go_at_call 55; exact quiet_more hcmp))
              go_wp2_with fail
              go_quiet (fail)
              have hOk := HR.out.2.2.2.1
              have hkn : k ≤ ds.length := by omega
              obtain ⟨xv, hxv⟩ : ∃ xv, xv = sliced (some ⟨go, 0, none⟩) 0 k co 1 := ⟨_, rfl⟩
              obtain ⟨xt, hxt⟩ : ∃ xt, xt = sliced (some ⟨go, 0, none⟩) k ds.length co 1 := ⟨_, rfl⟩
              have hsl1 : ∀ w, (Instr.slice 31 (.slice (some ⟨go, 0, none⟩) ds.length co) none (some (.int .i64 (k : Nat))) none).run Tryd.prog w = .ok xv w := fun w => by rw [hxv]; exact run_head (some ⟨go, 0, none⟩) ds.length co k (by have := own_cap hOk; omega) w
              have hsl2 : ∀ w, (Instr.slice 31 (.slice (some ⟨go, 0, none⟩) ds.length co) (some (.int .i64 (k : Nat))) none none).run Tryd.prog w = .ok xt w := fun w => by rw [hxt]; exact run_tail (some ⟨go, 0, none⟩) ds.length co k hkn w
              have hR1 : RowIn wr wr.heap.size xv k ((ds.map str).take k) := by rw [hxv]; exact row_head hOk hkn
              have hR2 : RowIn wr wr.heap.size xt (ds.length - k) ((ds.map str).drop k) := by rw [hxt]; exact row_tail hOk hkn
              have hone : ∀ u ∈ ds.map str, u.oneCell' = true := by
                intro u hu
                obtain ⟨d, _, rfl⟩ := List.mem_map.1 hu
                rfl
              have HX := Lib.hid (And.intro hOk (And.intro hR1 (And.intro hR2 (And.intro hkn (And.intro hone hd1000)))))
              have HI := Lib.hid (And.intro hli (And.intro r1 (And.intro c0 (And.intro hgl HH.out.2.2.2))))
              clear hOk hR1 hR2 hkn hone hxv hxt hd1000
              go_wp2_with (at_builtin; refine Bx.h ?_)
              refine ⟨?_⟩
              refine wpList_append_any rfl _ _ 31 rfl wr.heap.size 9 i1 (.string ⟨#[]⟩) 1 16 Tryd.underlying31 hi1 hr0 hr1 hr2 rfl (by decide) (.slice (some ⟨wr.heap.size, 0, none⟩) 0 0) 0 [] rfl (own_empty (heap_new rfl) (Nat.le_refl _)) wr.heap.size xt (ds.length - k) ((ds.map str).drop k) rfl (HX.out.2.2.1.below ((below_drewN (Below.refl _ _) _).alloc (Nat.le_refl _) _)) (by rw [List.length_drop, List.length_map]; omega) (fun u hu => HX.out.2.2.2.2.1 u (List.mem_of_mem_drop hu)) (by have := HX.out.2.2.2.2.2; unfold maxLen; omega) (by have := HX.out.2.2.2.2.2; omega) (by simp) ?_
              intro v9 w9 ho9 hg9 hk9 _
              rw [Nat.zero_add, List.nil_append] at ho9
              have hB9 : Below wr.heap.size wr w9 := ((below_drewN (Below.refl _ _) _).alloc (Nat.le_refl _) _).grown hg9 (by simp) hk9
              have hR9 := own_rowIn ho9
              have hsz9 : wr.heap.size ≤ w9.heap.size := hB9.size
              have hwr := HR.out.2.2.2.2.1.size
              have hRv : RowIn w9 w9.heap.size xv k ((ds.map str).take k) := (HX.out.2.1.below hB9).mono hsz9
              have hr9 : r < wr.heap.size := Nat.lt_of_lt_of_le HI.out.2.2.2.2 hwr
              have hg9' : g < wr.heap.size := Nat.lt_of_lt_of_le HI.out.2.2.2.1 hwr
              have k0 : w9.cell? ⟨r, 1, none⟩ = some (.slice (some ⟨g, 0, none⟩) acc.length c) := (hB9.cell (p := ⟨r, 1, none⟩) hr9).trans HI.out.2.1
              have k1 : w9.cell? ⟨g, i * 3, none⟩ = some (.string ⟨qd.toArray⟩) := (hB9.cell (p := ⟨g, i * 3, none⟩) hg9').trans HI.out.2.2.1
              have keepS : ∀ W', Below w9.heap.size w9 W' → Below w9.heap.size w9 W' ∧ W'.cell? ⟨r, 1, none⟩ = some (.slice (some ⟨g, 0, none⟩) acc.length c) ∧ W'.cell? ⟨g, i * 3, none⟩ = some (.string ⟨qd.toArray⟩) :=
                fun W' hb => ⟨hb, (hb.cell (p := ⟨r, 1, none⟩) (Nat.lt_of_lt_of_le hr9 hsz9)).trans k0, (hb.cell (p := ⟨g, i * 3, none⟩) (Nat.lt_of_lt_of_le hg9' hsz9)).trans k1⟩
              have H9 := Lib.hid (And.intro hB9 (And.intro hRv hR9))
              clear ho9 hg9 hk9 hB9 hR9 hRv hsz9 hwr hr9 hg9' k0 k1 r1 c0
              go_wp2_with fail
              go_region_held3 (fun W' => Below w9.heap.size w9 W' ∧ W'.cell? ⟨r, 1, none⟩ = some (.slice (some ⟨g, 0, none⟩) acc.length c) ∧ W'.cell? ⟨g, i * 3, none⟩ = some (.string ⟨qd.toArray⟩))
                ((refine keepS _ ?_; first
                  | exact below_drw (Below.refl _ _)
                  | exact below_drw (Below.alloc (And.left ‹Below w9.heap.size w9 _ ∧ _›) (And.left ‹Below w9.heap.size w9 _ ∧ _›).size _)
                  | exact Below.grown (And.left ‹Below w9.heap.size w9 _ ∧ _›) hg3 (And.left ‹Below w9.heap.size w9 _ ∧ _›).size hk3
                  | exact Below.grown (And.left ‹Below w9.heap.size w9 _ ∧ _›) hg2 (And.left ‹Below w9.heap.size w9 _ ∧ _›).size hk2
                  | exact Below.grown (And.left ‹Below w9.heap.size w9 _ ∧ _›) hg1 (And.left ‹Below w9.heap.size w9 _ ∧ _›).size hk1
                  | exact Below.alloc (And.left ‹Below w9.heap.size w9 _ ∧ _›) (And.left ‹Below w9.heap.size w9 _ ∧ _›).size _))
                ((first
                  | (refine step_append_any (P := Tryd.prog) rfl _ _ _ rfl w9.heap.size 9 i1 (.string ⟨#[]⟩) 1 16 Tryd.underlying31 hi1 hr0 hr1 hr2 rfl (by decide) (.slice (some ⟨_, 0, none⟩) 0 0) 0 [] rfl (own_empty (by first | exact heap_new (by simp) | exact (heap_old (by simp)).trans (heap_new (by simp))) (by simp)) w9.heap.size _ k ((ds.map str).take k) rfl (H9.out.2.1.below (And.left ‹Below w9.heap.size w9 _ ∧ _›)) (by have := HX.out.2.2.2.1; rw [List.length_take, List.length_map]; omega) (fun u hu => HX.out.2.2.2.2.1 u (List.mem_of_mem_take hu)) (by have := HX.out.2.2.2; unfold maxLen; omega) (by have := HX.out.2.2.2; omega) (And.left ‹Below w9.heap.size w9 _ ∧ _›).size ?_
                     intro v1 w1 ho1 hg1 hk1 _)
                  | (refine step_append_any (P := Tryd.prog) rfl _ _ _ rfl w9.heap.size 9 i1 (.string ⟨#[]⟩) 1 16 Tryd.underlying31 hi1 hr0 hr1 hr2 rfl (by decide) v1 (0 + k) ([] ++ (ds.map str).take k) rfl (by first | exact ho1 | exact own_below ho1 ((Below.refl _ _).alloc (Nat.le_refl _) _)) _ _ 1 [str qd] rfl (row_one (by first | exact cell_new1 rfl | (refine (hg1.cell_far _ (by simp <;> omega) (by simp [Value.ownBlock])).trans ?_; first | exact cell_new1 (by simp) | exact cell_old1 (cell_new1 rfl)))) rfl (fun u hu => by simp at hu; subst hu; rfl) (by have := HX.out.2.2.2; unfold maxLen; omega) (by have := HX.out.2.2.2; omega) (And.left ‹Below w9.heap.size w9 _ ∧ _›).size ?_
                     intro v2 w2 ho2 hg2 hk2 _)
                  | (refine step_append_any (P := Tryd.prog) rfl _ _ _ rfl w9.heap.size 9 i1 (.string ⟨#[]⟩) 1 16 Tryd.underlying31 hi1 hr0 hr1 hr2 rfl (by decide) v2 _ _ rfl ho2 w9.heap.size _ (ds.length - k) ((ds.map str).drop k) rfl (H9.out.2.2.below (And.left ‹Below w9.heap.size w9 _ ∧ _›)) (by rw [List.length_drop, List.length_map]; omega) (fun u hu => HX.out.2.2.2.2.1 u (List.mem_of_mem_drop hu)) (by have := HX.out.2.2.2; unfold maxLen; omega) (by have := HX.out.2.2.2; omega) (And.left ‹Below w9.heap.size w9 _ ∧ _›).size ?_
                     intro v3 w3 ho3 hg3 hk3 _)))
              all_goals (have hB3 := And.left ‹Below w9.heap.size w9 _ ∧ _›)
              all_goals (have hlen := ins_len (d := qd) (show k ≤ ds.length from HX.out.2.2.2.1))
              all_goals (have ho4 := ins_own (d := qd) ho3 (Nat.le_trans HR.out.2.2.2.2.1.size H9.out.1.size) (show k ≤ ds.length from HX.out.2.2.2.1))
              all_goals (have hB4 : Below w.heap.size w w3 := HR.out.2.2.2.2.1.trans ((Below.less H9.out.1 HR.out.2.2.2.2.1.size).trans (Below.less hB3 (Nat.le_trans HR.out.2.2.2.2.1.size H9.out.1.size))))
              all_goals (have HE := Lib.hid (And.intro hlen (And.intro ho4 hB4)))
              all_goals (clear ho3 ho4 hB4 hB3 hlen hg3 hk3 ho2 hg2 hk2 ho1 hg1 hk1 keepS hsl1 hsl2)
              all_goals go_wp2
              all_goals go_roundw
              all_goals first
                | (refine ⟨i + 1, ds.take k ++ [qd] ++ ds.drop k, by simp, by omega, asc_insert ordB HX.out.2.2.2.1 HR.out.1 (fun j hj hjk => HB.out.1 j hj hjk) (fun _ => ⟨by have := HB.out.2.1; omega, HB.out.2.2⟩), ?_, by rw [HE.out.1]; have := HR.out.2.2.1; omega, HE.out.2.1, HE.out.2.2⟩; intro x; rw [mem_insert, HR.out.2.1, HR.out.2.2.2.2.2.1]; simp [or_and_right, exists_or, eq_comm])
                | (simp [natI]; omega)
        · have hki : ¬ (k : Int) < (ds.length : Int) := by omega
          obtain rfl : k = ds.length := by omega
          have hkd : decide ((ds.length : Int) < (ds.length : Int)) = false := decide_eq_false (by omega)
          have HB := Lib.hid hbe
          clear hbe
          go_wp2_with fail
          go_quiet (fail)
          go_wp2_with fail
          go_quiet (fail)
          have hOk := HR.out.2.2.2.1
          have hkn : ds.length ≤ ds.length := by omega
          obtain ⟨xv, hxv⟩ : ∃ xv, xv = sliced po 0 ds.length co 1 := ⟨_, rfl⟩
          obtain ⟨xt, hxt⟩ : ∃ xt, xt = sliced po ds.length ds.length co 1 := ⟨_, rfl⟩
          have hsl1 : ∀ w, (Instr.slice 31 (.slice po ds.length co) none (some (.int .i64 (ds.length : Nat))) none).run Tryd.prog w = .ok xv w := fun w => by rw [hxv]; exact run_head po ds.length co ds.length (by have := own_cap hOk; omega) w
          have hsl2 : ∀ w, (Instr.slice 31 (.slice po ds.length co) (some (.int .i64 (ds.length : Nat))) none none).run Tryd.prog w = .ok xt w := fun w => by rw [hxt]; exact run_tail po ds.length co ds.length hkn w
          have hR1 : RowIn wr wr.heap.size xv ds.length ((ds.map str).take ds.length) := by rw [hxv]; exact row_head hOk hkn
          have hR2 : RowIn wr wr.heap.size xt (ds.length - ds.length) ((ds.map str).drop ds.length) := by rw [hxt]; exact row_tail hOk hkn
          have hone : ∀ u ∈ ds.map str, u.oneCell' = true := by
            intro u hu
            obtain ⟨d, _, rfl⟩ := List.mem_map.1 hu
            rfl
          have HX := Lib.hid (And.intro hOk (And.intro hR1 (And.intro hR2 (And.intro hkn (And.intro hone hd1000)))))
          have HI := Lib.hid (And.intro hli (And.intro r1 (And.intro c0 (And.intro hgl HH.out.2.2.2))))
          clear hOk hR1 hR2 hkn hone hxv hxt hd1000
          go_wp2_with (at_builtin; refine Bx.h ?_)
          refine ⟨?_⟩
          refine wpList_append_any rfl _ _ 31 rfl wr.heap.size 9 i1 (.string ⟨#[]⟩) 1 16 Tryd.underlying31 hi1 hr0 hr1 hr2 rfl (by decide) (.slice (some ⟨wr.heap.size, 0, none⟩) 0 0) 0 [] rfl (own_empty (heap_new rfl) (Nat.le_refl _)) wr.heap.size xt (ds.length - ds.length) ((ds.map str).drop ds.length) rfl (HX.out.2.2.1.below ((below_drewN (Below.refl _ _) _).alloc (Nat.le_refl _) _)) (by rw [List.length_drop, List.length_map]; omega) (fun u hu => HX.out.2.2.2.2.1 u (List.mem_of_mem_drop hu)) (by have := HX.out.2.2.2.2.2; unfold maxLen; omega) (by have := HX.out.2.2.2.2.2; omega) (by simp) ?_
          intro v9 w9 ho9 hg9 hk9 _
          rw [Nat.zero_add, List.nil_append] at ho9
          have hB9 : Below wr.heap.size wr w9 := ((below_drewN (Below.refl _ _) _).alloc (Nat.le_refl _) _).grown hg9 (by simp) hk9
          have hR9 := own_rowIn ho9
          have hsz9 : wr.heap.size ≤ w9.heap.size := hB9.size
          have hwr := HR.out.2.2.2.2.1.size
          have hRv : RowIn w9 w9.heap.size xv ds.length ((ds.map str).take ds.length) := (HX.out.2.1.below hB9).mono hsz9
          have hr9 : r < wr.heap.size := Nat.lt_of_lt_of_le HI.out.2.2.2.2 hwr
          have hg9' : g < wr.heap.size := Nat.lt_of_lt_of_le HI.out.2.2.2.1 hwr
          have k0 : w9.cell? ⟨r, 1, none⟩ = some (.slice (some ⟨g, 0, none⟩) acc.length c) := (hB9.cell (p := ⟨r, 1, none⟩) hr9).trans HI.out.2.1
          have k1 : w9.cell? ⟨g, i * 3, none⟩ = some (.string ⟨qd.toArray⟩) := (hB9.cell (p := ⟨g, i * 3, none⟩) hg9').trans HI.out.2.2.1
          have keepS : ∀ W', Below w9.heap.size w9 W' → Below w9.heap.size w9 W' ∧ W'.cell? ⟨r, 1, none⟩ = some (.slice (some ⟨g, 0, none⟩) acc.length c) ∧ W'.cell? ⟨g, i * 3, none⟩ = some (.string ⟨qd.toArray⟩) :=
            fun W' hb => ⟨hb, (hb.cell (p := ⟨r, 1, none⟩) (Nat.lt_of_lt_of_le hr9 hsz9)).trans k0, (hb.cell (p := ⟨g, i * 3, none⟩) (Nat.lt_of_lt_of_le hg9' hsz9)).trans k1⟩
          have H9 := Lib.hid (And.intro hB9 (And.intro hRv hR9))
          clear ho9 hg9 hk9 hB9 hR9 hRv hsz9 hwr hr9 hg9' k0 k1 r1 c0
          go_wp2_with fail
          go_region_held3 (fun W' => Below w9.heap.size w9 W' ∧ W'.cell? ⟨r, 1, none⟩ = some (.slice (some ⟨g, 0, none⟩) acc.length c) ∧ W'.cell? ⟨g, i * 3, none⟩ = some (.string ⟨qd.toArray⟩))
            ((refine keepS _ ?_; first
              | exact below_drw (Below.refl _ _)
              | exact below_drw (Below.alloc (And.left ‹Below w9.heap.size w9 _ ∧ _›) (And.left ‹Below w9.heap.size w9 _ ∧ _›).size _)
              | exact Below.grown (And.left ‹Below w9.heap.size w9 _ ∧ _›) hg3 (And.left ‹Below w9.heap.size w9 _ ∧ _›).size hk3
              | exact Below.grown (And.left ‹Below w9.heap.size w9 _ ∧ _›) hg2 (And.left ‹Below w9.heap.size w9 _ ∧ _›).size hk2
              | exact Below.grown (And.left ‹Below w9.heap.size w9 _ ∧ _›) hg1 (And.left ‹Below w9.heap.size w9 _ ∧ _›).size hk1
              | exact Below.alloc (And.left ‹Below w9.heap.size w9 _ ∧ _›) (And.left ‹Below w9.heap.size w9 _ ∧ _›).size _))
            ((first
              | (refine step_append_any (P := Tryd.prog) rfl _ _ _ rfl w9.heap.size 9 i1 (.string ⟨#[]⟩) 1 16 Tryd.underlying31 hi1 hr0 hr1 hr2 rfl (by decide) (.slice (some ⟨_, 0, none⟩) 0 0) 0 [] rfl (own_empty (by first | exact heap_new (by simp) | exact (heap_old (by simp)).trans (heap_new (by simp))) (by simp)) w9.heap.size _ ds.length ((ds.map str).take ds.length) rfl (H9.out.2.1.below (And.left ‹Below w9.heap.size w9 _ ∧ _›)) (by have := HX.out.2.2.2.1; rw [List.length_take, List.length_map]; omega) (fun u hu => HX.out.2.2.2.2.1 u (List.mem_of_mem_take hu)) (by have := HX.out.2.2.2; unfold maxLen; omega) (by have := HX.out.2.2.2; omega) (And.left ‹Below w9.heap.size w9 _ ∧ _›).size ?_
                 intro v1 w1 ho1 hg1 hk1 _)
              | (refine step_append_any (P := Tryd.prog) rfl _ _ _ rfl w9.heap.size 9 i1 (.string ⟨#[]⟩) 1 16 Tryd.underlying31 hi1 hr0 hr1 hr2 rfl (by decide) v1 (0 + ds.length) ([] ++ (ds.map str).take ds.length) rfl (by first | exact ho1 | exact own_below ho1 ((Below.refl _ _).alloc (Nat.le_refl _) _)) _ _ 1 [str qd] rfl (row_one (by first | exact cell_new1 rfl | (refine (hg1.cell_far _ (by simp <;> omega) (by simp [Value.ownBlock])).trans ?_; first | exact cell_new1 (by simp) | exact cell_old1 (cell_new1 rfl)))) rfl (fun u hu => by simp at hu; subst hu; rfl) (by have := HX.out.2.2.2; unfold maxLen; omega) (by have := HX.out.2.2.2; omega) (And.left ‹Below w9.heap.size w9 _ ∧ _›).size ?_
                 intro v2 w2 ho2 hg2 hk2 _)
              | (refine step_append_any (P := Tryd.prog) rfl _ _ _ rfl w9.heap.size 9 i1 (.string ⟨#[]⟩) 1 16 Tryd.underlying31 hi1 hr0 hr1 hr2 rfl (by decide) v2 _ _ rfl ho2 w9.heap.size _ (ds.length - ds.length) ((ds.map str).drop ds.length) rfl (H9.out.2.2.below (And.left ‹Below w9.heap.size w9 _ ∧ _›)) (by rw [List.length_drop, List.length_map]; omega) (fun u hu => HX.out.2.2.2.2.1 u (List.mem_of_mem_drop hu)) (by have := HX.out.2.2.2; unfold maxLen; omega) (by have := HX.out.2.2.2; omega) (And.left ‹Below w9.heap.size w9 _ ∧ _›).size ?_
                 intro v3 w3 ho3 hg3 hk3 _)))
          all_goals (have hB3 := And.left ‹Below w9.heap.size w9 _ ∧ _›)
          all_goals (have hlen := ins_len (d := qd) (show ds.length ≤ ds.length from HX.out.2.2.2.1))
          all_goals (have ho4 := ins_own (d := qd) ho3 (Nat.le_trans HR.out.2.2.2.2.1.size H9.out.1.size) (show ds.length ≤ ds.length from HX.out.2.2.2.1))
          all_goals (have hB4 : Below w.heap.size w w3 := HR.out.2.2.2.2.1.trans ((Below.less H9.out.1 HR.out.2.2.2.2.1.size).trans (Below.less hB3 (Nat.le_trans HR.out.2.2.2.2.1.size H9.out.1.size))))
          all_goals (have HE := Lib.hid (And.intro hlen (And.intro ho4 hB4)))
          all_goals (clear ho3 ho4 hB4 hB3 hlen hg3 hk3 ho2 hg2 hk2 ho1 hg1 hk1 keepS hsl1 hsl2)
          all_goals go_wp2
          all_goals go_roundw
          all_goals first
            | (refine ⟨i + 1, ds.take ds.length ++ [qd] ++ ds.drop ds.length, by simp, by omega, asc_insert ordB HX.out.2.2.2.1 HR.out.1 (fun j hj _ => HB.out j hj hj) (fun h => absurd h (Nat.lt_irrefl _)), ?_, by rw [HE.out.1]; have := HR.out.2.2.1; omega, HE.out.2.1, HE.out.2.2⟩; intro x; rw [mem_insert, HR.out.2.1, HR.out.2.2.2.2.2.1]; simp [or_and_right, exists_or, eq_comm])
            | (simp [natI]; omega)
    · have hli : ¬ (i : Int) < (acc.length : Int) := by omega
      obtain rfl : i = acc.length := by omega
      rw [List.take_length] at hmem
      have HF := Lib.hid (And.intro hasc (And.intro hmem (And.intro ho hB)))
      have hshx : ∃ po co, u3 = .slice po ds.length co := by
        rcases ho.2 with ⟨e, h0⟩ | ⟨g, cap, cur, e, _⟩
        · exact ⟨none, 0, by rw [e, h0]⟩
        · exact ⟨_, _, e⟩
      obtain ⟨po, co, rfl⟩ := hshx
      clear hasc hmem ho hB
      go_wp2
      refine bodyPost_ret (v := .slice po ds.length co) (by simp [results, Tryd.results45, go_sem]) rfl ?_
      exact ⟨_, ds, rfl, HF.out.1, HF.out.2.1, HF.out.2.2.1, HF.out.2.2.2⟩
end Go.Proofs.YthhcigmdocldnaaDoor
