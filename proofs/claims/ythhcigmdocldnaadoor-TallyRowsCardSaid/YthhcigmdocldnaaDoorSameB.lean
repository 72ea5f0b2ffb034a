/- The document's Same at whatever rows, wherever they lie. -/
import Derived.Test.YthhcigmdocldnaaDoorOfE
namespace Go.Proofs.YthhcigmdocldnaaDoor
open Go Go.RowKit Go.Shelf Go.Sort

/-- A row's parts in a world. -/
structure Parts (w : World) (a : Addr) (i : Nat) (d : Bytes) (t : Nat) (g : Int) (fl : List Int) (b o : Nat) (s : Option Nat) (fp : Option Addr) (fc : Nat) : Prop where
  ad : a.add (i * 4) = ⟨b, o, s⟩
  c0 : w.cell? ⟨b, o, s⟩ = some (.string ⟨d.toArray⟩)
  c1 : w.cell? ⟨b, o + 1, none⟩ = some (.int .u8 (t : Int))
  c2 : w.cell? ⟨b, o + 2, none⟩ = some (.int .i64 g)
  c3 : w.cell? ⟨b, o + 3, none⟩ = some (.slice fp fl.length fc)
  fs : ∀ k (hk : k < fl.length), ∃ e, fp = some e ∧ ∃ b o s, e.add k = ⟨b, o, s⟩ ∧ w.cell? ⟨b, o, s⟩ = some (.int .i64 fl[k])
theorem RowAt.parts {n₀ : Nat} {w : World} {a : Addr} {i : Nat} {x : (Bytes × Nat) × List Int} (h : RowAt n₀ w a i x) : ∃ d t g fl b o s fp fc, x = ((d, t), g :: fl) ∧ Parts w a i d t g fl b o s fp fc := by
  obtain ⟨b, o, s, fv, e, _, h0, h1, h2, h3, h4, h5⟩ := h
  obtain ⟨⟨d, t⟩, c⟩ := x
  cases c with
  | nil => exact absurd rfl h5
  | cons g fl =>
    have h4' : RowIn w n₀ fv fl.length (fl.map (Value.int .i64)) := h4
    rcases h4' with ⟨rfl, hl, _⟩ | ⟨ad, c, rfl, _, hc⟩
    · have hl' : fl = [] := List.eq_nil_of_length_eq_zero hl
      subst hl'
      exact ⟨d, t, g, [], b, o, s, none, 0, rfl, ⟨e, h0, h1, h2, h3, fun k hk => absurd hk (Nat.not_lt_zero _)⟩⟩
    · refine ⟨d, t, g, fl, b, o, s, some ad, c, rfl, ⟨e, h0, h1, h2, h3, fun k hk => ⟨ad, rfl, _, _, _, rfl, ?_⟩⟩⟩
      exact hc k _ (by rw [List.getElem?_map, List.getElem?_eq_getElem hk]; rfl)
def SameGPost (w : World) (xs ys : Ent) (e : Ending) (w' : World) : Prop := ∃ m, e = .returned (.bool (decide (xs = ys))) ∧ w' = w.drewN m
theorem ne_at {xs ys : Ent} {i : Nat} (h1 : i < xs.length) (h2 : i < ys.length) (h : xs[i] ≠ ys[i]) : xs ≠ ys := fun e => by subst e; exact h rfl

set_option maxRecDepth 100000 in
set_option maxHeartbeats 2000000 in
theorem sameG_any (w : World) (v u : Value) (xs ys : Ent) (h : RowsG w v xs) (h' : RowsG w u ys) (hxl : xs.length ≤ 1000000) (hfl : ∀ x ∈ xs, x.2.length - 1 ≤ maxLen) :
    Calls Tryd.prog 15 #[v, u] w (SameGPost w xs ys) := by
  obtain ⟨p, c, rfl, hp⟩ := h.shape
  obtain ⟨p', c', rfl, hp'⟩ := h'.shape
  have HH := Lib.hid (And.intro hp (And.intro hp' hfl))
  clear h h' hp hp' hfl
  go_enter Tryd.func15, Tryd.ntmps15
  by_cases hll : xs.length = ys.length
  · have hyl : (ys.length : Int) = (xs.length : Int) := by omega
    obtain ⟨n, hn⟩ : ∃ n, n = xs.length := ⟨_, rfl⟩
    have hn2 : ys.length = n := by omega
    rw [hn2, ← hn]
    have HN := Lib.hid (And.intro hn hn2)
    have hnl : n ≤ 1000000 := by omega
    clear hll hyl hn hn2 hxl
    go_wp2_with fail
    go_loopw [5] (fun iv wr => ∃ i m : Nat, iv = .int .i64 (i : Int) ∧ i ≤ n ∧ (∀ j (h1 : j < xs.length) (h2 : j < ys.length), j < i → xs[j] = ys[j]) ∧ wr = w.drewN m)
      (fun iv _ => n - natOf iv)
    case atStart => exact ⟨0, 0, rfl, Nat.zero_le _, fun _ _ _ h => absurd h (Nat.not_lt_zero _), rfl⟩
    case round =>
      obtain ⟨i, m, rfl, hi, hal, rfl⟩ := hrel
      by_cases hlast : i < n
      · have hli : (i : Int) < (n : Int) := by omega
        have hx : i < xs.length := by have := HN.out.1; omega
        have hy : i < ys.length := by have := HN.out.2; omega
        obtain ⟨a, rfl, hca, hA⟩ := HH.out.1 i hx
        obtain ⟨a', rfl, hca', hA'⟩ := HH.out.2.1 i hy
        obtain ⟨d, t, g, fl, b, o, s, fp, fc, ex, P⟩ := (hA w (Below.refl _ _)).parts
        obtain ⟨d', t', g', fl', b', o', s', fp', fc', ey, P'⟩ := (hA' w (Below.refl _ _)).parts
        have hflb : fl.length ≤ maxLen := by
          have := HH.out.2.2 xs[i] (List.getElem_mem hx)
          rw [ex] at this
          simp at this
          omega
        have hneq : ((d, t), g :: fl) ≠ ((d', t'), g' :: fl') → xs ≠ ys := fun h => ne_at hx hy (by rw [ex, ey]; exact h)
        have hnext : ((d, t), g :: fl) = ((d', t'), g' :: fl') → ∀ j (h1 : j < xs.length) (h2 : j < ys.length), j < i + 1 → xs[j] = ys[j] := fun h j h1 h2 hj => by
          by_cases e : j = i
          · subst e; rw [ex, ey, h]
          · exact hal j h1 h2 (by omega)
        obtain ⟨ead, z0, z1, z2, z3, zf⟩ := P
        obtain ⟨ead', v0, v1, v2, v3, vf⟩ := P'
        have HX := Lib.hid (And.intro hneq (And.intro hnext (And.intro zf (And.intro vf hflb))))
        clear hneq hnext zf vf hflb ex ey hal hA hA' hx hy
        by_cases e1 : d = d'
        · subst e1
          generalize (⟨d.toArray⟩ : ByteArray) = sa at z0 v0
          have f : (sa.toList == sa.toList) = true := beq_self_eq_true _
          by_cases e2 : t = t'
          · subst e2
            by_cases e3 : g = g'
            · subst e3
              by_cases e4 : fl.length = fl'.length
              · have HL := Lib.hid e4
                rw [← e4] at v3
                clear e4
                generalize hnl4 : fl.length = nf at z3 v3
                go_wp2_with fail
                go_quiet (fail)
                go_wp2_with fail
                go_loopw [6] (fun kv wr => ∃ k m : Nat, kv = .int .i64 (k : Int) ∧ k ≤ nf ∧ (∀ j (h1 : j < fl.length) (h2 : j < fl'.length), j < k → fl[j] = fl'[j]) ∧ wr = w.drewN m)
                  (fun kv _ => nf - natOf kv)
                case atStart => exact ⟨0, _, rfl, Nat.zero_le _, fun _ _ _ h => absurd h (Nat.not_lt_zero _), by first | rfl | exact World.drewN_drewN _ _ _⟩
                case round =>
                  obtain ⟨k, m2, rfl, hk, hkk, rfl⟩ := hrel
                  by_cases hk1 : k < nf
                  · have hki : (k : Int) < (nf : Int) := by omega
                    have hk2 : k < fl.length := by omega
                    have hk3 : k < fl'.length := by have := HL.out; omega
                    obtain ⟨e, rfl, q1, q2, q3, eq1, w1⟩ := HX.out.2.2.1 k hk2
                    obtain ⟨e', rfl, r1, r2, r3, er1, w2⟩ := HX.out.2.2.2.1 k hk3
                    have hwk : IntKind.i64.wrap ((k : Int) + 1) = (k : Int) + 1 := by
                      have := HX.out.2.2.2.2
                      unfold maxLen at this
                      rw [IntKind.wrap_i64]
                      omega
                    by_cases e5 : fl[k] = fl'[k]
                    · have hkk' : ∀ j (h1 : j < fl.length) (h2 : j < fl'.length), j < k + 1 → fl[j] = fl'[j] := by
                        intro j h1 h2 hj
                        by_cases hjk : j = k
                        · subst hjk; exact e5
                        · exact hkk j h1 h2 (by omega)
                      have HK := Lib.hid hkk'
                      rw [← e5] at w2
                      clear hkk hkk' e5
                      generalize fl[k] = za at w1 w2
                      go_wp2_with fail
                      go_quiet (fail)
                      go_wp2
                      go_roundw
                      case rel => exact ⟨k + 1, _, by simp, by omega, HK.out, by first | rfl | exact World.drewN_drewN _ _ _⟩
                      case measure => simp [natOf]; omega
                    · have e5' : decide (fl[k] = fl'[k]) = false := decide_eq_false e5
                      have hne := HX.out.1 (fun h => by
                        have h2 := congrArg (fun x => x.2.drop 1) h
                        simp only [List.drop_succ_cons, List.drop_zero] at h2
                        exact e5 (by simp only [h2]))
                      have HE := Lib.hid hne
                      clear hkk e5 hne
                      generalize fl[k] = za at w1 e5'
                      generalize fl'[k] = zb at w2 e5'
                      go_wp2_with fail
                      go_quiet (fail)
                      go_wp2
                      refine bodyPost_ret (v := .bool false) (by simp [results, Tryd.results15, go_sem]) rfl ⟨_, by rw [decide_eq_false HE.out], by first | rfl | exact World.drewN_drewN _ _ _⟩
                  · have hki : ¬ (k : Int) < (nf : Int) := by omega
                    have hke : fl = fl' := List.ext_getElem HL.out (fun j h1 h2 => hkk j h1 h2 (by omega))
                    have HK := Lib.hid (HX.out.2.1 (by rw [hke]))
                    have hkf : decide ((k : Int) < (nf : Int)) = false := decide_eq_false hki
                    clear hkk hke
                    go_wp2
                    go_roundw
                    case rel => exact ⟨i + 1, _, by simp, by omega, HK.out, by first | rfl | exact World.drewN_drewN _ _ _⟩
                    case measure => simp [natOf]; omega
              · have e4' : decide ((fl.length : Int) = (fl'.length : Int)) = false := decide_eq_false (by omega)
                have HE := Lib.hid (HX.out.1 (fun h => e4 (by
                  have h2 := congrArg (fun x => x.2.length) h
                  simp at h2
                  exact h2)))
                clear e4
                generalize fl.length = n1 at z3 e4'
                generalize fl'.length = n2 at v3 e4'
                go_wp2_with fail
                go_quiet (fail)
                go_wp2
                refine bodyPost_ret (v := .bool false) (by simp [results, Tryd.results15, go_sem]) rfl ⟨_, by rw [decide_eq_false HE.out], by first | rfl | exact World.drewN_drewN _ _ _⟩
            · have e3' : decide (g = g') = false := decide_eq_false e3
              have HE := Lib.hid (HX.out.1 (fun h => e3 (by injection h with _ h; injection h)))
              clear e3
              go_wp2_with fail
              go_quiet (fail)
              go_wp2
              refine bodyPost_ret (v := .bool false) (by simp [results, Tryd.results15, go_sem]) rfl ⟨_, by rw [decide_eq_false HE.out], by first | rfl | exact World.drewN_drewN _ _ _⟩
          · have e2' : decide ((t : Int) = (t' : Int)) = false := decide_eq_false (by omega)
            have HE := Lib.hid (HX.out.1 (fun h => e2 (by injection h with h _; injection h)))
            clear e2
            generalize (t : Int) = ti at z1 e2'
            generalize (t' : Int) = tj at v1 e2'
            go_wp2_with fail
            go_quiet (fail)
            go_wp2
            refine bodyPost_ret (v := .bool false) (by simp [results, Tryd.results15, go_sem]) rfl ⟨_, by rw [decide_eq_false HE.out], by first | rfl | exact World.drewN_drewN _ _ _⟩
        · have HE := Lib.hid (HX.out.1 (fun h => e1 (by injection h with h _; injection h)))
          have f : ((⟨d.toArray⟩ : ByteArray).toList == (⟨d'.toArray⟩ : ByteArray).toList) = false := by
            have h5 : (⟨d.toArray⟩ : ByteArray).toList = d := by simp [ByteArray.toList_eq]
            have h6 : (⟨d'.toArray⟩ : ByteArray).toList = d' := by simp [ByteArray.toList_eq]
            rw [h5, h6]
            simpa using e1
          clear e1
          generalize (⟨d.toArray⟩ : ByteArray) = sa at z0 f
          generalize (⟨d'.toArray⟩ : ByteArray) = sb at v0 f
          go_wp2_with fail
          go_quiet (fail)
          go_wp2
          refine bodyPost_ret (v := .bool false) (by simp [results, Tryd.results15, go_sem]) rfl ⟨_, by rw [decide_eq_false HE.out], by first | rfl | exact World.drewN_drewN _ _ _⟩
      · have hli : ¬ (i : Int) < (n : Int) := by omega
        obtain rfl : i = n := by omega
        have heq : xs = ys := List.ext_getElem (by have := HN.out; omega) (fun j h1 h2 => hal j h1 h2 (by have := HN.out; omega))
        have HE := Lib.hid heq
        clear heq hal
        go_wp2
        refine bodyPost_ret (v := .bool true) (by simp [results, Tryd.results15, go_sem]) rfl ⟨m, by rw [decide_eq_true HE.out], rfl⟩
  · have hl2 : ¬ (xs.length : Int) = (ys.length : Int) := by omega
    have hne : xs ≠ ys := fun e => hll (by rw [e])
    have hd : decide ((xs.length : Int) = (ys.length : Int)) = false := decide_eq_false hl2
    have HE := Lib.hid hne
    clear hll hne hl2
    go_wp2
    refine bodyPost_ret (v := .bool false) (by simp [results, Tryd.results15, go_sem]) rfl ⟨0, by rw [decide_eq_false HE.out], rfl⟩
end Go.Proofs.YthhcigmdocldnaaDoor
