/- The law's own functions size and long. -/
import Derived.Test.YtojhledbfaninaaCworks
namespace Go.Proofs.Ytojhledbfaninaa
open Go Go.RowKit Go.Shelf Go.Sort
attribute [local go_sem] bneI

/-- A step: what it is, and the entry that is learned (its time in unt). -/
structure PS where
  what : Nat
  x : PE
abbrev SM := PS × SH
def scells (s : SM) : List Value := [.int .u8 (s.1.what : Int), str s.1.x.dom, str s.1.x.id, .int .u8 (s.1.x.mode : Int), shV s.2, .int .i64 s.1.x.age, .int .i64 s.1.x.unt]
/-- Steps lie in memory. -/
def RowS (W : World) (v : Value) (ss : List SM) : Prop :=
  (ss = [] ∧ ∃ p c, v = .slice p 0 c) ∨ (ss ≠ [] ∧ ∃ b o c, v = .slice (some ⟨b, o, none⟩) ss.length c ∧ ∀ (i : Nat) (hi : i < ss.length) (k : Nat) (u : Value), (scells ss[i])[k]? = some u → W.cell? ⟨b, o + i * 7 + k, none⟩ = some u)
def TextsS (W : World) (B : Nat → Prop) (ss : List SM) : Prop := ∀ s ∈ ss, MxAt W B s.2 s.1.x.mx
theorem RowS.sh {W : World} {v : Value} {zs : List SM} (h : RowS W v zs) : ∃ p c, v = .slice p zs.length c := by
  rcases h with ⟨rfl, p, c, rfl⟩ | ⟨_, b, o, c, rfl, _⟩
  · exact ⟨p, c, rfl⟩
  · exact ⟨_, c, rfl⟩
theorem RowS.at {W : World} {p : Option Addr} {n c : Nat} {zs : List SM} (h : RowS W (.slice p n c) zs) (i : Nat) (hi : i < zs.length) :
    ∃ b o, p = some ⟨b, o, none⟩ ∧ b < W.heap.size ∧ ∀ (j : Nat) (hj : j < zs.length), W.cell? ⟨b, o + j * 7, none⟩ = some (.int .u8 (zs[j].1.what : Int)) ∧ W.cell? ⟨b, o + j * 7 + 1, none⟩ = some (.string ⟨zs[j].1.x.dom.toArray⟩) ∧ W.cell? ⟨b, o + j * 7 + 2, none⟩ = some (.string ⟨zs[j].1.x.id.toArray⟩) ∧ W.cell? ⟨b, o + j * 7 + 3, none⟩ = some (.int .u8 (zs[j].1.x.mode : Int)) ∧
      W.cell? ⟨b, o + j * 7 + 4, none⟩ = some (.slice zs[j].2.1 zs[j].2.2.1 zs[j].2.2.2) ∧ W.cell? ⟨b, o + j * 7 + 5, none⟩ = some (.int .i64 zs[j].1.x.age) ∧ W.cell? ⟨b, o + j * 7 + 6, none⟩ = some (.int .i64 zs[j].1.x.unt) := by
  rcases h with ⟨rfl, _⟩ | ⟨_, b, o, c', e, hcc⟩
  · simp at hi
  · injection e with e1 _ _
    refine ⟨b, o, e1, cell_lt (hcc i hi 0 _ rfl), fun j hj => ⟨hcc j hj 0 _ rfl, hcc j hj 1 _ rfl, hcc j hj 2 _ rfl, hcc j hj 3 _ rfl, hcc j hj 4 _ rfl, hcc j hj 5 _ rfl, hcc j hj 6 _ rfl⟩⟩
/-- Short texts. -/
def ShortE (x : PE) : Prop := x.dom.length < 4000 ∧ x.id.length < 4000 ∧ x.mx.length < 4000 ∧ ∀ u ∈ x.mx, u.length < 4000

def sumS (l : List Bytes) : Nat := (l.map fun u => 1 + min 4000 u.length).sum
def sizeB (l : List Bytes) : Nat := min 4000 (sumS l)
theorem sumS_succ {l : List Bytes} {i : Nat} (hi : i < l.length) : sumS (l.take (i + 1)) = sumS (l.take i) + (1 + min 4000 l[i].length) := by
  unfold sumS
  rw [List.take_succ_eq_append_getElem hi, List.map_append, List.sum_append]
  simp
theorem sumS_take (l : List Bytes) (i : Nat) : sumS (l.take i) ≤ sumS l := by
  have : sumS l = sumS (l.take i) + sumS (l.drop i) := by
    unfold sumS
    rw [← List.sum_append, ← List.map_append, List.take_append_drop]
  omega
theorem sumS_len : ∀ l : List Bytes, l.length ≤ sumS l
  | [] => Nat.le_refl _
  | u :: l => by
    have := sumS_len l
    simp only [sumS, List.map_cons, List.sum_cons, List.length_cons] at this ⊢
    omega
theorem sumS_mem : ∀ {l : List Bytes} {u : Bytes}, u ∈ l → min 4000 u.length < sumS l
  | v :: l, u, h => by
    simp only [sumS, List.map_cons, List.sum_cons]
    rcases List.mem_cons.1 h with rfl | h
    · omega
    · have := sumS_mem h
      unfold sumS at this
      omega
theorem size_short {l : List Bytes} (h : sizeB l < 4000) : l.length < 4000 ∧ ∀ u ∈ l, u.length < 4000 := by
  unfold sizeB at h
  have h1 := sumS_len l
  refine ⟨by omega, fun u hu => ?_⟩
  have := sumS_mem hu
  omega
set_option maxRecDepth 100000 in
set_option maxHeartbeats 2000000 in
theorem size_any (m : Nat) (h : SH) (mx : List Bytes) (age : Int) (B : Nat → Prop) (w : World) (hm : MxAt w B h mx) :
    Calls Try.prog 30 #[pcl m h age] w fun e w' => e = .returned (.int .i64 (sizeB mx : Int)) ∧ Below w.heap.size w w' := by
  have hshape := hm.shape
  have hl : h.2.1 = mx.length := hm.1
  obtain ⟨p, n, c⟩ := h
  dsimp only at hl
  subst hl
  unfold pcl shV
  dsimp only
  obtain ⟨W, hW⟩ : ∃ W, W = w.alloc (.cells #[.int .u8 (m : Int), .slice p mx.length c, .int .i64 age] 25) := ⟨_, rfl⟩
  have hB : Below w.heap.size w W := by rw [hW]; exact (Below.refl _ w).alloc (Nat.le_refl _) _
  have c1 : W.cell? ⟨w.heap.size, 1, none⟩ = some (.slice p mx.length c) := by rw [hW]; simp [go_sem]
  have hcell : ∀ (i : Nat) (hi : i < mx.length), ∃ b o, p = some ⟨b, o, none⟩ ∧ W.cell? ⟨b, o + i, none⟩ = some (.string ⟨mx[i].toArray⟩) := by
    intro i hi
    rcases hshape with ⟨rfl, _⟩ | ⟨_, b, o, c', e, _, hb, hc⟩
    · simp at hi
    · injection e with e1 _
      exact ⟨b, o, e1, (hB.cell (p := ⟨b, o + i, none⟩) hb).trans (hc i mx[i] (List.getElem?_eq_getElem hi))⟩
  have HH := Lib.hid (And.intro hB hcell)
  clear hB hcell hshape hm
  go_enter Try.func30, Try.ntmps30
  go_upto_region 1 with (fail)
  rw [← hW]
  clear hW
  go_wp2_with fail
  go_loopw [3, 4] (fun nv iv wr => ∃ i k : Nat, iv = .int .i64 (i : Int) ∧ nv = .int .i64 (k : Int) ∧ i ≤ mx.length ∧ i ≤ k ∧ k = sumS (mx.take i) ∧ k < 8002 ∧ wr = W)
    (fun _ iv _ => mx.length - natI iv)
  case atStart => exact ⟨0, 0, rfl, rfl, Nat.zero_le _, Nat.le_refl _, rfl, by omega, rfl⟩
  case round =>
    obtain ⟨i, k, rfl, rfl, hi, hik, hk, hk2, rfl⟩ := hrel
    have HK := Lib.hid hk
    clear hk
    by_cases hlast : i < mx.length
    · have hli : (i : Int) < (mx.length : Int) := by omega
      by_cases hk4 : k < 4000
      · have hki : (k : Int) < 4000 := by omega
        obtain ⟨b, o, hp, y0⟩ := HH.out.2 i hlast
        subst hp
        have hsz : (⟨mx[i].toArray⟩ : ByteArray).size = mx[i].length := rfl
        generalize (⟨mx[i].toArray⟩ : ByteArray) = sd at y0 hsz
        have HSZ := Lib.hid hsz
        clear hsz
        go_wp2
        go_roundw
        case rel => exact ⟨i + 1, k + (1 + min 4000 sd.size), by simp, (by simp <;> omega), by omega, by omega, (by rw [sumS_succ hlast, ← HK.out, HSZ.out]), by omega, (by first | rfl | trivial)⟩
        case measure => simp [natI]; omega
      · have hki : ¬ (k : Int) < 4000 := by omega
        have hsz : sizeB mx = 4000 := by
          have := sumS_take mx i
          rw [← HK.out] at this
          unfold sizeB; omega
        have HS := Lib.hid hsz
        clear hsz
        go_wp2
        refine bodyPost_ret (v := .int .i64 4000) (by simp [results, Try.results30, go_sem]; try omega) rfl ⟨by rw [HS.out]; rfl, HH.out.1⟩
    · have hli : ¬ (i : Int) < (mx.length : Int) := by omega
      obtain rfl : i = mx.length := by omega
      have hsz : sizeB mx = min 4000 k := by
        have := HK.out
        rw [List.take_length] at this
        unfold sizeB; rw [← this]
      have HS := Lib.hid hsz
      clear hsz
      go_wp2
      refine bodyPost_ret (v := .int .i64 (min 4000 k : Nat)) (by simp [results, Try.results30, go_sem]; try omega) rfl ⟨by rw [HS.out], HH.out.1⟩

def LongPost (ss : List SM) (zs : List EM) (e : Ending) : Prop := ∃ r : Bool, e = .returned (.bool r) ∧ (r = false → ss.length < 400 ∧ (∀ s ∈ ss, ShortE s.1.x) ∧ zs.length < 400 ∧ ∀ z ∈ zs, ShortE z.1)
set_option maxRecDepth 100000 in
set_option maxHeartbeats 4000000 in
theorem long_any (v1 v2 : Value) (ss : List SM) (zs : List EM) (B1 B2 : Nat → Prop) (w : World) (h1 : RowS w v1 ss) (h2 : RowE w v2 zs) (t1 : TextsS w B1 ss) (t2 : TextsE w B2 zs) (hn1 : ss.length ≤ maxLen) (hn2 : zs.length ≤ maxLen) :
    Calls Try.prog 15 #[v1, v2] w fun e w' => LongPost ss zs e ∧ Below w.heap.size w w' := by
  obtain ⟨p1, c1, rfl⟩ := h1.sh
  obtain ⟨p2, c2, rfl⟩ := h2.sh
  have HN := Lib.hid (And.intro hn1 hn2)
  clear hn1 hn2
  have HH := Lib.hid (And.intro h1 (And.intro h2 (And.intro t1 t2)))
  clear h1 h2 t1 t2
  go_enter Try.func15, Try.ntmps15
  go_wp2_with fail
  go_loopw [5, 6] (fun nv iv wr => ∃ i k : Nat, iv = .int .i64 (i : Int) ∧ nv = .int .i64 (k : Int) ∧ i ≤ ss.length ∧ (k < 4000 → 10 * i ≤ k) ∧ k < 16010 ∧ (k < 4000 → ∀ j (hj : j < ss.length), j < i → ShortE ss[j].1.x) ∧ Below w.heap.size w wr)
    (fun _ iv _ => ss.length - natI iv)
  case atStart => exact ⟨0, 0, rfl, rfl, Nat.zero_le _, fun _ => Nat.le_refl _, by omega, fun _ _ _ h => absurd h (Nat.not_lt_zero _), Below.refl _ _⟩
  case round =>
    obtain ⟨i, k, rfl, rfl, hi, hk, hk2, hall, hB⟩ := hrel
    by_cases hgo : i < ss.length ∧ k < 4000
    · obtain ⟨hlast, hk4⟩ := hgo
      have hli : (i : Int) < (ss.length : Int) := by omega
      have hki : (k : Int) < 4000 := by omega
      have hk10 := hk hk4
      obtain ⟨b1, o1, hp1, hl1, hc1⟩ := HH.out.1.at i hlast
      subst hp1
      have cells := hc1 i hlast
      have hq : ∀ (q : BW wr) (j : Nat) (v : Value), w.cell? ⟨b1, j, none⟩ = some v → q.v.cell? ⟨b1, j, none⟩ = some v := fun q j v h => (q.h.cell (Nat.lt_of_lt_of_le hl1 hB.size)).trans ((hB.cell (p := ⟨b1, j, none⟩) hl1).trans h)
      have z1 := fun q : BW wr => hq q _ _ cells.2.1
      have z2 := fun q : BW wr => hq q _ _ cells.2.2.1
      have z3 := fun q : BW wr => hq q _ _ cells.2.2.2.1
      have z4 := fun q : BW wr => hq q _ _ cells.2.2.2.2.1
      have z5 := fun q : BW wr => hq q _ _ cells.2.2.2.2.2.1
      have hS : ∀ q : BW wr, Calls Try.prog 30 #[pcl ss[i].1.x.mode ss[i].2 ss[i].1.x.age] q.v fun e w'' => e = .returned (.int .i64 (sizeB ss[i].1.x.mx : Int)) ∧ ∃ q' : BW wr, w'' = q'.v := fun q =>
        (size_any ss[i].1.x.mode ss[i].2 ss[i].1.x.mx ss[i].1.x.age B1 q.v ((HH.out.2.2.1 _ (List.getElem_mem hlast)).below (hB.trans (q.h.mono hB.size)))).mono fun e w'' hh => ⟨hh.1, ⟨w'', q.h.trans (hh.2.mono q.h.size)⟩, rfl⟩
      unfold pcl shV at hS
      have HALL := Lib.hid hall
      clear hall
      have hsz : sizeB ss[i].1.x.mx < 4000 → ss[i].1.x.mx.length < 4000 ∧ ∀ u ∈ ss[i].1.x.mx, u.length < 4000 := size_short
      have hs4 : sizeB ss[i].1.x.mx ≤ 4000 := by unfold sizeB; omega
      have hd1 : (⟨ss[i].1.x.dom.toArray⟩ : ByteArray).size = ss[i].1.x.dom.length := rfl
      have hd2 : (⟨ss[i].1.x.id.toArray⟩ : ByteArray).size = ss[i].1.x.id.length := rfl
      have hsh : sizeB ss[i].1.x.mx < 4000 → (⟨ss[i].1.x.dom.toArray⟩ : ByteArray).size < 4000 → (⟨ss[i].1.x.id.toArray⟩ : ByteArray).size < 4000 → ShortE ss[i].1.x := fun h1 h2 h3 => ⟨by rw [← hd1]; exact h2, by rw [← hd2]; exact h3, (hsz h1).1, (hsz h1).2⟩
      generalize sizeB ss[i].1.x.mx = sz at hS hsh hs4
      generalize (⟨ss[i].1.x.dom.toArray⟩ : ByteArray) = sd at z1 hsh
      generalize (⟨ss[i].1.x.id.toArray⟩ : ByteArray) = si at z2 hsh
      have HB := Lib.hid (And.intro hsh hB)
      clear hsh hB cells hq hsz hd1 hd2 hc1 hl1 hk
      go_upto_region 5 with (fail)
      refine wp_region_quiet_below (by kernel_rfl) (by kernel_rfl) ?_
      repeat (go_big_quiet_step (exact hS _))
      refine wpQuiet_nil ?_
      intro w5 hw'
      have hb5 : Below wr.heap.size wr w5 := by
        obtain ⟨q, rfl⟩ := hw'
        exact q.h
      clear hw' hS z1 z2 z3 z4 z5
      have HF := Lib.hid (HB.out.2.trans (hb5.mono HB.out.2.size))
      clear hb5
      go_wp2
      go_roundw
      case rel => exact ⟨i + 1, k + 10 + min 4000 sd.size + min 4000 si.size + sz, by simp, (by simp <;> omega), by omega, fun h => (by omega), by omega, fun h t ht htj => (by
                  by_cases e : t = i
                  · subst e; exact HB.out.1 (by omega) (by omega) (by omega)
                  · exact HALL.out hk4 t ht (by omega)), HF.out⟩
      case measure => simp [natI]; omega
    · have hH1 : k < 4000 → 10 * ss.length ≤ k ∧ ∀ s ∈ ss, ShortE s.1.x := fun h => by
        have e : i = ss.length := by omega
        subst e
        refine ⟨hk h, fun s hs => ?_⟩
        obtain ⟨j, hj, rfl⟩ := List.getElem_of_mem hs
        exact hall h j hj hj
      by_cases hlast : i < ss.length
      · have hli : (i : Int) < (ss.length : Int) := by omega
        have hki : ¬ (k : Int) < 4000 := by omega
        have H1 := Lib.hid (And.intro hH1 hB)
        clear hH1 hB hall hk
        go_wp2_with fail
        go_loopw [5, 7] (fun nv jv wr => ∃ j k : Nat, jv = .int .i64 (j : Int) ∧ nv = .int .i64 (k : Int) ∧ j ≤ zs.length ∧ (k < 4000 → 10 * j ≤ k) ∧ k < 16010 ∧ (k < 4000 → (10 * ss.length ≤ k ∧ ∀ s ∈ ss, ShortE s.1.x) ∧ ∀ t (ht : t < zs.length), t < j → ShortE zs[t].1) ∧ Below w.heap.size w wr)
          (fun _ jv _ => zs.length - natI jv)
        case atStart => exact ⟨0, k, rfl, rfl, Nat.zero_le _, fun _ => (by omega), by omega, fun h => ⟨H1.out.1 h, fun _ _ h => absurd h (Nat.not_lt_zero _)⟩, H1.out.2⟩
        case round =>
          clear H1 hk2 hgo hli hki
          obtain ⟨j, k, rfl, rfl, hj, hk, hk2, hall, hB⟩ := hrel
          by_cases hgo2 : j < zs.length ∧ k < 4000
          · obtain ⟨hlast2, hk4⟩ := hgo2
            have hlast := hlast2
            have hlj : (j : Int) < (zs.length : Int) := by omega
            have hki : (k : Int) < 4000 := by omega
            have hk10 := hk hk4
            obtain ⟨b2, o2, hp2, hl2, hc2⟩ := HH.out.2.1.at j hlast
            subst hp2
            have cells := hc2 j hlast
            have hq : ∀ (q : BW wr) (j : Nat) (v : Value), w.cell? ⟨b2, j, none⟩ = some v → q.v.cell? ⟨b2, j, none⟩ = some v := fun q j v h => (q.h.cell (Nat.lt_of_lt_of_le hl2 hB.size)).trans ((hB.cell (p := ⟨b2, j, none⟩) hl2).trans h)
            have z0 := fun q : BW wr => hq q _ _ cells.1
            have z1 := fun q : BW wr => hq q _ _ cells.2.1
            have z2 := fun q : BW wr => hq q _ _ cells.2.2.1
            have z3 := fun q : BW wr => hq q _ _ cells.2.2.2.1
            have z4 := fun q : BW wr => hq q _ _ cells.2.2.2.2.1
            have hS : ∀ q : BW wr, Calls Try.prog 30 #[pcl zs[j].1.mode zs[j].2 zs[j].1.age] q.v fun e w'' => e = .returned (.int .i64 (sizeB zs[j].1.mx : Int)) ∧ ∃ q' : BW wr, w'' = q'.v := fun q =>
              (size_any zs[j].1.mode zs[j].2 zs[j].1.mx zs[j].1.age B2 q.v ((HH.out.2.2.2 _ (List.getElem_mem hlast)).below (hB.trans (q.h.mono hB.size)))).mono fun e w'' hh => ⟨hh.1, ⟨w'', q.h.trans (hh.2.mono q.h.size)⟩, rfl⟩
            unfold pcl shV at hS
            have HALL := Lib.hid hall
            clear hall
            have hsz : sizeB zs[j].1.mx < 4000 → zs[j].1.mx.length < 4000 ∧ ∀ u ∈ zs[j].1.mx, u.length < 4000 := size_short
            have hs4 : sizeB zs[j].1.mx ≤ 4000 := by unfold sizeB; omega
            have hd1 : (⟨zs[j].1.dom.toArray⟩ : ByteArray).size = zs[j].1.dom.length := rfl
            have hd2 : (⟨zs[j].1.id.toArray⟩ : ByteArray).size = zs[j].1.id.length := rfl
            have hsh : sizeB zs[j].1.mx < 4000 → (⟨zs[j].1.dom.toArray⟩ : ByteArray).size < 4000 → (⟨zs[j].1.id.toArray⟩ : ByteArray).size < 4000 → ShortE zs[j].1 := fun h1 h2 h3 => ⟨by rw [← hd1]; exact h2, by rw [← hd2]; exact h3, (hsz h1).1, (hsz h1).2⟩
            generalize sizeB zs[j].1.mx = sz at hS hsh hs4
            generalize (⟨zs[j].1.dom.toArray⟩ : ByteArray) = sd at z0 hsh
            generalize (⟨zs[j].1.id.toArray⟩ : ByteArray) = si at z1 hsh
            have HB := Lib.hid (And.intro hsh hB)
            clear hsh hB cells hq hsz hd1 hd2 hc2 hl2 hk
            go_upto_region 9 with (fail)
            refine wp_region_quiet_below (by kernel_rfl) (by kernel_rfl) ?_
            repeat (go_big_quiet_step (exact hS _))
            refine wpQuiet_nil ?_
            intro w5 hw'
            have hb5 : Below wr.heap.size wr w5 := by
              obtain ⟨q, rfl⟩ := hw'
              exact q.h
            clear hw' hS z0 z1 z2 z3 z4
            have HF := Lib.hid (HB.out.2.trans (hb5.mono HB.out.2.size))
            clear hb5
            go_wp2
            go_roundw
            case rel => exact ⟨j + 1, k + 10 + min 4000 sd.size + min 4000 si.size + sz, by simp, (by simp <;> omega), by omega, fun h => (by omega), by omega, fun h => (by
                  have h0 := HALL.out hk4
                  refine ⟨⟨by omega, h0.1.2⟩, fun t ht htj => ?_⟩
                  by_cases e : t = j
                  · subst e; exact HB.out.1 (by omega) (by omega) (by omega)
                  · exact h0.2 t ht (by omega)), HF.out⟩
            case measure => simp [natI]; omega
          · have hres : k < 4000 → ss.length < 400 ∧ (∀ s ∈ ss, ShortE s.1.x) ∧ zs.length < 400 ∧ ∀ z ∈ zs, ShortE z.1 := fun h => by
              have e : j = zs.length := by omega
              subst e
              have h1 := hall h
              have h2 := hk h
              refine ⟨by omega, h1.1.2, by omega, fun z hz => ?_⟩
              obtain ⟨t, ht, rfl⟩ := List.getElem_of_mem hz
              exact h1.2 t ht ht
            have HR := Lib.hid (And.intro hres hB)
            clear hres hall hB hk
            by_cases hk4 : k < 4000
            · have hlj : ¬ (j : Int) < (zs.length : Int) := by omega
              have hki : ¬ (4000 : Int) ≤ (k : Int) := by omega
              have hki3 : (k : Int) < 4000 := by omega
              go_wp2
              refine bodyPost_ret (v := .bool false) (by simp [results, Try.results15, go_sem]; try omega) rfl ⟨⟨false, rfl, fun _ => HR.out.1 hk4⟩, HR.out.2⟩
            · have hki : (4000 : Int) ≤ (k : Int) := by omega
              have hki3 : ¬ (k : Int) < 4000 := by omega
              by_cases hlast2 : j < zs.length
              · have hlj : (j : Int) < (zs.length : Int) := by omega
                go_wp2
                refine bodyPost_ret (v := .bool true) (by simp [results, Try.results15, go_sem]; try omega) rfl ⟨⟨true, rfl, fun h => (by cases h)⟩, HR.out.2⟩
              · have hlj : ¬ (j : Int) < (zs.length : Int) := by omega
                go_wp2
                refine bodyPost_ret (v := .bool true) (by simp [results, Try.results15, go_sem]; try omega) rfl ⟨⟨true, rfl, fun h => (by cases h)⟩, HR.out.2⟩
      · have hli : ¬ (i : Int) < (ss.length : Int) := by omega
        have H1 := Lib.hid (And.intro hH1 hB)
        clear hH1 hB hall hk
        go_wp2_with fail
        go_loopw [5, 7] (fun nv jv wr => ∃ j k : Nat, jv = .int .i64 (j : Int) ∧ nv = .int .i64 (k : Int) ∧ j ≤ zs.length ∧ (k < 4000 → 10 * j ≤ k) ∧ k < 16010 ∧ (k < 4000 → (10 * ss.length ≤ k ∧ ∀ s ∈ ss, ShortE s.1.x) ∧ ∀ t (ht : t < zs.length), t < j → ShortE zs[t].1) ∧ Below w.heap.size w wr)
          (fun _ jv _ => zs.length - natI jv)
        case atStart => exact ⟨0, k, rfl, rfl, Nat.zero_le _, fun _ => (by omega), by omega, fun h => ⟨H1.out.1 h, fun _ _ h => absurd h (Nat.not_lt_zero _)⟩, H1.out.2⟩
        case round =>
          clear H1 hk2 hgo hli
          obtain ⟨j, k, rfl, rfl, hj, hk, hk2, hall, hB⟩ := hrel
          by_cases hgo2 : j < zs.length ∧ k < 4000
          · obtain ⟨hlast2, hk4⟩ := hgo2
            have hlast := hlast2
            have hlj : (j : Int) < (zs.length : Int) := by omega
            have hki : (k : Int) < 4000 := by omega
            have hk10 := hk hk4
            obtain ⟨b2, o2, hp2, hl2, hc2⟩ := HH.out.2.1.at j hlast
            subst hp2
            have cells := hc2 j hlast
            have hq : ∀ (q : BW wr) (j : Nat) (v : Value), w.cell? ⟨b2, j, none⟩ = some v → q.v.cell? ⟨b2, j, none⟩ = some v := fun q j v h => (q.h.cell (Nat.lt_of_lt_of_le hl2 hB.size)).trans ((hB.cell (p := ⟨b2, j, none⟩) hl2).trans h)
            have z0 := fun q : BW wr => hq q _ _ cells.1
            have z1 := fun q : BW wr => hq q _ _ cells.2.1
            have z2 := fun q : BW wr => hq q _ _ cells.2.2.1
            have z3 := fun q : BW wr => hq q _ _ cells.2.2.2.1
            have z4 := fun q : BW wr => hq q _ _ cells.2.2.2.2.1
            have hS : ∀ q : BW wr, Calls Try.prog 30 #[pcl zs[j].1.mode zs[j].2 zs[j].1.age] q.v fun e w'' => e = .returned (.int .i64 (sizeB zs[j].1.mx : Int)) ∧ ∃ q' : BW wr, w'' = q'.v := fun q =>
              (size_any zs[j].1.mode zs[j].2 zs[j].1.mx zs[j].1.age B2 q.v ((HH.out.2.2.2 _ (List.getElem_mem hlast)).below (hB.trans (q.h.mono hB.size)))).mono fun e w'' hh => ⟨hh.1, ⟨w'', q.h.trans (hh.2.mono q.h.size)⟩, rfl⟩
            unfold pcl shV at hS
            have HALL := Lib.hid hall
            clear hall
            have hsz : sizeB zs[j].1.mx < 4000 → zs[j].1.mx.length < 4000 ∧ ∀ u ∈ zs[j].1.mx, u.length < 4000 := size_short
            have hs4 : sizeB zs[j].1.mx ≤ 4000 := by unfold sizeB; omega
            have hd1 : (⟨zs[j].1.dom.toArray⟩ : ByteArray).size = zs[j].1.dom.length := rfl
            have hd2 : (⟨zs[j].1.id.toArray⟩ : ByteArray).size = zs[j].1.id.length := rfl
            have hsh : sizeB zs[j].1.mx < 4000 → (⟨zs[j].1.dom.toArray⟩ : ByteArray).size < 4000 → (⟨zs[j].1.id.toArray⟩ : ByteArray).size < 4000 → ShortE zs[j].1 := fun h1 h2 h3 => ⟨by rw [← hd1]; exact h2, by rw [← hd2]; exact h3, (hsz h1).1, (hsz h1).2⟩
            generalize sizeB zs[j].1.mx = sz at hS hsh hs4
            generalize (⟨zs[j].1.dom.toArray⟩ : ByteArray) = sd at z0 hsh
            generalize (⟨zs[j].1.id.toArray⟩ : ByteArray) = si at z1 hsh
            have HB := Lib.hid (And.intro hsh hB)
            clear hsh hB cells hq hsz hd1 hd2 hc2 hl2 hk
            go_upto_region 9 with (fail)
            refine wp_region_quiet_below (by kernel_rfl) (by kernel_rfl) ?_
            repeat (go_big_quiet_step (exact hS _))
            refine wpQuiet_nil ?_
            intro w5 hw'
            have hb5 : Below wr.heap.size wr w5 := by
              obtain ⟨q, rfl⟩ := hw'
              exact q.h
            clear hw' hS z0 z1 z2 z3 z4
            have HF := Lib.hid (HB.out.2.trans (hb5.mono HB.out.2.size))
            clear hb5
            go_wp2
            go_roundw
            case rel => exact ⟨j + 1, k + 10 + min 4000 sd.size + min 4000 si.size + sz, by simp, (by simp <;> omega), by omega, fun h => (by omega), by omega, fun h => (by
                  have h0 := HALL.out hk4
                  refine ⟨⟨by omega, h0.1.2⟩, fun t ht htj => ?_⟩
                  by_cases e : t = j
                  · subst e; exact HB.out.1 (by omega) (by omega) (by omega)
                  · exact h0.2 t ht (by omega)), HF.out⟩
            case measure => simp [natI]; omega
          · have hres : k < 4000 → ss.length < 400 ∧ (∀ s ∈ ss, ShortE s.1.x) ∧ zs.length < 400 ∧ ∀ z ∈ zs, ShortE z.1 := fun h => by
              have e : j = zs.length := by omega
              subst e
              have h1 := hall h
              have h2 := hk h
              refine ⟨by omega, h1.1.2, by omega, fun z hz => ?_⟩
              obtain ⟨t, ht, rfl⟩ := List.getElem_of_mem hz
              exact h1.2 t ht ht
            have HR := Lib.hid (And.intro hres hB)
            clear hres hall hB hk
            by_cases hk4 : k < 4000
            · have hlj : ¬ (j : Int) < (zs.length : Int) := by omega
              have hki : ¬ (4000 : Int) ≤ (k : Int) := by omega
              have hki3 : (k : Int) < 4000 := by omega
              go_wp2
              refine bodyPost_ret (v := .bool false) (by simp [results, Try.results15, go_sem]; try omega) rfl ⟨⟨false, rfl, fun _ => HR.out.1 hk4⟩, HR.out.2⟩
            · have hki : (4000 : Int) ≤ (k : Int) := by omega
              have hki3 : ¬ (k : Int) < 4000 := by omega
              by_cases hlast2 : j < zs.length
              · have hlj : (j : Int) < (zs.length : Int) := by omega
                go_wp2
                refine bodyPost_ret (v := .bool true) (by simp [results, Try.results15, go_sem]; try omega) rfl ⟨⟨true, rfl, fun h => (by cases h)⟩, HR.out.2⟩
              · have hlj : ¬ (j : Int) < (zs.length : Int) := by omega
                go_wp2
                refine bodyPost_ret (v := .bool true) (by simp [results, Try.results15, go_sem]; try omega) rfl ⟨⟨true, rfl, fun h => (by cases h)⟩, HR.out.2⟩
end Go.Proofs.Ytojhledbfaninaa
