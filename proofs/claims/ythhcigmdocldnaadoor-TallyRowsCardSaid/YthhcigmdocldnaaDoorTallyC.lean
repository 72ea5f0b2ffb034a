/- The contracts of package tally: Domains. -/
import Derived.Test.YthhcigmdocldnaaDoorTallyB
import Derived.Test.YthhcigmdocldnaaDoorCmp
import Derived.Shelf.SlSortCmp.NoneTotal
import Derived.Sort.OwnSorted
import Derived.Lib.OwnBridge
import Derived.Deep.LoopGhost
import Derived.Maps.AppendAt
namespace Go.Proofs.YthhcigmdocldnaaDoor
open Go Go.RowKit Go.Shelf Go.Sort

def eK (p : Bytes × Nat) : Value := .agg #[str p.1, .int .u8 (p.2 : Int)]
def eV (c : List Int) : Value := .agg (c.map (Value.int .i64)).toArray
abbrev Ent := List ((Bytes × Nat) × List Int)
/-- The tally behind a pointer to block b, its map in block bm: names, and the entries. -/
def TallyAt (w : World) (b bm : Nat) (names : Int) (l : Ent) : Prop :=
  w.heap[b]? = some (.cells #[.int .i64 names, .map (some bm)] 74 (0, 0)) ∧ MapAt w bm eK eV l
theorem TallyAt.obj {w : World} {b bm : Nat} {names : Int} {l : Ent} (h : TallyAt w b bm names l) : w.cell? ⟨b, 0, none⟩ = some (.int .i64 names) ∧ w.cell? ⟨b, 1, none⟩ = some (.map (some bm)) := by
  constructor <;> simp [World.cell?, h.1]
theorem TallyAt.lt {w : World} {b bm : Nat} {names : Int} {l : Ent} (h : TallyAt w b bm names l) : b < w.heap.size := (Array.getElem?_eq_some_iff.1 h.1).1
theorem TallyAt.below {w w' : World} {b bm n₀ : Nat} {names : Int} {l : Ent} (h : TallyAt w b bm names l) (hb : Below n₀ w w') (h1 : b < n₀) (h2 : bm < n₀) : TallyAt w' b bm names l :=
  ⟨(hb.block b h1).trans h.1, h.2.below hb h2⟩

theorem infoS : (Tryd.prog.info? 9).map (fun i => (i.zero, i.size, i.bytes)) = some (some (.string ⟨#[]⟩), 1, 16) := by kernel_rfl
def domAt (l : Ent) (i : Nat) : Bytes := ((l[i]?).map (·.1.1)).getD []
theorem domAt_eq {l : Ent} {i : Nat} (h : i < l.length) : domAt l i = l[i].1.1 := by simp [domAt, h]

theorem cell_one_at {w : World} {x : Value} {t : TypeId} {k : Nat} (hk : k = w.heap.size) : ∀ j u, [x][j]? = some u → (w.alloc (.cells #[x] t)).cell? ((⟨k, 0, none⟩ : Addr).add j) = some u := by
  subst hk
  exact cell_one_new w x t

theorem enters_compare : ∀ args w, (callFunc 41 args).run Tryd.prog w = .ok (.enter 41 args) w :=
  enters_of Tryd.func41 (by kernel_rfl) rfl
/-- The sort of texts by name.Compare: what it leaves, in lists. -/
theorem sortNames (ss : List Bytes) (n g cap : Nat) (w : World) (hn : ss.length = n) (H : Holds str w g 0 ss.toArray) (hg : g < w.heap.size) (hb : n ≤ 1000000) :
    Calls Tryd.prog 40 #[.slice (some ⟨g, 0, none⟩) n cap, .func (.func 41) #[] #[]] w fun e w' =>
      e = .returned (.tuple #[]) ∧ ∃ (ts : List Bytes) (m : Nat) (os : Array Obj), ts.Perm ss ∧ SortedIn (ltOf cmpB) 0 ts.toArray.size ts.toArray ∧ w' = grow (putRow encStr (Sort.ahead w m) g 0 ts.toArray) os := by
  subst hn
  have h := Tryd.slices_SortFunc str (fun _ => rfl) cmpB ordB.swo 41 #[] g 0 cap ss.toArray w enters_compare (CmpReads.lays (fun m os dk _ x y => (nameCompare_any ⟨x.toArray⟩ ⟨y.toArray⟩ _).mono (by rintro e w' ⟨rfl, rfl⟩; exact ⟨by simp [cmpB], 0, rfl⟩))) H hg (by simp; omega)
  refine h.mono ?_
  rintro e w' ⟨rfl, d', m, os, hp, hs, rfl⟩
  have hz : d'.size = ss.length := by simpa using hp.1
  refine ⟨rfl, d'.toList, m, os, ?_, ?_, rfl⟩
  · have := hp.2.2
    simp at this
    rw [List.take_of_length_le (by simp [hz])] at this
    exact this
  · simpa [hz] using hs

set_option maxRecDepth 100000 in
set_option maxHeartbeats 1000000 in
theorem domains_any (b bm : Nat) (names : Int) (l : Ent) (w : World) (h : TallyAt w b bm names l) (hl : l.length ≤ 1000000) :
    Calls Tryd.prog 13 #[.pointer (some ⟨b, 0, none⟩)] w fun e w' => ∃ v ds, e = .returned v ∧ Asc cmpB ds ∧ (∀ d, d ∈ ds ↔ d ∈ l.map (·.1.1)) ∧ w'.ownsRow (w.heap.size + 1) 9 1 v ds.length (ds.map str) ∧ Below w.heap.size w w' := by
  have hbm := h.2.lt
  obtain ⟨o, hrg, how, hit⟩ := run_range_at (P := Tryd.prog) (t := 72) Tryd.underlying72 h.2
  obtain ⟨c0, c1⟩ := h.obj
  have HT := Lib.hid (And.intro h (And.intro how hit))
  obtain ⟨i0, hi0, hz0, hz1, hz2⟩ := info_parts infoS
  clear h how hit
  go_enter Tryd.func13, Tryd.ntmps13
  go_wp2
  go_loopw [3] (fun v wr => ∃ idx : List Nat, ItAt wr w.heap.size bm eK eV l idx ∧ wr.ownsRow (w.heap.size + 1) 9 1 v idx.length (idx.map fun i => str (domAt l i)) ∧ Below w.heap.size w wr ∧ w.heap.size + 1 ≤ wr.heap.size ∧ (v = .slice none 0 0 ↔ idx = []))
    (fun _ wr => l.length - itSeen wr w.heap.size)
  case atStart =>
    refine ⟨[], HT.out.2.2, ⟨rfl, .inl ⟨rfl, rfl⟩⟩, (Below.refl _ _).alloc (Nat.le_refl _) _, by simp, by simp⟩
  case round =>
    obtain ⟨idx, hit, hown, hB, hsz, hnil⟩ := hrel
    have hM := itSeen_eq hit
    have hlen := it_len hit
    rcases run_next_step (P := Tryd.prog) hit (by omega) 0 with ⟨hle, hrun⟩ | ⟨i, hi, q, o2, hni, hrun, hit2⟩
    · have HP := Lib.hid (it_perm hit hle)
      clear hit hM
      rcases hown.2 with ⟨rfl, h0⟩ | ⟨g, cap, cur, rfl, hgb, hgc, hcap, hcm, hcs, htk⟩
      · have hL : l = [] := List.eq_nil_of_length_eq_zero (by omega)
        go_wp2_with fail
        refine (AnyF.slices_SortFunc_none { Tryd.laysSort40 with } none 0 _ _).mono ?_
        rintro e w' ⟨rfl, rfl⟩
        go_wp2_with fail
        refine (Tryd.slices_Compact_string_empty none 0 _).mono ?_
        rintro e w' ⟨rfl, rfl⟩
        go_wp2
        refine bodyPost_ret (v := .slice none 0 0) (by simp [results, Tryd.results13, go_sem]) rfl ?_
        refine ⟨_, [], rfl, List.Pairwise.nil, by simp [hL], ⟨rfl, .inl ⟨rfl, rfl⟩⟩, hB⟩
      · obtain ⟨ss, hss⟩ : ∃ ss, ss = idx.map (domAt l) := ⟨_, rfl⟩
        have hsl : ss.length = idx.length := by simp [hss]
        have htk' : cur.toList.take ss.length = ss.map encStr := by rw [hsl, hss]; simpa [str, Function.comp_def] using htk
        have H1 : Holds str wr g 0 ss.toArray := holds_of_block hgc htk'
        have hglt : g < wr.heap.size := (Array.getElem?_eq_some_iff.1 hgc).1
        have hmem : ∀ d, d ∈ ss ↔ d ∈ l.map (·.1.1) := by
          intro d
          rw [hss]
          simp only [List.mem_map]
          constructor
          · rintro ⟨i, hi, rfl⟩
            have hlt := List.mem_range.1 (HP.out.mem_iff.1 hi)
            exact ⟨l[i], List.getElem_mem hlt, (domAt_eq hlt).symm⟩
          · rintro ⟨p, hp, rfl⟩
            obtain ⟨i, hi, rfl⟩ := List.getElem_of_mem hp
            exact ⟨i, HP.out.mem_iff.2 (List.mem_range.2 hi), domAt_eq hi⟩
        clear htk hown hnil
        have hcap' : ss.length ≤ cap := by omega
        clear hss hle
        go_wp2_with fail
        refine (sortNames ss idx.length g cap wr hsl H1 hglt (Nat.le_trans hlen hl)).mono ?_
        rintro e w' ⟨rfl, ts, m, os, hperm, hsrt, rfl⟩
        have hlt : ts.length = ss.length := hperm.length_eq
        have hg2 := grownBy_sorted (w := wr) (g := g) (n := m) (os := os) ts.toArray
        have hown2 := ownsRow_sorted (n := m) (os := os) hlt hgb hgc hcap' hcm hcs
        obtain ⟨W, hW⟩ : ∃ W, W = grow (putRow encStr (Sort.ahead wr m) g 0 ts.toArray) os := ⟨_, rfl⟩
        rw [← hW] at hg2 hown2 ⊢
        clear hW hrun
        go_wp2_with fail
        obtain ⟨g', cap', e', _, _, _, _, _, H2⟩ := Lib.holds_of_ownsRow hown2 (by simp)
        injection e' with e1 _ e3
        injection e1 with e1
        injection e1 with e1
        subst e1; subst e3
        obtain ⟨hA, hmA⟩ := compact_asc ordB hsrt
        have hkl : (Lib.compactUpTo ts.toArray ts.toArray.size).length ≤ ts.length := by
          have := List.length_filter_le (Lib.keeps ts.toArray) (List.range ts.toArray.size)
          simpa [Lib.compactUpTo] using this
        have hcall := Tryd.slices_Compact_string_arr g 0 cap ts.toArray W H2 (by simp; omega) (by simp; omega)
        rw [show ts.toArray.size = idx.length by simp [hlt, hsl]] at hcall hA hmA hkl
        obtain ⟨ds, hds⟩ : ∃ ds, ds = Lib.compactUpTo ts.toArray idx.length := ⟨_, rfl⟩
        rw [← hds] at hcall hA hmA hkl
        clear hds
        refine hcall.mono ?_
        rintro e w' ⟨rfl, q, rfl⟩
        have hown3 := Lib.ownsRow_putRow (enc := str) (q := q) (k := ds.length) (ys := ds ++ List.replicate (idx.length - ds.length) []) hown2 (by simp; omega) (by omega)
        go_wp2
        refine bodyPost_ret (v := .slice (some ⟨g, 0, none⟩) ds.length cap) (by simp [results, Tryd.results13, go_sem]) rfl ?_
        refine ⟨_, ds, rfl, hA, fun d => ?_, (by simp only [List.take_left'] at hown3; exact hown3), ?_⟩
        · rw [hmA, ← hmem]; simp [hperm.mem_iff]
        · exact Lib.below_putRow (hB.grown hg2 (by omega) (fun k e => by cases e; omega)) (by omega)
    · have HM := Lib.hid hM
      clear hM
      have hent := run_entry_it (P := Tryd.prog) hi hit2
      have hg2 : wr.grownBy ((wr.drewN q).putObj w.heap.size o2) (some w.heap.size) := ⟨rfl, rfl, rfl, by simp [World.putObj, World.drewN], fun k _ hk => by
        show ((wr.drewN q).putObj w.heap.size o2).heap[k]? = (wr.drewN q).heap[k]?
        exact World.putObj_heap_other (fun e => hk (by rw [e]))⟩
      obtain ⟨W2, hW2⟩ : ∃ W2, W2 = (wr.drewN q).putObj w.heap.size o2 := ⟨_, rfl⟩
      rw [← hW2] at hrun hit2 hent hg2
      clear hW2
      have hB2 : Below w.heap.size w W2 := hB.grown hg2 (by omega) (fun k e => by cases e; exact Nat.le_refl _)
      have hown2 : W2.ownsRow (w.heap.size + 1) 9 1 u3 idx.length (idx.map fun i => str (domAt l i)) := hown.kept hg2 (by
        rcases hown.2 with ⟨rfl, _⟩ | ⟨g, cap, cur, rfl, hgb, _⟩
        · exact .inl rfl
        · refine .inr (fun e => ?_)
          simp [Value.ownBlock] at e; omega)
      have hsz2 : w.heap.size + 1 ≤ W2.heap.size := Nat.le_trans hsz hg2.size
      have hd : (l[i].1.1) = domAt l i := (domAt_eq hi).symm
      unfold eK at hrun hent
      rw [hd] at hrun hent
      have HF := Lib.hid (And.intro hown2 (And.intro hB2 (And.intro hit2 hit)))
      have hlt : idx.length < l.length := by
        have := it_len hit2; simp at this; omega
      clear hown hown2 hB2 hit2 hB hnil hit hg2 hd
      unfold str at hrun hent
      go_wp2_with (at_builtin; refine Bx.h ?_)
      refine ⟨?_⟩
      refine wpList_append_own _ rfl _ _ 31 rfl (w.heap.size + 1) 9 i0 (.string ⟨#[]⟩) 1 16 Tryd.underlying31 hi0 hz0 hz1 hz2 rfl (by decide) _ _ _ rfl ((HF.out.1.alloc _).alloc _) ⟨W2.heap.size + 1, 0, none⟩ 1 1 [.string ⟨(domAt l i).toArray⟩] rfl rfl (cell_one_at (by simp)) (fun x hx => by simp at hx; subst hx; rfl) (by unfold maxLen; omega) (by omega) (by simp; omega) ?_
      intro v' w3 hown3 hgrow3 hnil3
      clear hrun hent
      go_wp2
      have hBx : Below w.heap.size w (((W2.alloc _).alloc _)) := (HF.out.2.1.alloc (by omega) (.cells #[Value.string { data := List.toArray (domAt l i) }, Value.int IntKind.u8 ↑l[i].fst.snd] 78)).alloc (by simp; omega) (.cells #[Value.string { data := List.toArray (domAt l i) }] 9)
      have hrow : u3.ownBlock = none ∨ ∃ g, u3.ownBlock = some g ∧ w.heap.size + 1 ≤ g := by
        rcases HF.out.1.2 with ⟨rfl, _⟩ | ⟨g, cap, cur, rfl, hgb, _⟩
        · exact .inl rfl
        · exact .inr ⟨g, rfl, hgb⟩
      have hgx : W2.grownBy w3 u3.ownBlock := World.grownBy.trans (World.grownBy.trans (World.grownBy_alloc _ _ _) (World.grownBy_alloc _ _ _)) hgrow3
      have hkp : ∀ k, k ≤ w.heap.size → w3.heap[k]? = W2.heap[k]? := fun k hk => hgx.block k (by omega) (fun e => by
        rcases hrow with hr | ⟨g, hr, hg⟩ <;> rw [hr] at e <;> simp at e; omega)
      have hit3 : ItAt w3 w.heap.size bm eK eV l (idx ++ [i]) := HF.out.2.2.1.of_blocks (hkp _ (by omega)) (hkp _ (Nat.le_refl _))
      refine ⟨⟨idx ++ [i], hit3, by simpa [str] using hown3, HF.out.2.1.grown hgx (by omega) (fun k e => ?_), Nat.le_trans hsz2 hgx.size, ⟨fun e => ?_, fun e => by simp at e⟩⟩, ?_⟩
      · rcases hrow with hr | ⟨g, hr, hg⟩ <;> rw [hr] at e <;> simp at e; omega
      · exact absurd (hnil3.1 e).2 (by decide)
      · rw [itSeen_eq hit3, HM.out]
        simp
        omega
end Go.Proofs.YthhcigmdocldnaaDoor
