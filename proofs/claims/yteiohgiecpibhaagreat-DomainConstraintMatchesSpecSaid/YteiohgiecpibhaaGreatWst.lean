/- search.from: by order, upwards. -/
import Derived.Test.YteiohgiecpibhaaGreatMH
set_option linter.unusedVariables false
set_option linter.unusedSimpArgs false
set_option maxRecDepth 100000
set_option maxHeartbeats 4000000
namespace Go.Proofs.YteiohgiecpibhaaGreat
open Go.RowKit Fdm

theorem okD_at {D : List Dm} (h : okD D = true) {v : Nat} (hv : v < D.length) : dm D v ≠ [] ∧ (dm D v).length ≤ 1000 ∧ Ok (dm D v) := by
  have e : dm D v = D[v] := by unfold dm; rw [List.getD_eq_getElem?_getD, List.getElem?_eq_getElem hv]; rfl
  have := List.all_eq_true.1 h D[v] (List.getElem_mem hv)
  simp only [Bool.and_eq_true, decide_eq_true_eq] at this
  rw [e]
  exact ⟨fun q => this.1.1 (by rw [q]; rfl), this.1.2, fun i hi => spansTo_all this.2 hi⟩
theorem step_fuel (s : Sea) : s.step.2.fuel ≤ s.fuel ∧ s.step.2.found = s.found := by
  unfold Sea.step
  split
  · exact ⟨Nat.le_refl _, rfl⟩
  · exact ⟨Nat.sub_le _ _, rfl⟩
theorem fromN_inv {ru : Con → List Dm → List Dm} {G : Con → List Dm → Bool} {P : List Con} {vs : List Int} {most gq : Nat} : ∀ {f : Nat} {D : List Dm} {s s' : Sea}, fromN ru G P vs most gq f D s = some s' → s.found.length ≤ most → s'.found.length ≤ most ∧ s'.fuel ≤ s.fuel
  | 0, _, _, _, h, _ => by simp [fromN] at h
  | f + 1, D, s, s', h, hm => by
    simp only [fromN] at h
    split at h
    · rw [← Option.some.inj h]; exact ⟨hm, Nat.le_refl _⟩
    · rename_i c1
      have lt : s.found.length < most := Classical.byContradiction fun q => c1 (Or.inl q)
      split at h
      · simp at h
      · split at h
        · rw [← Option.some.inj h]; exact ⟨by simp; omega, Nat.le_refl _⟩
        · have sf := step_fuel s
          split at h
          · rw [← Option.some.inj h]; exact ⟨by rw [sf.2]; omega, sf.1⟩
          · split at h
            · simp at h
            · split at h
              · simp at h
              · rename_i D1 is hn _ s1 hs1
                have i1 : s1.found.length ≤ most ∧ s1.fuel ≤ s.fuel := by
                  cases is with
                  | true =>
                    have := fromN_inv hs1 (by rw [sf.2]; omega)
                    exact ⟨this.1, Nat.le_trans this.2 sf.1⟩
                  | false =>
                    have e := Option.some.inj hs1
                    rw [← e]; exact ⟨by rw [sf.2]; omega, sf.1⟩
                have sf1 := step_fuel s1
                split at h
                · rw [← Option.some.inj h]; exact i1
                · split at h
                  · rw [← Option.some.inj h]; exact ⟨by rw [sf1.2]; exact i1.1, Nat.le_trans sf1.1 i1.2⟩
                  · split at h
                    · simp at h
                    · split at h
                      · have := fromN_inv h (by rw [sf1.2]; exact i1.1)
                        exact ⟨this.1, Nat.le_trans this.2 (Nat.le_trans sf1.1 i1.2)⟩
                      · rw [← Option.some.inj h]; exact ⟨by rw [sf1.2]; exact i1.1, Nat.le_trans sf1.1 i1.2⟩
def FrPost (base gr : Nat) (vs vf : Value) (most : Nat) (s' : Sea) (w : World) (e : Ending) (w' : World) : Prop := e = .returned (.tuple #[]) ∧ ∃ vf', SeaB w' base gr vs vf' most s' ∧ Loc w vf vf' ∧ SeaFr gr vf w w'
structure FrL (ru : Con → List Dm → List Dm) (G : Con → List Dm → Bool) (P : List Con) (vs : List Int) (most gq base gr gs n np : Nat) (pa : Option Addr) (vsv vf : Value) (s' : Sea) (w : World) (D1 : List Dm) (a1 : Option Addr) (c1 pc1 : Nat) (s1 : Sea) (vf1 : Value) (wr : World) : Prop where
  box : wr.heap[gs]? = some (.cells #[.slice a1 n c1, .slice pa np pc1] 86 (0, 0))
  cap : n ≤ c1 ∧ c1 ≤ 9223372036854775807 ∧ np ≤ pc1 ∧ pc1 ≤ 9223372036854775807
  len : D1.length = n
  ds : DsK wr D1 a1
  sea : SeaB wr base gr vsv vf1 most s1
  loc : Loc w vf vf1
  fr : SeaFr gr vf w wr
  fo : s1.found.length ≤ most
  fu : s1.fuel ≤ 1000000
theorem FrL.below {ru : Con → List Dm → List Dm} {G : Con → List Dm → Bool} {P : List Con} {vs : List Int} {most gq base gr gs n np : Nat} {pa : Option Addr} {vsv vf : Value} {s' : Sea} {w : World} {D1 : List Dm} {a1 : Option Addr} {c1 pc1 : Nat} {s1 : Sea} {vf1 : Value} {wr w2 : World}
    (h : FrL ru G P vs most gq base gr gs n np pa vsv vf s' w D1 a1 c1 pc1 s1 vf1 wr) (hb : Below wr.heap.size wr w2) : FrL ru G P vs most gq base gr gs n np pa vsv vf s' w D1 a1 c1 pc1 s1 vf1 w2 :=
  ⟨(hb.block _ (Array.getElem?_eq_some_iff.1 h.box).1).trans h.box, h.cap, h.len, h.ds.below hb, ⟨(hb.block _ (Array.getElem?_eq_some_iff.1 h.sea.row).1).trans h.sea.row, h.sea.fo.below hb⟩, h.loc, h.fr.trans h.loc (SeaFr.of_below hb), h.fo, h.fu⟩
theorem DsK.kpx {t : Nat} {w w' : World} {D : List Dm} {a : Option Addr} (h : DsK w D a) (k : KpX t w w') (h1 : 63 ≠ t) (h2 : 23 ≠ t) : DsK w' D a := fun hne => by
  obtain ⟨g, o, e, b, q⟩ := h hne
  have z := k g 23 b h2
  exact ⟨g, o, e, b.keep z, fun i hi => by obtain ⟨u, p, r⟩ := q i hi; exact ⟨u, (cells_same z _).trans p, r.kpx k h1⟩⟩
theorem FrL.but {ru : Con → List Dm → List Dm} {G : Con → List Dm → Bool} {P : List Con} {vs : List Int} {most gq base gr gs n np : Nat} {pa : Option Addr} {vsv vf : Value} {s' : Sea} {w : World} {D1 : List Dm} {a1 : Option Addr} {c1 pc1 : Nat} {s1 s2 : Sea} {vf1 : Value} {wr w2 : World}
    (h : FrL ru G P vs most gq base gr gs n np pa vsv vf s' w D1 a1 c1 pc1 s1 vf1 wr) (hs : SeaB w2 base gr vsv vf1 most s2) (hb : But gr wr w2) (hf : s2.found.length ≤ most) (hu : s2.fuel ≤ 1000000) : FrL ru G P vs most gq base gr gs n np pa vsv vf s' w D1 a1 c1 pc1 s2 vf1 w2 := by
  have k := hb.kpx (t := 94) ⟨_, h.sea.row⟩
  exact ⟨(k gs 86 ⟨_, h.box⟩ (by decide)).trans h.box, h.cap, h.len, h.ds.kpx k (by decide) (by decide), hs, h.loc, h.fr.trans h.loc hb.sea, hf, hu⟩
/-- Behind another search: what it keeps. -/
theorem FrL.on {ru : Con → List Dm → List Dm} {G : Con → List Dm → Bool} {P : List Con} {vs : List Int} {most gq base gr gs n np : Nat} {pa : Option Addr} {vsv vf : Value} {s' : Sea} {w : World} {D1 : List Dm} {a1 : Option Addr} {c1 pc1 : Nat} {s1 s2 : Sea} {vf1 vf2 : Value} {wr w2 : World}
    (h : FrL ru G P vs most gq base gr gs n np pa vsv vf s' w D1 a1 c1 pc1 s1 vf1 wr) (hs : SeaB w2 base gr vsv vf2 most s2) (hl : Loc wr vf1 vf2) (hb : SeaFr gr vf1 wr w2) (hf : s2.found.length ≤ most) (hu : s2.fuel ≤ 1000000) : FrL ru G P vs most gq base gr gs n np pa vsv vf s' w D1 a1 c1 pc1 s2 vf2 w2 := by
  obtain ⟨us, o, _⟩ := h.sea.fo
  have k : ∀ b ty, Blk wr b ty → ty ≠ 94 → ty ≠ 30 → w2.heap[b]? = wr.heap[b]? := fun b ty x h1 h2 => hb.block b x.lt (fun e => (x.ne (e ▸ ⟨_, h.sea.row⟩) h1) rfl) fun e => (x.ne (o.blk e) h2) rfl
  refine ⟨(k gs 86 ⟨_, h.box⟩ (by decide) (by decide)).trans h.box, h.cap, h.len, fun hne => ?_, hs, h.loc.trans hl h.fr.size, h.fr.trans h.loc hb, hf, hu⟩
  obtain ⟨g, o, e, b, q⟩ := h.ds hne
  have z := k g 23 b (by decide) (by decide)
  refine ⟨g, o, e, b.keep z, fun i hi => ?_⟩
  obtain ⟨u, p, r⟩ := q i hi
  refine ⟨u, (cells_same z _).trans p, ?_⟩
  obtain ⟨a', c', e', m1, m2, hB⟩ := r.ex
  refine ⟨a', c', e', m1, m2, fun hd => ?_⟩
  obtain ⟨gd, od, ed, bd, kk⟩ := hB hd
  have zd := k gd 63 bd (by decide) (by decide)
  exact ⟨gd, od, ed, bd.keep zd, fun j hj => ⟨(cells_same zd _).trans (kk j hj).1, (cells_same zd _).trans (kk j hj).2⟩⟩
/-- What a state that was kept in a cell is. -/
def NwS (wr : World) (n np : Nat) (pa : Option Addr) (r : List Dm × Bool) (v10 v11 : Value) (W : World) : Prop :=
  ∃ g10 a m c a' m' c', v10 = .pointer (some ⟨g10, 0, none⟩) ∧ v11 = .bool r.2 ∧ W.heap[g10]? = some (.cells #[.slice a m c, .slice a' m' c'] 86 (0, 0)) ∧ (r.2 = true → StA W n pa np r.1 (.slice a m c) (.slice a' m' c')) ∧ Below wr.heap.size wr W
theorem NwS.of {wr w7 W9 : World} {n np g10 : Nat} {pa : Option Addr} {r : List Dm × Bool} {a a' : Option Addr} {m c m' c' : Nat} (hb : Below wr.heap.size wr w7) (hg : wr.heap.size ≤ g10) (h0 : w7.heap[g10]? = some (.cells #[.slice none 0 0, .slice none 0 0] 86 (0, 0)))
    (hW : ((w7.setCell ⟨g10, 0, none⟩ (.slice a m c)).setCell ⟨g10, 1, none⟩ (.slice a' m' c')) = W9) (hs : r.2 = true → StA w7 n pa np r.1 (.slice a m c) (.slice a' m' c')) : NwS wr n np pa r (.pointer (some ⟨g10, 0, none⟩)) (.bool r.2) W9 ∧ Below wr.heap.size wr W9 := by
  have B9 : Below wr.heap.size wr W9 := by rw [← hW]; exact below_set2 hb hg _ _
  have k : KpX 86 w7 W9 := fun b ty x ht => by rw [← hW]; exact oth_set2 (fun e => (x.ne (e ▸ ⟨_, h0⟩) ht) rfl) _ _
  refine ⟨⟨g10, a, m, c, a', m', c', rfl, rfl, by rw [← hW]; exact set2 h0, fun q => ?_, B9⟩, B9⟩
  obtain ⟨x, y, z, e1, e2, e3, e4, e5, e6⟩ := (hs q).ex
  exact ⟨x, y, z, e1, e2, e3, e4.kpx k (by decide) (by decide), e5, e6⟩
theorem StA.below {w w' : World} {n np : Nat} {pa : Option Addr} {D : List Dm} {vd vp : Value} (h : StA w n pa np D vd vp) (hb : Below w.heap.size w w') : StA w' n pa np D vd vp := by
  obtain ⟨x, y, z, e1, e2, e3, e4, e5, e6⟩ := h.ex
  exact ⟨x, y, z, e1, e2, e3, e4.below hb, e5, e6⟩
theorem FrL.boxed {ru : Con → List Dm → List Dm} {G : Con → List Dm → Bool} {P : List Con} {vs : List Int} {most gq base gr gs n np : Nat} {pa : Option Addr} {vsv vf : Value} {s' : Sea} {w : World} {D1 D3 : List Dm} {a1 a a' : Option Addr} {c1 pc1 m c m' c' : Nat} {s1 : Sea} {vf1 : Value} {w9 W10 : World}
    (h : FrL ru G P vs most gq base gr gs n np pa vsv vf s' w D1 a1 c1 pc1 s1 vf1 w9) (hg : w.heap.size ≤ gs) (hs : StA w9 n pa np D3 (.slice a m c) (.slice a' m' c'))
    (hW : ((w9.setCell ⟨gs, 0, none⟩ (.slice a m c)).setCell ⟨gs, 1, none⟩ (.slice a' m' c')) = W10) : FrL ru G P vs most gq base gr gs n np pa vsv vf s' w D3 a c c' s1 vf1 W10 := by
  obtain ⟨x, y, z, e1, e2, e3, e4, e5, e6, e7, e8⟩ := hs.ex
  simp only [Value.slice.injEq] at e1 e6
  obtain ⟨rfl, rfl, rfl⟩ := e1
  obtain ⟨rfl, rfl, rfl⟩ := e6
  have oth : ∀ b, b ≠ gs → W10.heap[b]? = w9.heap[b]? := fun b hb => by rw [← hW]; exact oth_set2 hb _ _
  have sz : w9.heap.size ≤ W10.heap.size := by rw [← hW]; exact (below_set2 (Below.refl 0 w9) (Nat.zero_le _) _ _).size
  have k : KpX 86 w9 W10 := fun b ty x ht => oth b fun e => (x.ne (e ▸ ⟨_, h.box⟩) ht) rfl
  have bt : But gs w9 W10 := by rw [← hW]; exact (But.setCell _ _ _ _).trans (But.setCell _ _ _ _)
  refine ⟨by rw [← hW]; exact set2 h.box, ⟨e2, e3, e7, e8⟩, e5, e4.kpx k (by decide) (by decide), ⟨(k gr 94 ⟨_, h.sea.row⟩ (by decide)).trans h.sea.row, ?_⟩, h.loc, ?_, h.fo, h.fu⟩
  · obtain ⟨us, o, l, q⟩ := h.sea.fo
    refine ⟨us, o.kept bt.grown ?_, l, fun i hi => by obtain ⟨u, p, r⟩ := q i hi; exact ⟨u, p, r.kpx k (by decide)⟩⟩
    by_cases e : vf1.ownBlock = none
    · exact .inl e
    · exact .inr fun e2 => ((o.blk e2).ne ⟨_, h.box⟩ (by decide)) rfl
  · exact ⟨bt.os.trans h.fr.os, bt.tape.trans h.fr.tape, bt.output.trans h.fr.output, Nat.le_trans h.fr.size sz, fun b hb h1 h2 => (oth b (by omega)).trans (h.fr.block b hb h1 h2)⟩
theorem span_ok {x : Int} (h1 : -16384 ≤ x) (h2 : x ≤ 16384) : Ok (spanD x x) := by
  intro i hi
  have e : spanD x x = [(x, x)] := if_neg (by omega)
  rw [e] at hi ⊢
  obtain rfl : i = 0 := by simpa using hi
  have s : sp [(x, x)] 0 = (x, x) := rfl
  unfold spanF
  rw [s, if_neg (by simp; omega), if_neg (by simp)]
theorem span_len (x y : Int) : (spanD x y).length ≤ 1 := by unfold spanD; split <;> simp
theorem from_any {w0 : World} {n np pc nv cv gr most gq : Nat} {pa va : Option Addr} {P : List Con} {vs : List Int} {ru : Con → List Dm → List Dm} {G : Con → List Dm → Bool} (h1000 : n ≤ 1000) (hP : PsV w0 P (.slice pa np pc)) (hgr : w0.heap.size ≤ gr) (hV : InA w0 vs va) (hvl : vs.length = nv) (hv1 : nv ≤ cv) (hv2 : cv ≤ 9223372036854775807) (hnv : nv ≤ 1000) (hvi : VsIn vs n) (E : Env ru G P n) (hmost : most ≤ 10000) : ∀ (f : Nat) {w : World} {D : List Dm} {a : Option Addr} {c0 pc1 : Nat} {vf : Value} {s s' : Sea}
    (h : DsK w D a) (hn : D.length = n) (hc : n ≤ c0) (hc2 : c0 ≤ 9223372036854775807) (hp1 : np ≤ pc1) (hp2 : pc1 ≤ 9223372036854775807) (hB : Below w0.heap.size w0 w) (hS : SeaB w w0.heap.size gr (.slice va nv cv) vf most s) (hfo : s.found.length ≤ most) (hfu : s.fuel ≤ 1000000) (hst : fromN ru G P vs most gq f D s = some s'),
    Calls Tryz.prog 64 #[.pointer (some ⟨gr, 0, none⟩), .agg #[.slice a n c0, .slice pa np pc1]] w (FrPost w0.heap.size gr (.slice va nv cv) vf most s' w) := by
  intro f
  induction f using Nat.strongRecOn with
  | _ f ih =>
    intro w D a c0 pc1 vf s s' h hn hc hc2 hp1 hp2 hB hS hfo hfu hst
    obtain ⟨R, hRr⟩ : ∃ R : Ending → World → Prop, R = FrPost w0.heap.size gr (.slice va nv cv) vf most s' w := ⟨_, rfl⟩
    rw [← hRr]
    have HR := Lib.hid hRr; have IH := Lib.hid ih
    have PS := Lib.hid hP; have VS := Lib.hid hV; have VL := Lib.hid hvl; have VI := Lib.hid hvi; have EN := Lib.hid E; have GR := Lib.hid hgr; have BW := Lib.hid hB
    have bb := below_new w (.cells #[.slice a n c0, .slice pa np pc1] 86)
    have LV : Hid (∀ g, vf.ownBlock = some g → w0.heap.size ≤ g) := fun g e => (hS.fo.lt e).1
    have NEG : Hid (gr < w.heap.size ∧ vf.ownBlock ≠ some w.heap.size) := ⟨(Array.getElem?_eq_some_iff.1 hS.row).1, fun e => by have := (hS.fo.lt e).2; omega⟩
    have J0 : Hid (∃ D1 a1 c1 pc1' s1 vf1, fromN ru G P vs most gq f D1 s1 = some s' ∧ FrL ru G P vs most gq w0.heap.size gr w.heap.size n np pa (.slice va nv cv) vf s' w D1 a1 c1 pc1' s1 vf1 (w.alloc (.cells #[.slice a n c0, .slice pa np pc1] 86))) :=
      ⟨D, a, c0, pc1, s, vf, hst, heap_alloc_new _ _, ⟨hc, hc2, hp1, hp2⟩, hn, h.below bb, ⟨(bb.block gr NEG.out.1).trans hS.row, hS.fo.below bb⟩, Loc.refl _ _, SeaFr.of_below bb, hfo, hfu⟩
    clear hRr ih hP hV hvl hvi E hgr hB bb hst h hn hS hfo hfu
    go_enter Tryz.func64, Tryz.ntmps64
    go_wp2_with fail
    generalize w.alloc (.cells #[.slice a n c0, .slice pa np pc1] 86) = W1 at *
    obtain ⟨gs, hgs⟩ : ∃ gs, w.heap.size = gs := ⟨_, rfl⟩
    rw [hgs] at J0 NEG ⊢
    have GS := Lib.hid hgs
    clear hgs
    go_loopg [] f (fun gk wr => gk ≤ f ∧ ∃ D1 a1 c1 pc1' s1 vf1, fromN ru G P vs most gq gk D1 s1 = some s' ∧ FrL ru G P vs most gq w0.heap.size gr gs n np pa (.slice va nv cv) vf s' w D1 a1 c1 pc1' s1 vf1 wr)
    case atStart => exact ⟨Nat.le_refl _, J0.out⟩
    case round =>
      clear J0
      obtain ⟨hgf, D1, a1, c1, pc2, s1, vf1, hs, hL⟩ := hrel
      have L := Lib.hid hL
      obtain ⟨k1, k2, k3, k4⟩ := hL.cap
      obtain ⟨fa, fc, rfl, lf1, lf2⟩ := hL.sea.fo.sh
      obtain ⟨p0, p1, p2, p3, p4, p5, p6⟩ := three_cells7 hL.sea.row
      have s0 : wr.cell? ⟨gs, 0, none⟩ = some (.slice a1 n c1) := by rw [cell_of_row _ _ _ _ _ _ hL.box]; rfl
      have s1' : wr.cell? ⟨gs, 1, none⟩ = some (.slice pa np pc2) := by rw [cell_of_row _ _ _ _ _ _ hL.box]; rfl
      have lm1 := hL.fo
      clear hL p1 p2 p4
      cases gk with
      | zero => simp [fromN] at hs
      | succ f1 =>
        have HF1 := Lib.hid hgf
        clear hgf
        by_cases hend : ¬ (s1.found.length < most) ∨ s1.out = true
        · have SE : Hid (s' = s1) := by
            simp only [fromN, if_pos hend] at hs
            exact (Option.some.inj hs).symm
          clear hs
          by_cases hm : s1.found.length < most
          · have ho : s1.out = true := hend.resolve_left (fun q => q hm)
            rw [ho] at p6
            have hm' : decide (s1.found.length < most) = true := by simp [hm]
            clear hend ho
            go_upto_region 1 with fail
            go_quiet (fail)
            go_wp2_with fail
            go_end0
            rw [HR.out]
            have Q : Below wr.heap.size wr (wr.drewN nq) := Qt.below ⟨nq, rfl⟩
            exact ⟨rfl, _, by rw [SE.out]; exact ⟨L.out.sea.row, L.out.sea.fo.below Q⟩, L.out.loc, L.out.fr.trans L.out.loc (SeaFr.of_below Q)⟩
          · have hm' : decide (s1.found.length < most) = false := by simp; omega
            clear hend
            go_upto_region 1 with fail
            go_quiet (fail)
            go_wp2_with fail
            go_end0
            rw [HR.out]
            have Q : Below wr.heap.size wr (wr.drewN nq) := Qt.below ⟨nq, rfl⟩
            exact ⟨rfl, _, by rw [SE.out]; exact ⟨L.out.sea.row, L.out.sea.fo.below Q⟩, L.out.loc, L.out.fr.trans L.out.loc (SeaFr.of_below Q)⟩
        · have hm : s1.found.length < most := Classical.byContradiction fun q => hend (Or.inl q)
          have ho : s1.out = false := by cases q : s1.out with | false => rfl | true => exact absurd (Or.inr q) hend
          rw [ho] at p6
          have hm' : decide (s1.found.length < most) = true := by simp [hm]
          simp only [fromN, if_neg hend] at hs
          have HO := Lib.hid ho
          have HS := Lib.hid hs
          clear hend ho hs
          go_upto_region 1 with fail
          go_quiet (fail)
          have Q : Below wr.heap.size wr (wr.drewN nq) := Qt.below ⟨nq, rfl⟩
          have L := Lib.hid (L.out.below Q)
          have hs := HS.out
          generalize wr.drewN nq = W2 at *
          clear s0 s1' p0 p3 p5 p6 Q HS
          by_cases hok : okD D1 = false
          · rw [if_pos hok] at hs; simp at hs
          · rw [if_neg hok] at hs
            have OK : Hid (okD D1 = true) := by cases q : okD D1 with | false => exact absurd q hok | true => exact rfl
            have HS := Lib.hid hs
            clear hs hok
            go_upto_region 2 with fail
            obtain ⟨p0, p1, p2, p3, p4, p5, p6⟩ := three_cells7 L.out.sea.row
            have s0 : W2.cell? ⟨gs, 0, none⟩ = some (.slice a1 n c1) := by rw [cell_of_row _ _ _ _ _ _ L.out.box]; rfl
            have s1' : W2.cell? ⟨gs, 1, none⟩ = some (.slice pa np pc2) := by rw [cell_of_row _ _ _ _ _ _ L.out.box]; rfl
            have BW2 : Hid (Below w0.heap.size w0 W2) := L.out.fr.below GR.out LV.out BW.out.size BW.out
            have CH : ∀ W, Below W2.heap.size W2 W → Calls Tryz.prog 94 #[.agg #[.slice a1 n c1, .slice pa np pc2], .slice va nv cv, .int .i64 0, .int .i64 0] W (ChPost D1 vs n W) := fun W hW =>
              choose_any (L.out.ds.below hW).a L.out.len k1 k2 (VS.out.below BW2.out |>.below hW) VL.out hv1 hv2 VI.out fun v hv => (okD_at OK.out (by rw [L.out.len]; exact hv)).1
            have CH := Lib.hid CH
            cases hvf : varF D1 vs with
            | none =>
              refine Rg.s0 20 [] fun WD DW => ?_
              refine Rg.t 0 ?_
              refine Rg.t 1 ?_
              refine Rg.t 2 ?_
              refine Rg.t 3 ?_
              refine Rg.t 4 ?_
              refine Rg.t 5 ?_
              refine Rg.t 6 ?_
              refine Rg.t 7 ?_
              refine Rg.t 8 ?_
              refine Rg.t 9 ?_
              refine Rg.t 10 ?_
              refine Rg.t 11 ?_
              refine Rg.t 12 ?_
              refine Rg.c1 13 fun K' hK => ?_
              go_simp
              go_at_call 94
              refine (CH.out WD DW).mono ?_
              intro e w3 hC
              simp only [ChPost, hvf] at hC
              obtain ⟨rfl, hb⟩ := hC
              have D3 := over DW hb
              refine Rg.e1 hK D3 ?_
              clear hK K' hb
              refine Rg.t 14 ?_
              refine Rg.t 15 ?_
              refine Rg.t 16 ?_
              refine Rg.t 17 ?_
              refine Rg.c1 18 fun K' hK => ?_
              go_simp
              refine Rg.e1 hK D3 ?_
              clear hK K'
              refine Rg.c1 19 fun K' hK => ?_
              go_simp
              refine Rg.e1 hK D3 ?_
              clear hK K'
              refine Rg.l1 ?_
              go_simp
              have L := Lib.hid (L.out.below D3)
              have BW3 : Hid (Below w0.heap.size w0 w3) := over BW2.out D3
              have hs := HS.out
              simp only [hvf] at hs
              have SE : Hid (s' = { s1 with found := s1.found ++ [vs.map fun v => leastF (dm D1 v.toNat)] }) := (Option.some.inj hs).symm
              clear hs HS hvf CH D3 DW s0 s1' p0 p1 p2 p3 p4 p5 p6 BW2
              obtain ⟨p0, p1, p2, p3, p4, p5, p6⟩ := three_cells7 L.out.sea.row
              go_upto_region 5 with fail
              clear p1 p2 p3 p4 p5 p6
              go_wp2_with fail
              go_loopw [7, 56] (fun v7 v56 wr2 => ∃ k : Nat, k ≤ nv ∧ v56 = .int .i64 (k : Int) ∧ InO wr2 w3.heap.size v7 ((vs.map fun v => leastF (dm D1 v.toNat)).take k) ∧ Below w3.heap.size w3 wr2) (fun _ v56 _ => nv - (intOf v56).toNat)
              case atStart => exact ⟨0, Nat.zero_le _, rfl, InO.nil _ _, Below.refl _ _⟩
              obtain ⟨k, hk, rfl, hO, hBr⟩ := hrel
              have O := Lib.hid hO; have BR := Lib.hid hBr
              clear hO hBr p0
              by_cases hlt : k < nv
              · obtain ⟨gv, ov, rfl, dd⟩ := VS.out (by intro e; have := VL.out; rw [e] at this; simp at this; omega)
                have y0 := dd k (by rw [VL.out]; exact hlt)
                clear dd
                have y0 := cell_later BR.out (Nat.le_refl _) (cell_later BW3.out (Nat.le_refl _) y0)
                obtain ⟨e1, e2⟩ := VI.out k (by rw [VL.out]; exact hlt)
                have TK : Hid ((vs.map fun v => leastF (dm D1 v.toNat)).take (k + 1) = (vs.map fun v => leastF (dm D1 v.toNat)).take k ++ [leastF (dm D1 (vs.getD k 0).toNat)]) := by
                  show _ = _
                  rw [List.take_add_one, List.getElem?_map, List.getD_eq_getElem?_getD, List.getElem?_eq_getElem (by rw [VL.out]; exact hlt)]; rfl
                have TL : Hid (((vs.map fun v => leastF (dm D1 v.toNat)).take k).length ≤ 1000) := by show _ ≤ _; simp; omega
                rw [e1] at y0
                obtain ⟨v, hv⟩ : ∃ v, (vs.getD k 0).toNat = v := ⟨_, rfl⟩
                rw [hv] at y0 e2 TK
                clear e1 hv
                obtain ⟨gd, od, u, rfl, q0, q1⟩ := L.out.ds.a.at_ L.out.len e2
                have q0 := cell_later BR.out (Nat.le_refl _) q0
                have q1 := q1.below BR.out
                obtain ⟨ua, uc, rfl, us⟩ := q1.s
                have LE := Lib.hid (least_any us (List.length_pos_iff.2 (okD_at OK.out (by rw [L.out.len]; exact e2)).1))
                have s0 := cell_later BR.out (Nat.le_refl _) (show w3.cell? ⟨gs, 0, none⟩ = some (.slice (some ⟨gd, od, none⟩) n c1) by rw [cell_of_row _ _ _ _ _ _ L.out.box]; rfl)
                have BZ : Hid (w3.heap.size ≤ wr.heap.size) := BR.out.size
                clear q1 us
                go_wp2_with (first | (go_at_call 95; refine LE.out.mono ?_; rintro e w' ⟨rfl, hw⟩; have hw := hw.symm; subst hw) | (at_builtin; refine wpList_pushI rfl _ _ rfl w3.heap.size wr _ _ (leastF (dm D1 v)) rfl rfl rfl O.out BZ.out (by have := TL.out; omega) ?_; intro v8 w8 hO8 hB8 hP8; have O8 := Lib.hid hO8; have B8 := Lib.hid hB8; clear hO8 hB8 hP8))
                go_roundw
                case rel => exact ⟨k + 1, by omega, by go_num, by rw [TK.out]; exact O8.out, BR.out.trans B8.out⟩
                simp [intOf]; omega
              · obtain rfl : nv = k := by omega
                have TA : Hid ((vs.map fun v => leastF (dm D1 v.toNat)).take nv = vs.map fun v => leastF (dm D1 v.toNat)) := by show _ = _; rw [List.take_of_length_le (by simp; have := VL.out; omega)]
                have LV4 := Lib.hid (O.out.v)
                rw [TA.out] at LV4
                obtain ⟨la, lc, rfl, ll1, ll2, -⟩ := LV4.out.ex
                have LV4 : Hid (InV wr (vs.map fun v => leastF (dm D1 v.toNat)) (.slice la vs.length lc)) := by show InV _ _ _; have := LV4.out; rwa [List.length_map] at this
                have L4 := Lib.hid (L.out.below BR.out)
                clear L O TA BR
                obtain ⟨p0, p1, p2, p3, p4, p5, p6⟩ := three_cells7 L4.out.sea.row
                have fz := seven L4.out.sea.row 5
                clear p0 p1 p2 p3 p4 p6
                have L4S : Hid (w0.heap.size ≤ wr.heap.size) := by have := L4.out.fr.size; have := BW.out.size; show _ ≤ _; omega
                have GRL : Hid (gr < wr.heap.size) := (Array.getElem?_eq_some_iff.1 L4.out.sea.row).1
                have VNE : Hid ((Value.slice fa s1.found.length fc).ownBlock ≠ some gr) := fun e => by
                  obtain ⟨us, o, _⟩ := L4.out.sea.fo
                  exact ((o.blk e).ne ⟨_, L4.out.sea.row⟩ (by decide)) rfl
                go_wp2_with (at_builtin; refine wpList_pushF rfl _ _ rfl w0.heap.size wr (.slice fa s1.found.length fc) s1.found (vs.map fun v => leastF (dm D1 v.toNat)) _ rfl rfl rfl L4.out.sea.fo LV4.out L4S.out (by omega) ?_; go_loud (intro v8 w8 hO8 hB8 hP8; have p5 : w8.cell? ⟨gr, 5, none⟩ = some (.slice fa s1.found.length fc) := (cells_same (hP8.keep gr GRL.out VNE.out) 5).trans p5; have fz : w8.frozen? ⟨gr, 5, none⟩ = false := seven ((hP8.keep gr GRL.out VNE.out).trans L4.out.sea.row) 5; have O8 := Lib.hid hO8; have B8 := Lib.hid hB8; have P8 := Lib.hid hP8; obtain ⟨ga, gc, rfl, ge1, ge2⟩ := hO8.sh; clear hO8 hB8 hP8))
                have O9 : FoO w8 w0.heap.size (.slice ga (s1.found.length + 1) gc) (s1.found ++ [vs.map fun v => leastF (dm D1 v.toNat)]) := by have := O8.out; simpa using this
                have P9 : Psh wr w8 (.slice fa s1.found.length fc) (.slice ga (s1.found.length + 1) gc) := by have := P8.out; simpa using this
                obtain ⟨W9, hW9⟩ : ∃ W9, w8.setCell ⟨gr, 5, none⟩ (.slice ga (s1.found.length + 1) gc) = W9 := ⟨_, rfl⟩
                have row8 := (P9.keep gr GRL.out VNE.out).trans L4.out.sea.row
                have B9 : But gr w8 W9 := by rw [← hW9]; exact But.setCell _ _ _ _
                have F9 : SeaFr gr (.slice fa s1.found.length fc) wr W9 := ⟨B9.os.trans B8.out.os, B9.tape.trans B8.out.tape, B9.output.trans B8.out.output, Nat.le_trans P9.size B9.size, fun b hb h1 h2 => (B9.block b (by have := P9.size; omega) h1).trans (P9.keep b hb h2)⟩
                refine bodyPost_ret (v := .tuple #[]) (results_none rfl _ _ _) rfl ?_
                rw [HR.out]
                refine ⟨rfl, .slice ga (s1.found.length + 1) gc, ?_, L4.out.loc.trans P9.own L4.out.fr.size, L4.out.fr.trans L4.out.loc ?_⟩
                · rw [SE.out]
                  rw [hW9]
                  exact ⟨by rw [← hW9]; exact set7_5 row8, O9.but B9 ⟨_, row8⟩⟩
                · rw [hW9]; exact F9
            | some v =>
              refine Rg.s0 20 [] fun WD DW => ?_
              refine Rg.t 0 ?_
              refine Rg.t 1 ?_
              refine Rg.t 2 ?_
              refine Rg.t 3 ?_
              refine Rg.t 4 ?_
              refine Rg.t 5 ?_
              refine Rg.t 6 ?_
              refine Rg.t 7 ?_
              refine Rg.t 8 ?_
              refine Rg.t 9 ?_
              refine Rg.t 10 ?_
              refine Rg.t 11 ?_
              refine Rg.t 12 ?_
              refine Rg.c1 13 fun K' hK => ?_
              go_simp
              go_at_call 94
              refine (CH.out WD DW).mono ?_
              intro e w3 hC
              simp only [ChPost, hvf] at hC
              obtain ⟨⟨rfl, vlt⟩, hb⟩ := hC
              have D3 := over DW hb
              refine Rg.e1 hK D3 ?_
              clear hK K' hb
              refine Rg.t 14 ?_
              refine Rg.t 15 ?_
              refine Rg.t 16 ?_
              refine Rg.t 17 ?_
              refine Rg.c1 18 fun K' hK => ?_
              go_simp
              refine Rg.e1 hK D3 ?_
              clear hK K'
              refine Rg.c1 19 fun K' hK => ?_
              go_simp
              refine Rg.e1 hK D3 ?_
              clear hK K'
              refine Rg.l1 ?_
              go_simp
              have L := Lib.hid (L.out.below D3)
              have BW3 : Hid (Below w0.heap.size w0 w3) := over BW2.out D3
              have VLT := Lib.hid vlt
              have hs := HS.out
              simp only [hvf] at hs
              have OKV := Lib.hid (okD_at OK.out (show v < D1.length by rw [L.out.len]; exact vlt))
              clear HS hvf CH D3 DW s0 s1' p0 p1 p2 p3 p4 p5 p6 BW2 vlt
              have SP := Lib.hid (step_any L.out.sea L.out.fu)
              have SF := Lib.hid (step_fuel s1)
              cases hst1 : s1.step.1 with
              | false =>
                rw [if_pos hst1] at hs
                have SE : Hid (s' = s1.step.2) := (Option.some.inj hs).symm
                clear hs
                go_wp2_with (go_at_call 96; refine SP.out.mono ?_; rintro e w4 ⟨rfl, hs4, hb4⟩; have S4 := Lib.hid hs4; have B4 := Lib.hid hb4; clear hs4 hb4; rw [hst1])
                refine bodyPost_ret (v := .tuple #[]) (results_none rfl _ _ _) rfl ?_
                rw [HR.out]
                exact ⟨rfl, _, by rw [SE.out]; exact S4.out, L.out.loc, L.out.fr.trans L.out.loc B4.out.sea⟩
              | true =>
                rw [if_neg (by rw [hst1]; simp)] at hs
                have HS := Lib.hid hs
                have HT := Lib.hid hst1
                clear hs hst1
                go_upto_region 12 with (go_at_call 96; refine SP.out.mono ?_; rintro e w4 ⟨rfl, hs4, hb4⟩; have S4 := Lib.hid hs4; have B4 := Lib.hid hb4; clear hs4 hb4; rw [HT.out])
                have L4 := Lib.hid (L.out.but S4.out B4.out (by rw [SF.out.2]; omega) (by have := SF.out.1; have := L.out.fu; omega))
                clear L S4 B4 SP
                have hs := HS.out
                cases hn1 : narF ru G P gq D1 v (spanD (leastF (dm D1 v)) (leastF (dm D1 v))) with
                | none => rw [hn1] at hs; simp at hs
                | some r1 =>
                  obtain ⟨D2, is1⟩ := r1
                  rw [hn1] at hs
                  have HS := Lib.hid hs
                  have NF1 := Lib.hid hn1
                  clear hs hn1
                  have BW4 : Hid (Below w0.heap.size w0 w4) := L4.out.fr.below GR.out LV.out BW.out.size BW.out
                  have PSX := Lib.hid ((PS.out.slice k3 k4).kp (KpT.of_below BW4.out))
                  have s0 : w4.cell? ⟨gs, 0, none⟩ = some (.slice a1 n c1) := by rw [cell_of_row _ _ _ _ _ _ L4.out.box]; rfl
                  have s1' : w4.cell? ⟨gs, 1, none⟩ = some (.slice pa np pc2) := by rw [cell_of_row _ _ _ _ _ _ L4.out.box]; rfl
                  go_cut [10, 11] (fun v10 v11 W => NwS w4 n np pa (D2, is1) v10 v11 W)
                  case first =>
                    refine Rg.s0 11 [] fun WD DW => ?_
                    refine Rg.t 0 ?_
                    refine Rg.t 1 ?_
                    refine Rg.t 2 ?_
                    refine Rg.t 3 ?_
                    refine Rg.c2 4 9 (fun K' hK => ?_) fun K' hK => ?_
                    · go_simp
                      go_at_call 98
                      refine (span_any _ _ WD).mono ?_
                      rintro e wc1 ⟨v98, rfl, dv98, hb⟩
                      obtain ⟨sa, sc, rfl, -⟩ := dv98.s
                      have Dc1 := over DW hb
                      refine Rg.e1 hK Dc1 ?_
                      clear hK K' hb
                      refine Rg.c2 5 9 (fun K' hK => ?_) fun K' hK => ?_
                      · go_simp
                        go_at_call 97
                        refine (narrowed_any (L4.out.ds.below Dc1) L4.out.len k1 k2 h1000 (PSX.out.kp (KpT.of_below Dc1)) k3 k4 VLT.out dv98 EN.out NF1.out).mono ?_
                        rintro e wc2 ⟨⟨vd, vp, rfl, hst, ⟨na, nm, nc, rfl⟩, ⟨na', nm', nc', rfl⟩⟩, hb⟩
                        have Dc2 := over Dc1 hb
                        refine Rg.e1 hK Dc2 ?_
                        clear hK K' hb
                        refine Rg.t 6 ?_
                        refine Rg.t 7 ?_
                        refine Rg.t 8 ?_
                        refine Rg.c1 9 fun K' hK => ?_
                        have bn := below_new wc2 (.cells #[.slice none 0 0, .slice none 0 0] 86)
                        have h10 := heap_alloc_new wc2 (.cells #[.slice none 0 0, .slice none 0 0] 86)
                        have hg10 : w4.heap.size ≤ wc2.heap.size := Dc2.size
                        have Da3 := over Dc2 bn
                        have hst := fun q => (hst q).below bn
                        (try simp only [zA, zB, zC])
                        go_simp
                        refine Rg.e1 hK Da3 ?_
                        clear hK K'
                        generalize wc2.alloc (.cells #[.slice none 0 0, .slice none 0 0] 86) = wa3 at *
                        generalize wc2.heap.size = g10 at *
                        obtain ⟨W9, hW9⟩ : ∃ W9, ((wa3.setCell ⟨g10, 0, none⟩ (.slice na nm nc)).setCell ⟨g10, 1, none⟩ (.slice na' nm' nc')) = W9 := ⟨_, rfl⟩
                        have FIN := Lib.hid (NwS.of Da3 hg10 h10 hW9 hst)
                        have z0 : wa3.cell? ⟨g10, 0, none⟩ = some (.slice none 0 0) := by rw [cell_of_row _ _ _ _ _ _ h10]; rfl
                        have z1 : wa3.cell? ⟨g10, 1, none⟩ = some (.slice none 0 0) := by rw [cell_of_row _ _ _ _ _ _ h10]; rfl
                        have f0 : wa3.frozen? ⟨g10, 0, none⟩ = false := by simp [World.frozen?, h10]
                        have f1 : wa3.frozen? ⟨g10, 1, none⟩ = false := by simp [World.frozen?, h10]
                        refine Rg.c1 10 fun K' hK => ?_
                        (try simp only [zA, zB, zC])
                        go_simp
                        refine Rg.e1 hK FIN.out.2 ?_
                        clear hK K' z0 z1 f0 f1 hW9 h10 hst
                        refine Rg.l1 ?_
                        go_simp
                        go_wp2_with fail
                        go_meet
                        case rel => exact FIN.out.1
                      · have bn := below_new wc1 (.cells #[.slice none 0 0, .slice none 0 0] 86)
                        have h10 := heap_alloc_new wc1 (.cells #[.slice none 0 0, .slice none 0 0] 86)
                        have hg10 : w4.heap.size ≤ wc1.heap.size := Dc1.size
                        have Da4 := over Dc1 bn
                        have dv98 := dv98.below bn
                        (try simp only [zA, zB, zC])
                        go_simp
                        refine Rg.e1 hK Da4 ?_
                        clear hK K'
                        generalize wc1.alloc (.cells #[.slice none 0 0, .slice none 0 0] 86) = wa4 at *
                        generalize wc1.heap.size = g10 at *
                        refine Rg.c1 5 fun K' hK => ?_
                        go_simp
                        go_at_call 97
                        refine (narrowed_any (L4.out.ds.below Da4) L4.out.len k1 k2 h1000 (PSX.out.kp (KpT.of_below Da4)) k3 k4 VLT.out dv98 EN.out NF1.out).mono ?_
                        rintro e wc5 ⟨⟨vd, vp, rfl, hst, ⟨na, nm, nc, rfl⟩, ⟨na', nm', nc', rfl⟩⟩, hb⟩
                        have Dc5 := over Da4 hb
                        have h10 := (hb.block g10 (Array.getElem?_eq_some_iff.1 h10).1).trans h10
                        refine Rg.e1 hK Dc5 ?_
                        clear hK K' hb
                        refine Rg.t 6 ?_
                        refine Rg.t 7 ?_
                        refine Rg.t 8 ?_
                        obtain ⟨W9, hW9⟩ : ∃ W9, ((wc5.setCell ⟨g10, 0, none⟩ (.slice na nm nc)).setCell ⟨g10, 1, none⟩ (.slice na' nm' nc')) = W9 := ⟨_, rfl⟩
                        have FIN := Lib.hid (NwS.of Dc5 hg10 h10 hW9 hst)
                        have z0 : wc5.cell? ⟨g10, 0, none⟩ = some (.slice none 0 0) := by rw [cell_of_row _ _ _ _ _ _ h10]; rfl
                        have z1 : wc5.cell? ⟨g10, 1, none⟩ = some (.slice none 0 0) := by rw [cell_of_row _ _ _ _ _ _ h10]; rfl
                        have f0 : wc5.frozen? ⟨g10, 0, none⟩ = false := by simp [World.frozen?, h10]
                        have f1 : wc5.frozen? ⟨g10, 1, none⟩ = false := by simp [World.frozen?, h10]
                        refine Rg.c1 10 fun K' hK => ?_
                        (try simp only [zA, zB, zC])
                        go_simp
                        refine Rg.e1 hK FIN.out.2 ?_
                        clear hK K' z0 z1 f0 f1 hW9 h10 hst
                        refine Rg.l1 ?_
                        go_simp
                        go_wp2_with fail
                        go_meet
                        case rel => exact FIN.out.1
                    · have bn := below_new WD (.cells #[.slice none 0 0, .slice none 0 0] 86)
                      have h10 := heap_alloc_new WD (.cells #[.slice none 0 0, .slice none 0 0] 86)
                      have hg10 : w4.heap.size ≤ WD.heap.size := DW.size
                      have Da6 := over DW bn
                      (try simp only [zA, zB, zC])
                      go_simp
                      refine Rg.e1 hK Da6 ?_
                      clear hK K'
                      generalize WD.alloc (.cells #[.slice none 0 0, .slice none 0 0] 86) = wa6 at *
                      generalize WD.heap.size = g10 at *
                      refine Rg.c1 4 fun K' hK => ?_
                      go_simp
                      go_at_call 98
                      refine (span_any _ _ wa6).mono ?_
                      rintro e wc7 ⟨v98, rfl, dv98, hb⟩
                      obtain ⟨sa, sc, rfl, -⟩ := dv98.s
                      have Dc7 := over Da6 hb
                      have h10 := (hb.block g10 (Array.getElem?_eq_some_iff.1 h10).1).trans h10
                      refine Rg.e1 hK Dc7 ?_
                      clear hK K' hb
                      refine Rg.c1 5 fun K' hK => ?_
                      go_simp
                      go_at_call 97
                      refine (narrowed_any (L4.out.ds.below Dc7) L4.out.len k1 k2 h1000 (PSX.out.kp (KpT.of_below Dc7)) k3 k4 VLT.out dv98 EN.out NF1.out).mono ?_
                      rintro e wc8 ⟨⟨vd, vp, rfl, hst, ⟨na, nm, nc, rfl⟩, ⟨na', nm', nc', rfl⟩⟩, hb⟩
                      have Dc8 := over Dc7 hb
                      have h10 := (hb.block g10 (Array.getElem?_eq_some_iff.1 h10).1).trans h10
                      refine Rg.e1 hK Dc8 ?_
                      clear hK K' hb
                      refine Rg.t 6 ?_
                      refine Rg.t 7 ?_
                      refine Rg.t 8 ?_
                      obtain ⟨W9, hW9⟩ : ∃ W9, ((wc8.setCell ⟨g10, 0, none⟩ (.slice na nm nc)).setCell ⟨g10, 1, none⟩ (.slice na' nm' nc')) = W9 := ⟨_, rfl⟩
                      have FIN := Lib.hid (NwS.of Dc8 hg10 h10 hW9 hst)
                      have z0 : wc8.cell? ⟨g10, 0, none⟩ = some (.slice none 0 0) := by rw [cell_of_row _ _ _ _ _ _ h10]; rfl
                      have z1 : wc8.cell? ⟨g10, 1, none⟩ = some (.slice none 0 0) := by rw [cell_of_row _ _ _ _ _ _ h10]; rfl
                      have f0 : wc8.frozen? ⟨g10, 0, none⟩ = false := by simp [World.frozen?, h10]
                      have f1 : wc8.frozen? ⟨g10, 1, none⟩ = false := by simp [World.frozen?, h10]
                      refine Rg.c1 10 fun K' hK => ?_
                      (try simp only [zA, zB, zC])
                      go_simp
                      refine Rg.e1 hK FIN.out.2 ?_
                      clear hK K' z0 z1 f0 f1 hW9 h10 hst
                      refine Rg.l1 ?_
                      go_simp
                      go_wp2_with fail
                      go_meet
                      case rel => exact FIN.out.1
                  clear s0 s1'
                  obtain ⟨g10, na, nm, nc, na', nm', nc', rfl, rfl, h10, hst, hb5⟩ := hcut
                  have L5 := Lib.hid (L4.out.below hb5)
                  have BW5 : Hid (Below w0.heap.size w0 wc) := over BW4.out hb5
                  have H10 := Lib.hid h10; have HST := Lib.hid hst
                  clear h10 hst hb5 L4 BW4 PSX
                  obtain ⟨w5, rfl⟩ : ∃ w5 : World, w5 = wc := ⟨_, rfl⟩
                  have hs := HS.out
                  simp only at hs
                  cases h3 : (if is1 = true then fromN ru G P vs most gq f1 D2 s1.step.2 else some s1.step.2) with
                  | none => rw [h3] at hs; simp at hs
                  | some s3 =>
                    rw [h3] at hs
                    simp only at hs
                    have HS := Lib.hid hs
                    have H3 := Lib.hid h3
                    clear hs h3
                    go_upto_if 92 with fail
                    go_cut [] (fun W => ∃ vf3, FrL ru G P vs most gq w0.heap.size gr gs n np pa (.slice va nv cv) vf s' w D1 a1 c1 pc2 s3 vf3 W)
                    case first =>
                      have h3 := H3.out
                      cases is1 with
                      | true =>
                        rw [if_pos rfl] at h3
                        obtain ⟨x, y, z, e1, e2, e3, e4, e5, e6, e7, e8⟩ := (HST.out rfl).ex
                        simp only [Value.slice.injEq] at e1 e6
                        obtain ⟨rfl, rfl, rfl⟩ := e1
                        obtain ⟨rfl, rfl, rfl⟩ := e6
                        have IV := Lib.hid (fromN_inv h3 L5.out.fo)
                        have CA := Lib.hid (IH.out f1 (by have := HF1.out; omega) e4 e5 e2 e3 e7 e8 BW5.out L5.out.sea L5.out.fo L5.out.fu h3)
                        have t0 : w5.cell? ⟨g10, 0, none⟩ = some (.slice na nm nc) := by rw [cell_of_row _ _ _ _ _ _ H10.out]; rfl
                        have t1 : w5.cell? ⟨g10, 1, none⟩ = some (.slice na' nm' nc') := by rw [cell_of_row _ _ _ _ _ _ H10.out]; rfl
                        clear h3 e4 e5 HST
                        go_wp2_with (go_at_call 64; refine CA.out.mono ?_; rintro e w6 ⟨rfl, vf3, hs3, hl3, hf3⟩; have S3 := Lib.hid hs3; have L3 := Lib.hid hl3; have F3 := Lib.hid hf3; clear hs3 hl3 hf3)
                        go_meet
                        case rel => exact ⟨vf3, L5.out.on S3.out L3.out F3.out IV.out.1 (by have := IV.out.2; have := L5.out.fu; omega)⟩
                      | false =>
                        rw [if_neg (by decide)] at h3
                        have e3 := Option.some.inj h3
                        subst e3
                        clear h3
                        go_wp2_with fail
                        go_meet
                        case rel => exact ⟨_, L5.out⟩
                    obtain ⟨vf3, hL7⟩ := hcut
                    have L7 := Lib.hid hL7
                    clear hL7 L5 BW5 H10 HST H3 HT SF NF1
                    obtain ⟨w7, rfl⟩ : ∃ w7 : World, w7 = wc := ⟨_, rfl⟩
                    go_upto_region 15 with fail
                    obtain ⟨p0, p1, p2, p3, p4, p5, p6⟩ := three_cells7 L7.out.sea.row
                    obtain ⟨fa3, fc3, rfl, lf31, lf32⟩ := L7.out.sea.fo.sh
                    clear p0 p1 p2 p4
                    have hs := HS.out
                    by_cases hend : ¬ (s3.found.length < most) ∨ s3.out = true
                    · rw [if_pos hend] at hs
                      have SE : Hid (s' = s3) := (Option.some.inj hs).symm
                      clear hs HS
                      by_cases hm : s3.found.length < most
                      · have ho : s3.out = true := hend.resolve_left (fun q => q hm)
                        rw [ho] at p6
                        have hm' : decide (most ≤ s3.found.length) = false := by simp; omega
                        clear hend ho
                        go_quiet (fail)
                        go_wp2_with fail
                        refine bodyPost_ret (v := .tuple #[]) (results_none rfl _ _ _) rfl ?_
                        rw [HR.out]
                        have L8 := L7.out.below (Qt.below ⟨nq, rfl⟩)
                        exact ⟨rfl, _, by rw [SE.out]; exact L8.sea, L8.loc, L8.fr⟩
                      · have hm' : decide (most ≤ s3.found.length) = true := by simp; omega
                        clear hend
                        go_quiet (fail)
                        go_wp2_with fail
                        refine bodyPost_ret (v := .tuple #[]) (results_none rfl _ _ _) rfl ?_
                        rw [HR.out]
                        have L8 := L7.out.below (Qt.below ⟨nq, rfl⟩)
                        exact ⟨rfl, _, by rw [SE.out]; exact L8.sea, L8.loc, L8.fr⟩
                    · rw [if_neg hend] at hs
                      have hm : s3.found.length < most := Classical.byContradiction fun q => hend (Or.inl q)
                      have ho : s3.out = false := by cases q : s3.out with | false => rfl | true => exact absurd (Or.inr q) hend
                      rw [ho] at p6
                      have hm' : decide (most ≤ s3.found.length) = false := by simp; omega
                      have SF3 := Lib.hid (step_fuel s3)
                      have SP3 := step_any (L7.out.below (Below.refl _ _).drew).sea L7.out.fu
                      have SP3 := Lib.hid SP3
                      clear hend ho
                      have HS := Lib.hid hs
                      clear hs
                      go_cut [116] (fun v116 W => v116 = .bool (!s3.step.1) ∧ SeaB W w0.heap.size gr (.slice va nv cv) (.slice fa3 s3.found.length fc3) most s3.step.2 ∧ But gr w7 W)
                      case first =>
                        go_region_with ((go_at_call 96; go_loud (refine SP3.out.mono ?_; rintro e w8 ⟨rfl, hs8, hb8⟩; have S8 := Lib.hid hs8; have B8 := Lib.hid hb8; clear hs8 hb8)))
                        all_goals
                          go_wp2_with fail
                          go_meet
                          case rel => exact ⟨rfl, S8.out, (But.of_below (Below.refl _ _).drew).trans B8.out⟩
                      obtain ⟨rfl, hs8, hb8⟩ := hcut
                      have L8 := Lib.hid (L7.out.but hs8 hb8 (by rw [SF3.out.2]; omega) (by have := SF3.out.1; have := L7.out.fu; omega))
                      clear hs8 hb8 L7 SP3 p3 p5 p6
                      obtain ⟨w8, rfl⟩ : ∃ w8 : World, w8 = wc := ⟨_, rfl⟩
                      have hs := HS.out
                      cases hst3 : s3.step.1 with
                      | false =>
                        rw [if_pos hst3] at hs
                        have SE : Hid (s' = s3.step.2) := (Option.some.inj hs).symm
                        clear hs HS hst3
                        go_wp2_with fail
                        refine bodyPost_ret (v := .tuple #[]) (results_none rfl _ _ _) rfl ?_
                        rw [HR.out]
                        exact ⟨rfl, _, by rw [SE.out]; exact L8.out.sea, L8.out.loc, L8.out.fr⟩
                      | true =>
                        rw [if_neg (by rw [hst3]; simp)] at hs
                        clear hst3 HS
                        cases hn2 : narF ru G P gq D1 v (minusF (dm D1 v) (spanD (leastF (dm D1 v)) (leastF (dm D1 v)))) with
                        | none => rw [hn2] at hs; simp at hs
                        | some r2 =>
                          obtain ⟨D3, is2⟩ := r2
                          rw [hn2] at hs
                          simp only at hs
                          have HS := Lib.hid hs
                          have NF2 := Lib.hid hn2
                          clear hs hn2
                          have BW8 : Hid (Below w0.heap.size w0 w8) := L8.out.fr.below GR.out LV.out BW.out.size BW.out
                          have PSX := Lib.hid ((PS.out.slice k3 k4).kp (KpT.of_below BW8.out))
                          have s0 : w8.cell? ⟨gs, 0, none⟩ = some (.slice a1 n c1) := by rw [cell_of_row _ _ _ _ _ _ L8.out.box]; rfl
                          have s1' : w8.cell? ⟨gs, 1, none⟩ = some (.slice pa np pc2) := by rw [cell_of_row _ _ _ _ _ _ L8.out.box]; rfl
                          obtain ⟨gd, od, ud, rfl, q0, q1⟩ := L8.out.ds.a.at_ L8.out.len VLT.out
                          have MD := Lib.hid q1
                          obtain ⟨ua, uc, rfl, us⟩ := q1.s
                          have vlt := VLT.out
                          have MDL : Hid ((dm D1 v).length ≤ 1000) := OKV.out.2.1
                          have LB : Hid (-16384 ≤ leastF (dm D1 v) ∧ leastF (dm D1 v) ≤ 16384) := by
                            have h0 : 0 < (dm D1 v).length := List.length_pos_iff.2 OKV.out.1
                            have := spanF_zero (OKV.out.2.2 0 h0)
                            have e : leastF (dm D1 v) = (sp (dm D1 v) 0).1 := rfl
                            show _ ∧ _
                            omega
                          have SOK : Hid (Ok (spanD (leastF (dm D1 v)) (leastF (dm D1 v)))) := span_ok LB.out.1 LB.out.2
                          have SPL : Hid ((spanD (leastF (dm D1 v)) (leastF (dm D1 v))).length ≤ 1) := span_len _ _
                          clear q1 us LB
                          go_upto_region 16 with fail
                          go_cut [12, 13] (fun v12 v13 W => NwS w8 n np (pa) (D3, is2) v12 v13 W)
                          case first =>
                            refine Rg.s0 17 [] fun WD DW => ?_
                            refine Rg.t 0 ?_
                            refine Rg.t 1 ?_
                            refine Rg.t 2 ?_
                            refine Rg.t 3 ?_
                            refine Rg.t 4 ?_
                            refine Rg.t 5 ?_
                            refine Rg.t 6 ?_
                            refine Rg.t 7 ?_
                            refine Rg.t 8 ?_
                            refine Rg.c2 9 15 (fun K' hK => ?_) fun K' hK => ?_
                            · go_simp
                              go_at_call 98
                              refine (span_any _ _ WD).mono ?_
                              rintro e wc1 ⟨v98, rfl, dv98, hb⟩
                              obtain ⟨sa, sc, rfl, -⟩ := dv98.s
                              have Dc1 := over DW hb
                              refine Rg.e1 hK Dc1 ?_
                              clear hK K' hb
                              refine Rg.c2 10 15 (fun K' hK => ?_) fun K' hK => ?_
                              · go_simp
                                go_at_call 49
                                obtain ⟨ma, mc, me, ms⟩ := (MD.out.below Dc1).s
                                simp only [Value.slice.injEq] at me
                                obtain ⟨rfl, -, rfl⟩ := me
                                obtain ⟨sa', sc', se, ss⟩ := dv98.s
                                simp only [Value.slice.injEq] at se
                                obtain ⟨rfl, -, rfl⟩ := se
                                refine (minus_any ms ss SOK.out (by have := MDL.out; omega) (by have := SPL.out; omega)).mono ?_
                                rintro e wc2 ⟨v49, rfl, dv49, hb⟩
                                obtain ⟨ya, yc, rfl, -⟩ := dv49.s
                                have Dc2 := over Dc1 hb
                                refine Rg.e1 hK Dc2 ?_
                                clear hK K' hb
                                refine Rg.c2 11 15 (fun K' hK => ?_) fun K' hK => ?_
                                · go_simp
                                  go_at_call 97
                                  refine (narrowed_any (L8.out.ds.below Dc2) L8.out.len k1 k2 h1000 (PSX.out.kp (KpT.of_below Dc2)) k3 k4 VLT.out dv49 EN.out NF2.out).mono ?_
                                  rintro e wc3 ⟨⟨vd, vp, rfl, hst, ⟨na, nm, nc, rfl⟩, ⟨na', nm', nc', rfl⟩⟩, hb⟩
                                  have Dc3 := over Dc2 hb
                                  refine Rg.e1 hK Dc3 ?_
                                  clear hK K' hb
                                  refine Rg.t 12 ?_
                                  refine Rg.t 13 ?_
                                  refine Rg.t 14 ?_
                                  refine Rg.c1 15 fun K' hK => ?_
                                  have bn := below_new wc3 (.cells #[.slice none 0 0, .slice none 0 0] 86)
                                  have h10 := heap_alloc_new wc3 (.cells #[.slice none 0 0, .slice none 0 0] 86)
                                  have hg10 : w8.heap.size ≤ wc3.heap.size := Dc3.size
                                  have Da4 := over Dc3 bn
                                  have hst := fun q => (hst q).below bn
                                  (try simp only [zA, zB, zC])
                                  go_simp
                                  refine Rg.e1 hK Da4 ?_
                                  clear hK K'
                                  generalize wc3.alloc (.cells #[.slice none 0 0, .slice none 0 0] 86) = wa4 at *
                                  generalize wc3.heap.size = g10 at *
                                  obtain ⟨W9, hW9⟩ : ∃ W9, ((wa4.setCell ⟨g10, 0, none⟩ (.slice na nm nc)).setCell ⟨g10, 1, none⟩ (.slice na' nm' nc')) = W9 := ⟨_, rfl⟩
                                  have FIN := Lib.hid (NwS.of Da4 hg10 h10 hW9 hst)
                                  have z0 : wa4.cell? ⟨g10, 0, none⟩ = some (.slice none 0 0) := by rw [cell_of_row _ _ _ _ _ _ h10]; rfl
                                  have z1 : wa4.cell? ⟨g10, 1, none⟩ = some (.slice none 0 0) := by rw [cell_of_row _ _ _ _ _ _ h10]; rfl
                                  have f0 : wa4.frozen? ⟨g10, 0, none⟩ = false := by simp [World.frozen?, h10]
                                  have f1 : wa4.frozen? ⟨g10, 1, none⟩ = false := by simp [World.frozen?, h10]
                                  refine Rg.c1 16 fun K' hK => ?_
                                  (try simp only [zA, zB, zC])
                                  go_simp
                                  refine Rg.e1 hK FIN.out.2 ?_
                                  clear hK K' z0 z1 f0 f1 hW9 h10 hst
                                  refine Rg.l1 ?_
                                  go_simp
                                  go_wp2_with fail
                                  go_meet
                                  case rel => exact FIN.out.1
                                · have bn := below_new wc2 (.cells #[.slice none 0 0, .slice none 0 0] 86)
                                  have h10 := heap_alloc_new wc2 (.cells #[.slice none 0 0, .slice none 0 0] 86)
                                  have hg10 : w8.heap.size ≤ wc2.heap.size := Dc2.size
                                  have Da5 := over Dc2 bn
                                  have dv49 := dv49.below bn
                                  (try simp only [zA, zB, zC])
                                  go_simp
                                  refine Rg.e1 hK Da5 ?_
                                  clear hK K'
                                  generalize wc2.alloc (.cells #[.slice none 0 0, .slice none 0 0] 86) = wa5 at *
                                  generalize wc2.heap.size = g10 at *
                                  refine Rg.c1 11 fun K' hK => ?_
                                  go_simp
                                  go_at_call 97
                                  refine (narrowed_any (L8.out.ds.below Da5) L8.out.len k1 k2 h1000 (PSX.out.kp (KpT.of_below Da5)) k3 k4 VLT.out dv49 EN.out NF2.out).mono ?_
                                  rintro e wc6 ⟨⟨vd, vp, rfl, hst, ⟨na, nm, nc, rfl⟩, ⟨na', nm', nc', rfl⟩⟩, hb⟩
                                  have Dc6 := over Da5 hb
                                  have h10 := (hb.block g10 (Array.getElem?_eq_some_iff.1 h10).1).trans h10
                                  refine Rg.e1 hK Dc6 ?_
                                  clear hK K' hb
                                  refine Rg.t 12 ?_
                                  refine Rg.t 13 ?_
                                  refine Rg.t 14 ?_
                                  obtain ⟨W9, hW9⟩ : ∃ W9, ((wc6.setCell ⟨g10, 0, none⟩ (.slice na nm nc)).setCell ⟨g10, 1, none⟩ (.slice na' nm' nc')) = W9 := ⟨_, rfl⟩
                                  have FIN := Lib.hid (NwS.of Dc6 hg10 h10 hW9 hst)
                                  have z0 : wc6.cell? ⟨g10, 0, none⟩ = some (.slice none 0 0) := by rw [cell_of_row _ _ _ _ _ _ h10]; rfl
                                  have z1 : wc6.cell? ⟨g10, 1, none⟩ = some (.slice none 0 0) := by rw [cell_of_row _ _ _ _ _ _ h10]; rfl
                                  have f0 : wc6.frozen? ⟨g10, 0, none⟩ = false := by simp [World.frozen?, h10]
                                  have f1 : wc6.frozen? ⟨g10, 1, none⟩ = false := by simp [World.frozen?, h10]
                                  refine Rg.c1 16 fun K' hK => ?_
                                  (try simp only [zA, zB, zC])
                                  go_simp
                                  refine Rg.e1 hK FIN.out.2 ?_
                                  clear hK K' z0 z1 f0 f1 hW9 h10 hst
                                  refine Rg.l1 ?_
                                  go_simp
                                  go_wp2_with fail
                                  go_meet
                                  case rel => exact FIN.out.1
                              · have bn := below_new wc1 (.cells #[.slice none 0 0, .slice none 0 0] 86)
                                have h10 := heap_alloc_new wc1 (.cells #[.slice none 0 0, .slice none 0 0] 86)
                                have hg10 : w8.heap.size ≤ wc1.heap.size := Dc1.size
                                have Da7 := over Dc1 bn
                                have dv98 := dv98.below bn
                                (try simp only [zA, zB, zC])
                                go_simp
                                refine Rg.e1 hK Da7 ?_
                                clear hK K'
                                generalize wc1.alloc (.cells #[.slice none 0 0, .slice none 0 0] 86) = wa7 at *
                                generalize wc1.heap.size = g10 at *
                                refine Rg.c1 10 fun K' hK => ?_
                                go_simp
                                go_at_call 49
                                obtain ⟨ma, mc, me, ms⟩ := (MD.out.below Da7).s
                                simp only [Value.slice.injEq] at me
                                obtain ⟨rfl, -, rfl⟩ := me
                                obtain ⟨sa', sc', se, ss⟩ := dv98.s
                                simp only [Value.slice.injEq] at se
                                obtain ⟨rfl, -, rfl⟩ := se
                                refine (minus_any ms ss SOK.out (by have := MDL.out; omega) (by have := SPL.out; omega)).mono ?_
                                rintro e wc8 ⟨v49, rfl, dv49, hb⟩
                                obtain ⟨ya, yc, rfl, -⟩ := dv49.s
                                have Dc8 := over Da7 hb
                                have h10 := (hb.block g10 (Array.getElem?_eq_some_iff.1 h10).1).trans h10
                                refine Rg.e1 hK Dc8 ?_
                                clear hK K' hb
                                refine Rg.c1 11 fun K' hK => ?_
                                go_simp
                                go_at_call 97
                                refine (narrowed_any (L8.out.ds.below Dc8) L8.out.len k1 k2 h1000 (PSX.out.kp (KpT.of_below Dc8)) k3 k4 VLT.out dv49 EN.out NF2.out).mono ?_
                                rintro e wc9 ⟨⟨vd, vp, rfl, hst, ⟨na, nm, nc, rfl⟩, ⟨na', nm', nc', rfl⟩⟩, hb⟩
                                have Dc9 := over Dc8 hb
                                have h10 := (hb.block g10 (Array.getElem?_eq_some_iff.1 h10).1).trans h10
                                refine Rg.e1 hK Dc9 ?_
                                clear hK K' hb
                                refine Rg.t 12 ?_
                                refine Rg.t 13 ?_
                                refine Rg.t 14 ?_
                                obtain ⟨W9, hW9⟩ : ∃ W9, ((wc9.setCell ⟨g10, 0, none⟩ (.slice na nm nc)).setCell ⟨g10, 1, none⟩ (.slice na' nm' nc')) = W9 := ⟨_, rfl⟩
                                have FIN := Lib.hid (NwS.of Dc9 hg10 h10 hW9 hst)
                                have z0 : wc9.cell? ⟨g10, 0, none⟩ = some (.slice none 0 0) := by rw [cell_of_row _ _ _ _ _ _ h10]; rfl
                                have z1 : wc9.cell? ⟨g10, 1, none⟩ = some (.slice none 0 0) := by rw [cell_of_row _ _ _ _ _ _ h10]; rfl
                                have f0 : wc9.frozen? ⟨g10, 0, none⟩ = false := by simp [World.frozen?, h10]
                                have f1 : wc9.frozen? ⟨g10, 1, none⟩ = false := by simp [World.frozen?, h10]
                                refine Rg.c1 16 fun K' hK => ?_
                                (try simp only [zA, zB, zC])
                                go_simp
                                refine Rg.e1 hK FIN.out.2 ?_
                                clear hK K' z0 z1 f0 f1 hW9 h10 hst
                                refine Rg.l1 ?_
                                go_simp
                                go_wp2_with fail
                                go_meet
                                case rel => exact FIN.out.1
                            · have bn := below_new WD (.cells #[.slice none 0 0, .slice none 0 0] 86)
                              have h10 := heap_alloc_new WD (.cells #[.slice none 0 0, .slice none 0 0] 86)
                              have hg10 : w8.heap.size ≤ WD.heap.size := DW.size
                              have Da10 := over DW bn
                              (try simp only [zA, zB, zC])
                              go_simp
                              refine Rg.e1 hK Da10 ?_
                              clear hK K'
                              generalize WD.alloc (.cells #[.slice none 0 0, .slice none 0 0] 86) = wa10 at *
                              generalize WD.heap.size = g10 at *
                              refine Rg.c1 9 fun K' hK => ?_
                              go_simp
                              go_at_call 98
                              refine (span_any _ _ wa10).mono ?_
                              rintro e wc11 ⟨v98, rfl, dv98, hb⟩
                              obtain ⟨sa, sc, rfl, -⟩ := dv98.s
                              have Dc11 := over Da10 hb
                              have h10 := (hb.block g10 (Array.getElem?_eq_some_iff.1 h10).1).trans h10
                              refine Rg.e1 hK Dc11 ?_
                              clear hK K' hb
                              refine Rg.c1 10 fun K' hK => ?_
                              go_simp
                              go_at_call 49
                              obtain ⟨ma, mc, me, ms⟩ := (MD.out.below Dc11).s
                              simp only [Value.slice.injEq] at me
                              obtain ⟨rfl, -, rfl⟩ := me
                              obtain ⟨sa', sc', se, ss⟩ := dv98.s
                              simp only [Value.slice.injEq] at se
                              obtain ⟨rfl, -, rfl⟩ := se
                              refine (minus_any ms ss SOK.out (by have := MDL.out; omega) (by have := SPL.out; omega)).mono ?_
                              rintro e wc12 ⟨v49, rfl, dv49, hb⟩
                              obtain ⟨ya, yc, rfl, -⟩ := dv49.s
                              have Dc12 := over Dc11 hb
                              have h10 := (hb.block g10 (Array.getElem?_eq_some_iff.1 h10).1).trans h10
                              refine Rg.e1 hK Dc12 ?_
                              clear hK K' hb
                              refine Rg.c1 11 fun K' hK => ?_
                              go_simp
                              go_at_call 97
                              refine (narrowed_any (L8.out.ds.below Dc12) L8.out.len k1 k2 h1000 (PSX.out.kp (KpT.of_below Dc12)) k3 k4 VLT.out dv49 EN.out NF2.out).mono ?_
                              rintro e wc13 ⟨⟨vd, vp, rfl, hst, ⟨na, nm, nc, rfl⟩, ⟨na', nm', nc', rfl⟩⟩, hb⟩
                              have Dc13 := over Dc12 hb
                              have h10 := (hb.block g10 (Array.getElem?_eq_some_iff.1 h10).1).trans h10
                              refine Rg.e1 hK Dc13 ?_
                              clear hK K' hb
                              refine Rg.t 12 ?_
                              refine Rg.t 13 ?_
                              refine Rg.t 14 ?_
                              obtain ⟨W9, hW9⟩ : ∃ W9, ((wc13.setCell ⟨g10, 0, none⟩ (.slice na nm nc)).setCell ⟨g10, 1, none⟩ (.slice na' nm' nc')) = W9 := ⟨_, rfl⟩
                              have FIN := Lib.hid (NwS.of Dc13 hg10 h10 hW9 hst)
                              have z0 : wc13.cell? ⟨g10, 0, none⟩ = some (.slice none 0 0) := by rw [cell_of_row _ _ _ _ _ _ h10]; rfl
                              have z1 : wc13.cell? ⟨g10, 1, none⟩ = some (.slice none 0 0) := by rw [cell_of_row _ _ _ _ _ _ h10]; rfl
                              have f0 : wc13.frozen? ⟨g10, 0, none⟩ = false := by simp [World.frozen?, h10]
                              have f1 : wc13.frozen? ⟨g10, 1, none⟩ = false := by simp [World.frozen?, h10]
                              refine Rg.c1 16 fun K' hK => ?_
                              (try simp only [zA, zB, zC])
                              go_simp
                              refine Rg.e1 hK FIN.out.2 ?_
                              clear hK K' z0 z1 f0 f1 hW9 h10 hst
                              refine Rg.l1 ?_
                              go_simp
                              go_wp2_with fail
                              go_meet
                              case rel => exact FIN.out.1
                          clear s0 s1' q0
                          obtain ⟨g10, na, nm, nc, na', nm', nc', rfl, rfl, h10, hst, hb9⟩ := hcut
                          have L9 := Lib.hid (L8.out.below hb9)
                          have H10 := Lib.hid h10; have HST := Lib.hid hst
                          clear h10 hst L8 BW8 PSX
                          obtain ⟨w9, rfl⟩ : ∃ w9 : World, w9 = wc := ⟨_, rfl⟩
                          have hs := HS.out
                          cases is2 with
                          | false =>
                            rw [if_neg (by decide)] at hs
                            have SE : Hid (s' = s3.step.2) := (Option.some.inj hs).symm
                            clear hs HS
                            go_wp2_with fail
                            refine bodyPost_ret (v := .tuple #[]) (results_none rfl _ _ _) rfl ?_
                            rw [HR.out]
                            exact ⟨rfl, _, by rw [SE.out]; exact L9.out.sea, L9.out.loc, L9.out.fr⟩
                          | true =>
                            rw [if_pos rfl] at hs
                            have GSL : Hid (w.heap.size ≤ gs) := Nat.le_of_eq GS.out
                            obtain ⟨W10, hW10⟩ : ∃ W10, ((w9.setCell ⟨gs, 0, none⟩ (.slice na nm nc)).setCell ⟨gs, 1, none⟩ (.slice na' nm' nc')) = W10 := ⟨_, rfl⟩
                            have NX := Lib.hid (L9.out.boxed GSL.out (HST.out rfl) hW10)
                            have t0 : w9.cell? ⟨g10, 0, none⟩ = some (.slice na nm nc) := by rw [cell_of_row _ _ _ _ _ _ H10.out]; rfl
                            have t1 : w9.cell? ⟨g10, 1, none⟩ = some (.slice na' nm' nc') := by rw [cell_of_row _ _ _ _ _ _ H10.out]; rfl
                            have z0 : w9.cell? ⟨gs, 0, none⟩ = some (.slice (some ⟨gd, od, none⟩) n c1) := by rw [cell_of_row _ _ _ _ _ _ L9.out.box]; rfl
                            have z1 : w9.cell? ⟨gs, 1, none⟩ = some (.slice pa np pc2) := by rw [cell_of_row _ _ _ _ _ _ L9.out.box]; rfl
                            have fz0 : w9.frozen? ⟨gs, 0, none⟩ = false := by simp [World.frozen?, L9.out.box]
                            have fz1 : w9.frozen? ⟨gs, 1, none⟩ = false := by simp [World.frozen?, L9.out.box]
                            have HS2 := Lib.hid hs
                            clear hs HS HST L9
                            go_wp2_with fail
                            go_roundg f1
                            case measure => omega
                            case rel => exact ⟨by have := HF1.out; omega, _, _, _, _, _, _, HS2.out, NX.out⟩
end Go.Proofs.YteiohgiecpibhaaGreat
