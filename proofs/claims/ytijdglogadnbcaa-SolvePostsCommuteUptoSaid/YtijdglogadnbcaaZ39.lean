/- Problem.Greatest. Printed by genGr.py. -/
import Derived.Test.YtijdglogadnbcaaZ38
import Derived.Test.YtijdglogadnbcaaZ21
import Derived.Deep.LoopGhost
import Derived.Test.YtijdglogadnbcaaZ26
import Derived.Test.YtijdglogadnbcaaZ36
import Derived.Deep.Onto
set_option linter.unusedVariables false
set_option linter.unusedSimpArgs false
set_option maxRecDepth 100000
set_option maxHeartbeats 40000000
namespace Go.Proofs.Ytijdglogadnbcaa
open Go.RowKit Nt Bl
theorem rz_pl {P P' : Pb} {g c : Nat} (hp : P.Pl) (hs : PSz P 1048576) (hc : c < P.n) (h : P.rz g c = some P') : P'.Pl ∧ P'.n = P.n ∧ P'.m = P.m := by
 rw [rz_eq, Option.map_eq_some_iff] at h
 obtain ⟨⟨l, b⟩, hx, rfl⟩ := h
 have pr := rzT_prop (g := g) (rs := P.rising g c) hp hs hc P.m (Nat.le_refl _) l b hx
 cases b with
 | none => exact ⟨Pb.mv_pl hp _ _, rfl, rfl⟩
 | some r => exact ⟨Pb.Pl.pivot (Pb.mv_pl hp _ _) (r := r) (c := c) (pr.2.2 r rfl).1 hc, rfl, rfl⟩
theorem Own.p {L : Lay} {P P' : Pb} {w w' : World} (h : Own L P' w w') (e : P'.m = P.m) : Own L P w w' := fun b l a1 a2 a3 a4 => h b l a1 a2 a3 (by rw [e]; exact a4)
theorem PAt.oth174 {n0 g : Nat} {w w' : World} {L : Lay} {P : Pb} {M S : Nw} (h : PAt n0 w L P) (hx : VB w g M S) (hn : L.now ≠ g) (e : ∀ b, b ≠ g → w'.heap[b]? = w.heap[b]?) (hl : Limb w w') : PAt n0 w' L P := by
 have hb : Blk w g 76 := ⟨_, hx⟩
 have B : ∀ {k ty : Nat}, Blk w k ty → ty ≠ 76 → w'.heap[k]? = w.heap[k]? := fun q hne => e _ (q.ne hb hne)
 exact ⟨(B h.pb (by decide)).trans h.hd, h.lo.keep (B h.lo.blk (by decide)) hl, h.hi.keep (B h.hi.blk (by decide)) hl, h.no.keep (e _ hn) hl, h.ba.keep (B h.ba.blk (by decide)),
  fun q => ⟨(h.fr q).1, (h.fr q).2.keep (B (h.fr q).2.blk (by decide))⟩, h.tb.keep (B h.tb (by decide)), fun i hi => (cells_same (B h.tb (by decide)) i).trans (h.ta i hi),
  fun q i hi => ⟨(h.li q i hi).1, (h.li q i hi).2.keep (B (h.li q i hi).2.blk (by decide)) hl⟩, h.inj, h.bf, h.ge, h.cp, h.nm⟩
/-- Where the walk of Greatest stands. -/
structure GrS (n0 : Nat) (w W0 : World) (L : Lay) (P P1 : Pb) (wr : World) : Prop where
 pl : P1.Pl
 en : P1.n = P.n
 em : P1.m = P.m
 at_ : PAt n0 wr L P1
 bl : Below n0 w wr
 lb : Limb w wr
 ow : Own L P W0 wr
 si : W0.heap.size ≤ wr.heap.size
 vb : VB wr w.heap.size Nw.zero Nw.zero
theorem GrS.below {n0 : Nat} {w W0 : World} {L : Lay} {P P1 : Pb} {wr w' : World} (h : GrS n0 w W0 L P P1 wr) (hn : n0 ≤ w.heap.size) (hb : Below wr.heap.size wr w') : GrS n0 w W0 L P P1 w' :=
 ⟨h.pl, h.en, h.em, h.at_.below hb, Below.trans h.bl (hb.mono (Nat.le_trans hn h.bl.size)), h.lb.trans (Limb.of_below hb), h.ow.below h.si hb, Nat.le_trans h.si hb.size, h.vb.later hb h.vb.lt⟩
theorem GrS.fin {n0 : Nat} {w W0 : World} {L : Lay} {P P1 : Pb} {wr : World} (h : GrS n0 w W0 L P P1 wr) (hn : n0 ≤ w.heap.size) (hl : L.now < w.heap.size) (B0 : Below w.heap.size w W0) (M S : Nw) {x y z a b c : Value} (ex : x = .bool M.s) (ey : y = .slice M.a M.n M.c) (ez : z = .slice M.b M.m M.d) (ea : a = .bool S.s) (eb : b = .slice S.a S.n S.c) (ec : c = .slice S.b S.m S.d) {W : World}
  (hW : W = ((((((wr.setCell ⟨w.heap.size, 0, none⟩ x).setCell ⟨w.heap.size, 1, none⟩ y).setCell ⟨w.heap.size, 2, none⟩ z).setCell ⟨w.heap.size, 3, none⟩ a).setCell ⟨w.heap.size, 4, none⟩ b).setCell ⟨w.heap.size, 5, none⟩ c)) :
  VB W w.heap.size M S ∧ Limb wr W ∧ P1.n = P.n ∧ P1.m = P.m ∧ P1.Pl ∧ PAt n0 W L P1 ∧ Below n0 w W ∧ Limb w W ∧ Own L P w W := by
 subst ex ey ez ea eb ec hW
 have L6 := h.vb.limb6 M S
 exact ⟨h.vb.set6 M S, L6, h.en, h.em, h.pl, h.at_.oth174 h.vb (by omega) (fun b hb => oth6 hb _ _ _ _ _ _) L6, below_set6 h.bl hn _ _ _ _ _ _, h.lb.trans L6,
  fun b l a1 a2 a3 a4 => (oth6 (by omega) _ _ _ _ _ _).trans ((h.ow b (Nat.lt_of_lt_of_le l B0.size) a1 a2 a3 a4).trans (B0.block b l))⟩
theorem Bl.Gre.sz {K k : Nat} {P Q : Pb} {is : Bool} (h : Gre K k P Q is) : PSz P K := by
 cases k with
 | zero => exact h.1
 | succ k => exact h.1
def GrL (n0 : Nat) (w W0 : World) (L : Lay) (P Q : Pb) (is : Bool) (k : Nat) (wr : World) : Prop :=
 ∃ P' : Pb, Gre 1048576 k P' Q is ∧ GrS n0 w W0 L P P' wr
theorem fstAt_lt' {f : Nat → Nat} {v n r : Nat} (h : fstAt f v n = some r) : r < n := (fstAt_lt h).1
theorem gre_any {n0 k : Nat} {w : World} {L : Lay} {P Q : Pb} {is : Bool} (h : PAt n0 w L P) (hp : P.Pl) (hG : Gre 1048576 k P Q is) :
  Calls Try.prog 32 #[.pointer (some ⟨L.p, 0, none⟩)] w fun e w' => (∃ M S : Nw, e = .returned (.tuple #[.agg #[.bool M.s, .slice M.a M.n M.c, .slice M.b M.m M.d, .bool S.s, .slice S.a S.n S.c, .slice S.b S.m S.d], .bool is]) ∧
    (is = true → RA w' (Q.now (P.n + P.m - 1)).m M ∧ RA w' (Q.now (P.n + P.m - 1)).s S)) ∧ Q.n = P.n ∧ Q.m = P.m ∧ Q.Pl ∧ PAt n0 w' L Q ∧ Below n0 w w' ∧ Limb w w' ∧ Own L P w w' := by
 have nm := h.nm; have cp := h.cp
 obtain ⟨v, hN⟩ : ∃ v, P.n + P.m = v + 1 := ⟨P.n + P.m - 1, by omega⟩
 obtain ⟨m, hm⟩ : ∃ m, P.m = m := ⟨_, rfl⟩
 obtain ⟨n, hn⟩ : ∃ n, P.n = n := ⟨_, rfl⟩
 have n00 : n0 ≤ w.heap.size := Nat.le_of_lt (Nat.lt_of_le_of_lt h.ge.1 h.no.blk.lt)
 rw [hm, hn] at nm
 rw [hm, hn] at cp
 have HN := Lib.hid hN; have HM := Lib.hid hm; have HNN := Lib.hid hn
 have vv : v ≤ 200 := by omega
 have vI0 : (0 : Int) ≤ (v : Int) := by omega
 have vI1 : (v : Int) < ((v + 1 : Nat) : Int) := by omega
 have HD := Lib.hid (fun (W : World) (P' : Pb) (h : PAt n0 W L P') (en : P'.n = P.n) (em : P'.m = P.m) => (show W.cell? ⟨L.p, 3, none⟩ = some (.slice (some ⟨L.now, 0, none⟩) (v + 1) (v + 1)) ∧ W.cell? ⟨L.p, 4, none⟩ = some (.slice (some ⟨L.bas, 0, none⟩) m L.basc) from by
  have := h.head; rw [en, em, hN, hm] at this; exact ⟨this.2.2.2.1, this.2.2.2.2.1⟩))
 have B0 : Hid (Below w.heap.size w (w.alloc (.cells #[.bool false, .slice none 0 0, .slice none 0 0, .bool false, .slice none 0 0, .slice none 0 0] 76))) := below_new _ _
 have X0 : Hid (VB (w.alloc (.cells #[.bool false, .slice none 0 0, .slice none 0 0, .bool false, .slice none 0 0, .slice none 0 0] 76)) w.heap.size Nw.zero Nw.zero) := heap_alloc_new w _
 have HLN : Hid (L.now < w.heap.size ∧ L.bas < w.heap.size ∧ (0 < P.n → L.freB < w.heap.size ∧ ∀ i, i < P.m → L.line i < w.heap.size)) := ⟨h.no.blk.lt, h.ba.blk.lt, fun q => ⟨(h.fr q).2.blk.lt, fun i hi => (h.li q i hi).2.blk.lt⟩⟩
 have J0 : Hid (GrL n0 w (w.alloc (.cells #[.bool false, .slice none 0 0, .slice none 0 0, .bool false, .slice none 0 0, .slice none 0 0] 76)) L P Q is k (w.alloc (.cells #[.bool false, .slice none 0 0, .slice none 0 0, .bool false, .slice none 0 0, .slice none 0 0] 76))) :=
  ⟨P, hG, hp, rfl, rfl, h.below B0.out, B0.out.mono n00, Limb.of_below B0.out, fun _ _ _ _ _ _ => rfl, Nat.le_refl _, X0.out⟩
 clear h hp hG hN hm hn
 go_enter Try.func32, Try.ntmps32
 go_upto_region 1 with fail
 generalize w.alloc (.cells #[.bool false, .slice none 0 0, .slice none 0 0, .bool false, .slice none 0 0, .slice none 0 0] 76) = W0 at *
 have HQ : Hid (W0.cell? ⟨L.p, 3, none⟩ = some (.slice (some ⟨L.now, 0, none⟩) (v + 1) (v + 1)) ∧ W0.cell? ⟨L.p, 4, none⟩ = some (.slice (some ⟨L.bas, 0, none⟩) m L.basc)) := by
  obtain ⟨P1, _, S1⟩ := J0.out
  exact HD.out W0 P1 S1.at_ S1.en S1.em
 obtain ⟨q3, q4⟩ := HQ.out
 go_upto_region 2 with fail
 go_loopg [] k (fun gk wr => GrL n0 w W0 L P Q is gk wr)
 case atStart => exact J0.out
 case round =>
  clear J0 q3 q4 HQ X0
  obtain ⟨P1, hG, hS⟩ := hrel
  obtain ⟨q3, q4⟩ := HD.out wr P1 hS.at_ hS.en hS.em
  have G := Lib.hid hG; have ST := Lib.hid hS
  have mp : P1.m = m := hS.em.trans HM.out
  have IX := index_any (v := v) hS.at_.ba (hS.at_.cp.1) hS.at_.cp.2.1
  rw [mp] at IX
  have IX := Lib.hid IX
  obtain ⟨t0, t1, t2, t3, t4, t5, fz⟩ := hS.vb.reads
  have fz0 := fz 0; have fz1 := fz 1; have fz2 := fz 2; have fz3 := fz 3; have fz4 := fz 4; have fz5 := fz 5
  have EV : Hid (P1.n + P1.m - 1 = v) := by show _ = _; rw [hS.en, hS.em]; have := HN.out; omega
  have RO : Hid (P1.rowOf v P1.m = fstAt P1.basic v m) := by show _ = _; rw [rowOf_fst, mp]
  have MP := Lib.hid mp
  clear hG hS fz mp
  have GC : Hid ((∃ r c P2 k', gk = k' + 1 ∧ fstAt P1.basic v m = some r ∧ P1.hlp r true = some c ∧ P1.rz r c = some P2 ∧ Gre 1048576 k' P2 Q is) ∨
    (Q = P1 ∧ ((is = false ∧ fstAt P1.basic v m = none) ∨ (is = false ∧ ∃ r c, fstAt P1.basic v m = some r ∧ P1.hlp r true = some c ∧ P1.rz r c = none) ∨ (is = true ∧ ∃ r, fstAt P1.basic v m = some r ∧ P1.hlp r true = none)))) := by
   have g := G.out
   rw [← RO.out, ← EV.out]
   cases gk with
   | zero =>
    obtain ⟨_, rfl, g⟩ := g
    refine Or.inr ⟨rfl, ?_⟩
    rcases g with ⟨rfl, g | g⟩ | ⟨rfl, g⟩
    ·exact Or.inl ⟨rfl, g⟩
    ·exact Or.inr (Or.inl ⟨rfl, g⟩)
    ·exact Or.inr (Or.inr ⟨rfl, g⟩)
   | succ k' =>
    obtain ⟨_, r, c, P2, g1, g2, g3, g4⟩ := g
    exact Or.inl ⟨r, c, P2, k', rfl, g1, g2, g3, g4⟩
  have SZ := Lib.hid G.out.sz
  obtain ⟨ro, hro⟩ : ∃ ro, fstAt P1.basic v m = ro := ⟨_, rfl⟩
  rw [hro] at GC IX
  have HRO := Lib.hid hro
  clear hro G
  cases ro with
  | none =>
   have G1 : Hid (P1 = Q ∧ is = false) := by
    rcases GC.out with ⟨r, c, P2, k', _, g, _⟩ | ⟨e, ⟨e2, _⟩ | ⟨_, r, c, g, _⟩ | ⟨_, r, g, _⟩⟩
    ·simp at g
    ·exact ⟨e.symm, e2⟩
    ·simp at g
    ·simp at g
   clear GC
   go_wp2_with fail
   refine IX.out.mono ?_
   rintro e w' ⟨rfl, rfl⟩
   go_wp2_with fail
   have F := ST.out.fin n00 HLN.out.1 B0.out Nw.zero Nw.zero rfl rfl rfl rfl rfl rfl rfl
   obtain ⟨XN, L6, F⟩ := F
   obtain ⟨x0, x1, x2, x3, x4, x5, _⟩ := XN.reads
   have F := Lib.hid F
   clear L6 XN
   simp only [Nw.zero] at x0 x1 x2 x3 x4 x5
   refine bodyPost_ret (v := .tuple #[.agg #[.bool false, .slice none 0 0, .slice none 0 0, .bool false, .slice none 0 0, .slice none 0 0], .bool false]) (by simp [results, Try.results32, go_sem, x0, x1, x2, x3, x4, x5]) rfl ?_
   have e1 := G1.out.1
   subst e1
   exact ⟨⟨Nw.zero, Nw.zero, by rw [G1.out.2]; rfl, fun h => by rw [G1.out.2] at h; simp at h⟩, F.out⟩
  | some r =>
   obtain ⟨ho, hho⟩ : ∃ ho, P1.hlp r true = ho := ⟨_, rfl⟩
   have RL : Hid (r < P1.m) := by show _ < _; rw [MP.out]; exact fstAt_lt' HRO.out
   have C := hlp_any (up := true) ST.out.at_ ST.out.pl SZ.out RL.out
   rw [hho] at C
   have C := Lib.hid C
   have HO := Lib.hid hho
   have HC : Hid (∀ c, ho = some c → c < P1.n) := fun c hc => by
    have := P1.hlpT_prop r true P1.n
    unfold Pb.hlp at hho
    rw [hho, hc] at this
    exact this.1
   clear hho
   have r0 : (0 : Int) ≤ (r : Int) := by omega
   go_wp2_with fail
   refine IX.out.mono ?_
   rintro e w' ⟨rfl, rfl⟩
   go_wp2_with fail
   refine C.out.mono ?_
   rintro e w5 ⟨rfl, B5⟩
   have ST5 := Lib.hid (ST.out.below n00 B5)
   clear C IX ST B5 q3 q4 t0 t1 t2 t3 t4 t5 fz0 fz1 fz2 fz3 fz4 fz5
   obtain ⟨q3, q4⟩ := HD.out w5 P1 ST5.out.at_ ST5.out.en ST5.out.em
   obtain ⟨t0, t1, t2, t3, t4, t5, fz⟩ := ST5.out.vb.reads
   have fz0 := fz 0; have fz1 := fz 1; have fz2 := fz 2; have fz3 := fz 3; have fz4 := fz 4; have fz5 := fz 5
   clear fz
   cases ho with
   | none =>
    have G1 : Hid (P1 = Q ∧ is = true) := by
     rcases GC.out with ⟨r', c, P2, k', _, g, g2, _⟩ | ⟨e, ⟨_, g⟩ | ⟨_, r', c, g, g2, _⟩ | ⟨e2, r', g, _⟩⟩
     ·simp only [Option.some.injEq] at g; subst g; rw [HO.out] at g2; simp at g2
     ·simp at g
     ·simp only [Option.some.injEq] at g; subst g; rw [HO.out] at g2; simp at g2
     ·exact ⟨e.symm, e2⟩
    have vN : v < P1.n + P1.m := by rw [ST5.out.en, ST5.out.em, HN.out]; omega
    obtain ⟨M, S, r1, r2, a0, a1, a2, a3, a4, a5⟩ := (ST5.out.at_.no.at_ v vN).reads
    have RM := Lib.hid (And.intro r1 r2)
    clear r1 r2 GC
    go_wp2_with fail
    have F := ST5.out.fin n00 HLN.out.1 B0.out M S rfl rfl rfl rfl rfl rfl rfl
    obtain ⟨XN, L6, F⟩ := F
    obtain ⟨x0, x1, x2, x3, x4, x5, _⟩ := XN.reads
    have LL := Lib.hid L6
    have F := Lib.hid F
    clear L6 XN
    refine bodyPost_ret (v := .tuple #[.agg #[.bool M.s, .slice M.a M.n M.c, .slice M.b M.m M.d, .bool S.s, .slice S.a S.n S.c, .slice S.b S.m S.d], .bool true]) (by simp [results, Try.results32, go_sem, x0, x1, x2, x3, x4, x5]) rfl ?_
    have e1 := G1.out.1
    subst e1
    exact ⟨⟨M, S, by rw [G1.out.2], fun _ => by rw [HN.out]; exact ⟨RM.out.1.limb LL.out, RM.out.2.limb LL.out⟩⟩, F.out⟩
   | some c =>
    have c0 : (0 : Int) ≤ (c : Int) := by omega
    have cn : c < P1.n := HC.out c rfl
    have C := Lib.hid (rz_any ST5.out.at_ ST5.out.pl SZ.out RL.out cn)
    clear HC
    go_wp2_with fail
    refine C.out.mono ?_
    rintro e w6 (⟨hz, rfl, B6⟩ | ⟨P2, hz, rfl, hA, hB, hL, hO⟩)
    ·have G1 : Hid (P1 = Q ∧ is = false) := by
      rcases GC.out with ⟨r', c', P3, k', _, g, g2, g3, _⟩ | ⟨e, ⟨_, g⟩ | ⟨e2, r', c', g, g2, _⟩ | ⟨e2, r', g, g2⟩⟩
      ·simp only [Option.some.injEq] at g; subst g; rw [HO.out] at g2; simp only [Option.some.injEq] at g2; subst g2; rw [hz] at g3; simp at g3
      ·simp at g
      ·exact ⟨e.symm, e2⟩
      ·simp only [Option.some.injEq] at g; subst g; rw [HO.out] at g2; simp at g2
     have ST := Lib.hid (ST5.out.below n00 B6)
     clear hz B6 C t0 t1 t2 t3 t4 t5 fz0 fz1 fz2 fz3 fz4 fz5 GC q3 q4
     obtain ⟨t0, t1, t2, t3, t4, t5, fz⟩ := ST.out.vb.reads
     have fz0 := fz 0; have fz1 := fz 1; have fz2 := fz 2; have fz3 := fz 3; have fz4 := fz 4; have fz5 := fz 5
     clear fz
     go_wp2_with fail
     have F := ST.out.fin n00 HLN.out.1 B0.out Nw.zero Nw.zero rfl rfl rfl rfl rfl rfl rfl
     obtain ⟨XN, L6, F⟩ := F
     obtain ⟨x0, x1, x2, x3, x4, x5, _⟩ := XN.reads
     have F := Lib.hid F
     clear L6 XN
     simp only [Nw.zero] at x0 x1 x2 x3 x4 x5
     refine bodyPost_ret (v := .tuple #[.agg #[.bool false, .slice none 0 0, .slice none 0 0, .bool false, .slice none 0 0, .slice none 0 0], .bool false]) (by simp [results, Try.results32, go_sem, x0, x1, x2, x3, x4, x5]) rfl ?_
     have e1 := G1.out.1
     subst e1
     exact ⟨⟨Nw.zero, Nw.zero, by rw [G1.out.2]; rfl, fun h => by rw [G1.out.2] at h; simp at h⟩, F.out⟩
    ·have G1 : Hid (∃ k', gk = k' + 1 ∧ Gre 1048576 k' P2 Q is) := by
      rcases GC.out with ⟨r', c', P3, k', ek, g, g2, g3, g4⟩ | ⟨e, ⟨_, g⟩ | ⟨e2, r', c', g, g2, g3⟩ | ⟨e2, r', g, g2⟩⟩
      ·simp only [Option.some.injEq] at g; subst g; rw [HO.out] at g2; simp only [Option.some.injEq] at g2; subst g2; rw [hz] at g3; simp only [Option.some.injEq] at g3; subst g3; exact ⟨k', ek, g4⟩
      ·simp at g
      ·simp only [Option.some.injEq] at g; subst g; rw [HO.out] at g2; simp only [Option.some.injEq] at g2; subst g2; rw [hz] at g3; simp at g3
      ·simp only [Option.some.injEq] at g; subst g; rw [HO.out] at g2; simp at g2
     obtain ⟨p2, n2, m2⟩ := rz_pl ST5.out.pl SZ.out cn hz
     have NX : Hid (GrS n0 w W0 L P P2 w6) := by
      have s5 := ST5.out
      have hl := HLN.out.2.2 (by have := s5.en; omega)
      refine ⟨p2, n2.trans s5.en, m2.trans s5.em, hA, Below.trans s5.bl hB, s5.lb.trans hL, Own.trans s5.ow s5.si (hO.p s5.em), Nat.le_trans s5.si hB.size, ?_⟩
      refine (hO w.heap.size s5.vb.lt (by have := HLN.out.1; omega) (by have := HLN.out.2.1; omega) (by have := hl.1; omega) (fun i hi => ?_)).trans s5.vb
      have := hl.2 i (by rw [← s5.em]; exact hi)
      omega
     obtain ⟨k', ek, g4⟩ := G1.out
     have G4 := Lib.hid g4
     have EK := Lib.hid ek
     clear hA hB hL hO hz p2 n2 m2 C GC G1 ek g4 t0 t1 t2 t3 t4 t5 fz0 fz1 fz2 fz3 fz4 fz5 q3 q4
     go_wp2_with fail
     go_roundg k'
     case measure => have := EK.out; omega
     case rel => exact ⟨P2, G4.out, NX.out⟩
theorem Bl.Gre.goal {K : Nat} : ∀ {k : Nat} {P Q : Pb}, Gre K k P Q true → ∃ r, fstAt Q.basic (Q.n + Q.m - 1) Q.m = some r
 | 0, P, Q, h => by
  obtain ⟨_, rfl, h⟩ := h
  rcases h with ⟨h, _⟩ | ⟨_, r, h, _⟩
  ·simp at h
  ·exact ⟨r, by rw [← rowOf_fst]; exact h⟩
 | k + 1, P, Q, h => by
  obtain ⟨_, r, c, P2, _, _, _, h⟩ := h
  exact Bl.Gre.goal h
theorem oth3 {w : World} {g k : Nat} (hk : k ≠ g) (a b c : Value) : ((((w.setCell ⟨g, 0, none⟩ a).setCell ⟨g, 1, none⟩ b).setCell ⟨g, 2, none⟩ c)).heap[k]? = w.heap[k]? :=
 heap_setCells_other hk [a, b, c] 0 w
theorem own_set3 {w : World} {base e size n g : Nat} {v : Value} {xs : List Value} (h : w.ownsRow base e size v n xs) (hg : g < base) (a b c : Value) : (((w.setCell ⟨g, 0, none⟩ a).setCell ⟨g, 1, none⟩ b).setCell ⟨g, 2, none⟩ c).ownsRow base e size v n xs := by
 refine h.kept (row := some g) ⟨rfl, rfl, rfl, Nat.le_of_eq (by simp [World.setCell]), fun k _ hne => oth3 (fun q => hne (by rw [q])) a b c⟩ ?_
 cases q : v.ownBlock with
 | none => exact Or.inl rfl
 | some k =>
  refine Or.inr (fun e => ?_)
  have := (h.lt k q).1
  simp only [Option.some.injEq] at e
  omega
theorem NewIn.below {w w' : World} {rows : List Rl} {ra : Option Addr} {n m : Nat} {gl : List (Nat × Rat)} {ga : Option Addr} {gc : Nat} (h : NewIn w rows ra n m gl ga gc) (hb : Below w.heap.size w w') : NewIn w' rows ra n m gl ga gc :=
 ⟨h.hr.below hb, h.hm, h.hg.below hb, h.hgc, h.hn, h.hm60, h.hv⟩
theorem lpg_any {w : World} {rows : List Rl} {ra : Option Addr} {rc n m k k2 : Nat} {gl : List (Nat × Rat)} {ga : Option Addr} {gc : Nat} {Q Q2 : Pb} {is : Bool} (h : NewIn w rows ra n m gl ga gc)
  (hF : Fes 1048576 k (Pb0 (lns rows) n (cof gl)) Q none) (hG : Gre 1048576 k2 Q Q2 is) (hs : is = true → Sz (Q2.now (n + m)).s 1048576) :
  Calls Try.prog 20 #[.slice ra m rc, .int .i64 (n : Int), .slice ga gl.length gc] w fun e w' => Below w.heap.size w w' ∧
   ((is = false ∧ e = .returned (.tuple #[.agg #[.bool false, .slice none 0 0, .slice none 0 0], .bool false, .bool false, .slice none 0 0])) ∨
    (is = true ∧ ∃ (M : Nw) (v : Value) (r : Nat), e = .returned (.tuple #[.agg #[.bool M.s, .slice M.a M.n M.c, .slice M.b M.m M.d], .bool true, .bool (decide ((Q2.now (n + m)).s = 0)), v]) ∧ RA w' (Q2.now (n + m)).m M ∧
     fstAt Q2.basic (n + m) (m + 1) = some r ∧ w'.ownsRow w.heap.size 3 1 v (Q2.tight r).length (nats (Q2.tight r)))) := by
 have B0 := Lib.hid (below_new w (.cells #[.bool false, .slice none 0 0, .slice none 0 0] 26))
 have X0 : Hid (NQ (w.alloc (.cells #[.bool false, .slice none 0 0, .slice none 0 0] 26)) w.heap.size Nw.zero) := heap_alloc_new w _
 have h := h.below B0.out
 have N0 : Hid ((Pb0 (lns rows) n (cof gl)).n = n ∧ (Pb0 (lns rows) n (cof gl)).m = m + 1) := ⟨rfl, by show (lns rows).length + 1 = m + 1; rw [lns_len, h.hm]⟩
 have PL := Lib.hid (Pb0.pl (lns rows) n (cof gl))
 have C := Lib.hid (new_any (rc := rc) (N := n + m + 1) h.hr h.hm h.hg h.hgc h.hn h.hm60 rfl h.hv)
 have HF := Lib.hid hF; have HG := Lib.hid hG; have HS := Lib.hid hs
 obtain ⟨P0, hP0⟩ : ∃ P0, Pb0 (lns rows) n (cof gl) = P0 := ⟨_, rfl⟩
 rw [hP0] at N0 PL C HF
 clear h hF hG hs hP0
 go_enter Try.func20, Try.ntmps20
 go_upto_region 1 with fail
 generalize w.alloc (.cells #[.bool false, .slice none 0 0, .slice none 0 0] 26) = W0 at *
 obtain ⟨g6, hg6⟩ : ∃ g6, w.heap.size = g6 := ⟨_, rfl⟩
 have HG6 := Lib.hid hg6
 rw [hg6] at X0 ⊢
 clear hg6
 go_upto_if 24 with (first
  | (go_at_call 28; refine C.out.mono ?_; rintro e w1 ⟨L, rfl, hP, hB⟩; have CC := Lib.hid (fes_any (R := fun _ _ => True) hP PL.out HF.out (fun _ _ _ h => by simp at h)); have B1 := Lib.hid hB; clear hP hB C)
  | (go_at_call 29; refine CC.out.mono ?_; rintro e w2 ⟨v, rfl, h1, h2, hS⟩; have B2 := Lib.hid (Below.trans B1.out hS.bl); have CG := Lib.hid (gre_any hS.at_ hS.pl HG.out); have NQ2 := Lib.hid (And.intro hS.en hS.em); clear hS CC B1 h1 h2)
  | (go_at_call 32; refine CG.out.mono ?_; rintro e w3 ⟨⟨M, S, rfl, hR⟩, e1, e2, hp, hA, hB, hL, hO⟩; have B3 := Lib.hid (Below.trans B2.out hB); have AT := Lib.hid hA; have PLQ := Lib.hid hp; have NN := Lib.hid (And.intro e1 e2); have HR := Lib.hid hR; clear hA hB hp e1 e2 hR hL hO CG B2))
 have BV := Lib.hid (below_new w3 (.cells #[.bool M.s, .slice M.a M.n M.c, .slice M.b M.m M.d, .bool S.s, .slice S.a S.n S.c, .slice S.b S.m S.d] 76))
 have XV : Hid (VB (w3.alloc (.cells #[.bool M.s, .slice M.a M.n M.c, .slice M.b M.m M.d, .bool S.s, .slice S.a S.n S.c, .slice S.b S.m S.d] 76)) w3.heap.size M S) := heap_alloc_new w3 _
 obtain ⟨g11, hg11⟩ : ∃ g11, w3.heap.size = g11 := ⟨_, rfl⟩
 have B5 := Lib.hid (Below.over B3.out B3.out.size BV.out)
 have A5 := Lib.hid (AT.out.below BV.out)
 rw [hg11] at XV ⊢
 have X5 : Hid (NQ (w3.alloc (.cells #[.bool M.s, .slice M.a M.n M.c, .slice M.b M.m M.d, .bool S.s, .slice S.a S.n S.c, .slice S.b S.m S.d] 76)) g6 Nw.zero) := X0.out.later B5.out X0.out.lt
 have RMS : Hid (is = true → RA (w3.alloc (.cells #[.bool M.s, .slice M.a M.n M.c, .slice M.b M.m M.d, .bool S.s, .slice S.a S.n S.c, .slice S.b S.m S.d] 76)) (Q2.now (n + m)).m M ∧ RA (w3.alloc (.cells #[.bool M.s, .slice M.a M.n M.c, .slice M.b M.m M.d, .bool S.s, .slice S.a S.n S.c, .slice S.b S.m S.d] 76)) (Q2.now (n + m)).s S) := fun h => by
  obtain ⟨a, b⟩ := HR.out h
  rw [NQ2.out.1, NQ2.out.2, N0.out.1, N0.out.2] at a b
  exact ⟨a.below BV.out, b.below BV.out⟩
 have FST : Hid (is = true → ∃ r, fstAt Q2.basic (Q2.n + Q2.m - 1) Q2.m = some r) := fun h => by
  have := HG.out
  rw [h] at this
  exact this.goal
 have NM : Hid (Q2.n + Q2.m - 1 = n + m ∧ Q2.m = m + 1) := by
  show _ ∧ _
  rw [NN.out.1, NN.out.2, NQ2.out.1, NQ2.out.2, N0.out.1, N0.out.2]
  omega
 have g6w : Hid (w.heap.size = g6) := HG6
 clear HR AT BV B3 hg11
 generalize w3.alloc (.cells #[.bool M.s, .slice M.a M.n M.c, .slice M.b M.m M.d, .bool S.s, .slice S.a S.n S.c, .slice S.b S.m S.d] 76) = W5 at *
 obtain ⟨z0, z1, z2, fz⟩ := X5.out.reads
 have fz0 := fz 0; have fz1 := fz 1; have fz2 := fz 2
 clear fz
 have BW : Hid (Below w.heap.size w W5) := Below.over B0.out B0.out.size B5.out
 cases is with
 | false =>
  go_wp2_with fail
  have XN := X5.out.set3 Nw.zero
  have BN := below_set3 BW.out g6 (Nat.le_of_eq HG6.out) (.bool false) (.slice none 0 0) (.slice none 0 0)
  have x0 : (((W5.setCell ⟨g6, 0, none⟩ (.bool false)).setCell ⟨g6, 1, none⟩ (.slice none 0 0)).setCell ⟨g6, 2, none⟩ (.slice none 0 0)).cell? ⟨g6, 0, none⟩ = some (.bool false) := XN.reads.1
  have x1 : (((W5.setCell ⟨g6, 0, none⟩ (.bool false)).setCell ⟨g6, 1, none⟩ (.slice none 0 0)).setCell ⟨g6, 2, none⟩ (.slice none 0 0)).cell? ⟨g6, 1, none⟩ = some (.slice none 0 0) := XN.reads.2.1
  have x2 : (((W5.setCell ⟨g6, 0, none⟩ (.bool false)).setCell ⟨g6, 1, none⟩ (.slice none 0 0)).setCell ⟨g6, 2, none⟩ (.slice none 0 0)).cell? ⟨g6, 2, none⟩ = some (.slice none 0 0) := XN.reads.2.2.1
  refine bodyPost_ret (v := .tuple #[.agg #[.bool false, .slice none 0 0, .slice none 0 0], .bool false, .bool false, .slice none 0 0]) (by simp [results, Try.results20, go_sem, x0, x1, x2]) rfl ?_
  exact ⟨BN, rfl⟩
 | true =>
  clear z0 z1 z2 fz0 fz1 fz2
  obtain ⟨r, hr⟩ := FST.out rfl
  have FR := Lib.hid hr
  have RM := Lib.hid (RMS.out rfl).1
  have RS := Lib.hid (RMS.out rfl).2
  have SG := Lib.hid (rsign_any (RS.out.below (Below.refl W5.heap.size W5).drew))
  obtain ⟨t0, t1, t2, t3, t4, t5, _⟩ := XV.out.reads
  clear hr RMS FST
  have KP := Lib.hid (fun (W : World) (hB : Below W5.heap.size W5 W) => (show W.cell? ⟨g11, 0, none⟩ = some (.bool M.s) ∧ W.cell? ⟨g11, 1, none⟩ = some (.slice M.a M.n M.c) ∧ W.cell? ⟨g11, 2, none⟩ = some (.slice M.b M.m M.d) ∧ W.cell? ⟨g11, 3, none⟩ = some (.bool S.s) ∧ W.cell? ⟨g11, 4, none⟩ = some (.slice S.a S.n S.c) ∧ W.cell? ⟨g11, 5, none⟩ = some (.slice S.b S.m S.d) from ⟨cell_later hB (Nat.le_refl _) t0, cell_later hB (Nat.le_refl _) t1, cell_later hB (Nat.le_refl _) t2, cell_later hB (Nat.le_refl _) t3, cell_later hB (Nat.le_refl _) t4, cell_later hB (Nat.le_refl _) t5⟩))
  obtain ⟨z, hz⟩ : ∃ z, rsgn (Q2.now (n + m)).s = z := ⟨_, rfl⟩
  have HZ := Lib.hid hz
  rw [hz] at SG
  clear hz
  have NE : Hid (g11 ≠ g6) := by show _ ≠ _; intro e; have h1 := X5.out; have h2 := XV.out; unfold VB at h2; unfold NQ at h1; rw [e, h1] at h2; simp at h2
  go_upto_region 6 with fail
  refine Rg.wpD_start 11 [] (fun W => W.cell? ⟨g11, 0, none⟩ = some (.bool M.s) ∧ W.cell? ⟨g11, 1, none⟩ = some (.slice M.a M.n M.c) ∧ W.cell? ⟨g11, 2, none⟩ = some (.slice M.b M.m M.d) ∧ W.cell? ⟨g11, 3, none⟩ = some (.bool S.s) ∧ W.cell? ⟨g11, 4, none⟩ = some (.slice S.a S.n S.c) ∧ W.cell? ⟨g11, 5, none⟩ = some (.slice S.b S.m S.d)) (by kernel_rfl) (by kernel_rfl) ?_ (fun hS ok inv => ?_)
  ·exact ⟨t0, t1, t2, t3, t4, t5⟩
  refine Rg.tk 0 rfl ok inv hS fun inv => ?_
  refine Rg.tk 1 rfl ok inv hS fun inv => ?_
  refine Rg.tk 2 rfl ok inv hS fun inv => ?_
  refine Rg.tk 3 rfl ok inv hS fun inv => ?_
  refine Rg.tk 6 rfl ok inv hS fun inv => ?_
  refine Rg.w1 4 rfl inv fun K' hK => ?_
  go_simp
  go_at_call 33
  refine (SG.out).mono ?_
  rintro e w6 ⟨rfl, B6⟩
  have B6 := undrew B6
  have KS := KP.out w6 B6
  have A6 := Lib.hid (A5.out.below B6)
  have RM6 := Lib.hid (RM.out.below B6)
  have BW6 := Lib.hid (Below.over BW.out BW.out.size B6)
  have X6 := Lib.hid (X5.out.later B6 X5.out.lt)
  have CT := Lib.hid (tight_any A6.out PLQ.out FR.out)
  refine Rg.st hK ?_ fun hS inv => ?_
  ·exact KS
  clear hK K'
  refine Rg.tk 5 rfl ok inv hS fun inv => ?_
  refine Rg.w1 7 rfl inv fun K' hK => ?_
  go_simp
  go_at_call 34
  refine (CT.out).mono ?_
  rintro e w7 ⟨v7, rfl, hO, B7⟩
  have KS := KP.out w7 (Below.over B6 B6.size B7)
  have RM7 := Lib.hid (RM6.out.below B7)
  have BW7 := Lib.hid (Below.over BW6.out BW6.out.size B7)
  have X7 := Lib.hid (X6.out.later B7 X6.out.lt)
  have OT := Lib.hid hO
  have BVV := Lib.hid (Below.over B6 B6.size B7)
  obtain ⟨_, _, _, fz⟩ := X7.out.reads
  have fz0 := fz 0; have fz1 := fz 1; have fz2 := fz 2
  clear fz hO
  refine Rg.st hK ?_ fun hS inv => ?_
  ·exact KS
  clear hK K'
  refine Rg.w1 8 rfl inv fun K' hK => ?_
  have XVv := XV.out.later BVV.out XV.out.lt
  have KS8 := (show (((w7.setCell ⟨g6, 0, none⟩ (.bool M.s)).setCell ⟨g6, 1, none⟩ (.slice M.a M.n M.c)).setCell ⟨g6, 2, none⟩ (.slice M.b M.m M.d)).cell? ⟨g11, 0, none⟩ = some (.bool M.s) ∧ (((w7.setCell ⟨g6, 0, none⟩ (.bool M.s)).setCell ⟨g6, 1, none⟩ (.slice M.a M.n M.c)).setCell ⟨g6, 2, none⟩ (.slice M.b M.m M.d)).cell? ⟨g11, 1, none⟩ = some (.slice M.a M.n M.c) ∧ (((w7.setCell ⟨g6, 0, none⟩ (.bool M.s)).setCell ⟨g6, 1, none⟩ (.slice M.a M.n M.c)).setCell ⟨g6, 2, none⟩ (.slice M.b M.m M.d)).cell? ⟨g11, 2, none⟩ = some (.slice M.b M.m M.d) ∧ (((w7.setCell ⟨g6, 0, none⟩ (.bool M.s)).setCell ⟨g6, 1, none⟩ (.slice M.a M.n M.c)).setCell ⟨g6, 2, none⟩ (.slice M.b M.m M.d)).cell? ⟨g11, 3, none⟩ = some (.bool S.s) ∧ (((w7.setCell ⟨g6, 0, none⟩ (.bool M.s)).setCell ⟨g6, 1, none⟩ (.slice M.a M.n M.c)).setCell ⟨g6, 2, none⟩ (.slice M.b M.m M.d)).cell? ⟨g11, 4, none⟩ = some (.slice S.a S.n S.c) ∧ (((w7.setCell ⟨g6, 0, none⟩ (.bool M.s)).setCell ⟨g6, 1, none⟩ (.slice M.a M.n M.c)).setCell ⟨g6, 2, none⟩ (.slice M.b M.m M.d)).cell? ⟨g11, 5, none⟩ = some (.slice S.b S.m S.d) from (VB.reads (g := g11) (M := M) (S := S) ((oth3 (w := w7) (g := g6) NE.out (.bool M.s) (.slice M.a M.n M.c) (.slice M.b M.m M.d)).trans XVv)) |> fun h => ⟨h.1, h.2.1, h.2.2.1, h.2.2.2.1, h.2.2.2.2.1, h.2.2.2.2.2.1⟩)
  (try simp only [zA, zB, zC])
  go_simp
  refine Rg.st hK ?_ fun hS inv => ?_
  ·exact KS8
  clear hK K'
  refine Rg.tk 9 rfl ok inv hS fun inv => ?_
  refine Rg.tk 10 rfl ok inv hS fun inv => ?_
  refine Rg.wl rfl ?_
  go_simp
  go_wp2_with fail
  have XN := X7.out.set3 M
  have LN := X7.out.limb3 M
  have BN := below_set3 BW7.out g6 (Nat.le_of_eq HG6.out) (.bool M.s) (.slice M.a M.n M.c) (.slice M.b M.m M.d)
  have ON := own_set3 (g := g6) OT.out (Nat.lt_of_lt_of_le X6.out.lt (Nat.le_refl _)) (.bool M.s) (.slice M.a M.n M.c) (.slice M.b M.m M.d)
  obtain ⟨x0, x1, x2, _⟩ := XN.reads
  refine bodyPost_ret (v := .tuple #[.agg #[.bool M.s, .slice M.a M.n M.c, .slice M.b M.m M.d], .bool true, .bool (z == 0), v7]) (by simp [results, Try.results20, go_sem, x0, x1, x2]) rfl ?_
  have ZE : (z == 0) = decide ((Q2.now (n + m)).s = 0) := by
   rw [← HZ.out]
   by_cases q : (Q2.now (n + m)).s = 0
   ·rw [rsgn_zero.2 q]; simp [q]
   ·have : rsgn (Q2.now (n + m)).s ≠ 0 := fun e => q (rsgn_zero.1 e)
    simp [q, this]
  have F := FR.out
  rw [NM.out.1, NM.out.2] at F
  exact ⟨BN, M, v7, by rw [ZE], RM7.out.limb LN, r, F, World.ownsRow.mono ON (Nat.le_trans BW6.out.size (Nat.le_refl _))⟩
end Go.Proofs.Ytijdglogadnbcaa
