/- Problem.Feasible. Printed by genFb.py. -/
import Derived.Test.YtijdglogadnbcaaZ35
import Derived.Test.YtijdglogadnbcaaZ24
import Derived.Deep.LoopGhost
import Derived.Test.YtijdglogadnbcaaZ34
set_option linter.unusedVariables false
set_option linter.unusedSimpArgs false
set_option maxRecDepth 100000
set_option maxHeartbeats 40000000
namespace Go.Proofs.Ytijdglogadnbcaa
open Go.RowKit Nt Bl
/-- Where the walk of Feasible stands. -/
structure FeS (n0 : Nat) (w : World) (L : Lay) (P P1 : Pb) (wr : World) : Prop where
 pl : P1.Pl
 en : P1.n = P.n
 em : P1.m = P.m
 at_ : PAt n0 wr L P1
 bl : Below n0 w wr
 lb : Limb w wr
 ow : Own L P w wr
theorem FeS.below {n0 : Nat} {w : World} {L : Lay} {P P1 : Pb} {wr w' : World} (h : FeS n0 w L P P1 wr) (hn : n0 ≤ w.heap.size) (hb : Below wr.heap.size wr w') : FeS n0 w L P P1 w' :=
 ⟨h.pl, h.en, h.em, h.at_.below hb, Below.trans h.bl (hb.mono (Nat.le_trans hn h.bl.size)), h.lb.trans (Limb.of_below hb), h.ow.below h.bl.size hb⟩
theorem Own.p' {L : Lay} {P P' : Pb} {w w' : World} (h : Own L P' w w') (e : P'.m = P.m) : Own L P w w' := fun b l a1 a2 a3 a4 => h b l a1 a2 a3 (by rw [e]; exact a4)
theorem Bl.Fes.sz {K k : Nat} {P Q : Pb} {x : Option (Nat × Bool)} (h : Fes K k P Q x) : PSz P K := by
 cases k with
 | zero => exact h.1
 | succ k => exact h.1
def FeL (n0 : Nat) (w : World) (L : Lay) (P Q : Pb) (x : Option (Nat × Bool)) (k : Nat) (wr : World) : Prop :=
 ∃ P' : Pb, Fes 1048576 k P' Q x ∧ FeS n0 w L P P' wr
def FePost (n0 : Nat) (w : World) (L : Lay) (P Q : Pb) (x : Option (Nat × Bool)) (R : Value → World → Prop) (e : Ending) (w' : World) : Prop :=
 ∃ v, e = .returned (.tuple #[v, .bool x.isNone]) ∧ (x = none → v = .slice none 0 0) ∧ (x ≠ none → R v w') ∧ FeS n0 w L P Q w'
theorem fes_any {n0 k : Nat} {w : World} {L : Lay} {P Q : Pb} {x : Option (Nat × Bool)} {R : Value → World → Prop} (h : PAt n0 w L P) (hp : P.Pl) (hF : Fes 1048576 k P Q x)
  (CF : ∀ (W : World) (r : Nat) (up : Bool), x = some (r, up) → PAt n0 W L Q → Calls Try.prog 49 #[.pointer (some ⟨L.p, 0, none⟩), .int .i64 (r : Int), .bool up] W fun e w' => ∃ v, e = .returned v ∧ R v w' ∧ Below W.heap.size W w') :
  Calls Try.prog 29 #[.pointer (some ⟨L.p, 0, none⟩)] w (FePost n0 w L P Q x R) := by
 have nm := h.nm; have cp := h.cp
 obtain ⟨N, hN⟩ : ∃ N, P.n + P.m = N := ⟨_, rfl⟩
 obtain ⟨m, hm⟩ : ∃ m, P.m = m := ⟨_, rfl⟩
 obtain ⟨n, hn⟩ : ∃ n, P.n = n := ⟨_, rfl⟩
 have n00 : n0 ≤ w.heap.size := Nat.le_of_lt (Nat.lt_of_le_of_lt h.ge.1 h.no.blk.lt)
 rw [hm, hn] at nm
 rw [hm, hn] at cp
 have HN := Lib.hid hN; have HM := Lib.hid hm; have HNN := Lib.hid hn; have CFH := Lib.hid CF
 have HD := Lib.hid (fun (W : World) (P' : Pb) (h : PAt n0 W L P') (en : P'.n = P.n) (em : P'.m = P.m) => (show W.cell? ⟨L.p, 1, none⟩ = some (.slice (some ⟨L.low, 0, none⟩) N N) ∧ W.cell? ⟨L.p, 2, none⟩ = some (.slice (some ⟨L.high, 0, none⟩) N N) ∧ W.cell? ⟨L.p, 3, none⟩ = some (.slice (some ⟨L.now, 0, none⟩) N N) ∧ W.cell? ⟨L.p, 4, none⟩ = some (.slice (some ⟨L.bas, 0, none⟩) m L.basc) ∧ W.cell? ⟨L.p, 6, none⟩ = some (.slice (some ⟨L.tab, 0, none⟩) m L.tabc) from by
  have := h.head; rw [en, em, hN, hm] at this; exact ⟨this.2.1, this.2.2.1, this.2.2.2.1, this.2.2.2.2.1, this.2.2.2.2.2.2⟩))
 have J0 : Hid (FeL n0 w L P Q x k w) := ⟨P, hF, hp, rfl, rfl, h, Below.refl _ _, Limb.refl _, fun _ _ _ _ _ _ => rfl⟩
 clear h hp hF hN hm hn CF
 go_enter Try.func29, Try.ntmps29
 go_wp2_with fail
 go_loopg [4, 5] k (fun gk _ _ wr => FeL n0 w L P Q x gk wr)
 case atStart => exact J0.out
 case round =>
  clear J0
  obtain ⟨P1, hG, hS⟩ := hrel
  have G := Lib.hid hG; have ST := Lib.hid hS
  have MP : Hid (P1.m = m) := hS.em.trans HM.out
  have NP : Hid (P1.n = n) := hS.en.trans HNN.out
  have SZ := Lib.hid hG.sz
  have C := brk_any hS.at_ hS.pl hG.sz
  have GC : Hid ((Q = P1 ∧ P1.brk = x ∧ ∀ r up, x = some (r, up) → P1.hlp r up = none) ∨ ∃ r up c b k', gk = k' + 1 ∧ P1.brk = some (r, up) ∧ P1.hlp r up = some c ∧ P1.goalEnd r up = some b ∧ PSz (P1.mv c (V.mul (1 / P1.T r c) (b.sub (P1.now (P1.basic r))))) 1048576 ∧ Fes 1048576 k' (P1.fst r c b) Q x) := by
   have g := G.out
   cases gk with
   | zero =>
    obtain ⟨_, e, e2, e3⟩ := g
    exact Or.inl ⟨e, e2, e3⟩
   | succ k' =>
    obtain ⟨_, r, up, c, b, g1, g2, g3, g4, g5⟩ := g
    exact Or.inr ⟨r, up, c, b, k', rfl, g1, g2, g3, g4, g5⟩
  obtain ⟨bo, hbo⟩ : ∃ bo, P1.brk = bo := ⟨_, rfl⟩
  rw [hbo] at C GC
  have C := Lib.hid C; have HBO := Lib.hid hbo
  clear hG hS hbo G
  cases bo with
  | none =>
   have G1 : Hid (P1 = Q ∧ x = none) := by
    rcases GC.out with ⟨e, e2, _⟩ | ⟨r, up, c, b, k', _, g, _⟩
    ·exact ⟨e.symm, e2.symm⟩
    ·simp at g
   clear GC
   go_wp2_with fail
   refine C.out.mono ?_
   rintro e w2 ⟨rfl, B2⟩
   have S2 := Lib.hid (ST.out.below n00 B2)
   clear B2 C ST
   simp only [rowI, upB]
   go_wp2_with fail
   go_ret2
   obtain ⟨e1, e2⟩ := G1.out
   subst e1 e2
   exact ⟨_, rfl, fun _ => rfl, fun q => absurd rfl q, S2.out⟩
  | some y =>
   obtain ⟨r, up⟩ := y
   have RM : Hid (r < P1.m) := by
    have bp := P1.brkT_prop P1.m
    have e := HBO.out
    unfold Pb.brk at e; rw [e] at bp
    exact bp.1
   go_wp2_with fail
   refine C.out.mono ?_
   rintro e w2 ⟨rfl, B2⟩
   have S2 := Lib.hid (ST.out.below n00 B2)
   clear B2 C ST
   simp only [rowI, upB]
   have r0 : (0 : Int) ≤ (r : Int) := by omega
   obtain ⟨ho, hho⟩ : ∃ ho, P1.hlp r up = ho := ⟨_, rfl⟩
   have C := hlp_any (up := up) S2.out.at_ S2.out.pl SZ.out RM.out
   rw [hho] at C
   have C := Lib.hid C; have HHO := Lib.hid hho
   clear hho
   cases ho with
   | none =>
    have G1 : Hid (Q = P1 ∧ x = some (r, up)) := by
     rcases GC.out with ⟨e, e2, _⟩ | ⟨r', up', c, b, k', _, g, g2, _⟩
     ·exact ⟨e, e2.symm⟩
     ·simp only [Option.some.injEq, Prod.mk.injEq] at g
      obtain ⟨rfl, rfl⟩ := g
      rw [HHO.out] at g2; simp at g2
    clear GC
    simp only [bestI] at C
    go_upto_region 6 with (go_at_call 48; refine C.out.mono ?_; rintro e w3 ⟨rfl, B3⟩; have S3 := Lib.hid (S2.out.below n00 B3); clear B3)
    have CQ : Hid (Calls Try.prog 49 #[.pointer (some ⟨L.p, 0, none⟩), .int .i64 (r : Int), .bool up] w3 fun e w' => ∃ v, e = .returned v ∧ R v w' ∧ Below w3.heap.size w3 w') :=
     CFH.out w3 r up G1.out.2 (by rw [G1.out.1]; exact S3.out.at_)
    go_wp2_with (go_at_call 49; refine CQ.out.mono ?_; rintro e w4 ⟨v, rfl, hR, B4⟩; have RV := Lib.hid hR; have S4 := Lib.hid (S3.out.below n00 B4); clear hR B4)
    go_ret2
    obtain ⟨e1, e2⟩ := G1.out
    subst e1 e2
    exact ⟨v, rfl, fun q => by simp at q, fun _ => RV.out, S4.out⟩
   | some c =>
    obtain ⟨b, k', ek, ge, mz, g5⟩ : ∃ b k', gk = k' + 1 ∧ P1.goalEnd r up = some b ∧ PSz (P1.mv c (V.mul (1 / P1.T r c) (b.sub (P1.now (P1.basic r))))) 1048576 ∧ Fes 1048576 k' (P1.fst r c b) Q x := by
     rcases GC.out with ⟨e, e2, e3⟩ | ⟨r', up', c', b, k', ek, g, g2, g3, g4, g5⟩
     ·have := e3 r up e2.symm
      rw [HHO.out] at this; simp at this
     ·simp only [Option.some.injEq, Prod.mk.injEq] at g
      obtain ⟨rfl, rfl⟩ := g
      rw [HHO.out] at g2
      simp only [Option.some.injEq] at g2
      subst g2
      exact ⟨b, k', ek, g3, g4, g5⟩
    have HE := P1.hlpT_prop r up P1.n
    have hh := HHO.out
    unfold Pb.hlp at hh
    rw [hh] at HE
    have CN : Hid (c < P1.n) := HE.1
    have TN : Hid (P1.T r c ≠ 0) := Pb.helps_nz HE.2.1
    have EK := Lib.hid ek; have GE := Lib.hid ge; have MZ := Lib.hid mz; have G5 := Lib.hid g5
    clear GC HE hh ek ge mz g5
    have cn : c < n := by have := CN.out; have := NP.out; omega
    have rm : r < m := by have := RM.out; have := MP.out; omega
    have c0 : (0 : Int) ≤ (c : Int) := by omega
    simp only [bestI] at C
    obtain ⟨bb, hbb⟩ : ∃ bb, P1.basic r = bb := ⟨_, rfl⟩
    have HBB := Lib.hid hbb
    have BN : Hid (bb < P1.n + P1.m) := by show _ < _; rw [← hbb]; exact S2.out.pl.blt r RM.out
    have bN : bb < N := by have := BN.out; have := NP.out; have := MP.out; have := HN.out; have := HNN.out; have := HM.out; omega
    clear hbb
    have b00 : (0 : Int) ≤ (bb : Int) := by omega
    have b01 : (bb : Int) < (N : Int) := by omega
    have r1 : (r : Int) < (m : Int) := by omega
    go_upto_region 7 with (go_at_call 48; refine C.out.mono ?_; rintro e w3 ⟨rfl, B3⟩; have S3 := Lib.hid (S2.out.below n00 B3); clear B3)
    obtain ⟨q1, q2, q3, q4, q6⟩ := HD.out w3 P1 S3.out.at_ S3.out.en S3.out.em
    have pb : w3.cell? ⟨L.bas, r, none⟩ = some (.int .i64 (bb : Int)) := by rw [← HBB.out]; exact S3.out.at_.ba.at_ r RM.out
    obtain ⟨his, M8, S8, hev, h0, h1, h2, h3, h4, h5, h6⟩ := (S3.out.at_.hi.at_ bb BN.out).r7
    obtain ⟨lis, M9, S9, lev, l0, l1, l2, l3, l4, l5, l6⟩ := (S3.out.at_.lo.at_ bb BN.out).r7
    have hev := Lib.hid hev; have lev := Lib.hid lev
    have B8 := Lib.hid (below_new w3 (.cells #[.bool M8.s, .slice M8.a M8.n M8.c, .slice M8.b M8.m M8.d, .bool S8.s, .slice S8.a S8.n S8.c, .slice S8.b S8.m S8.d] 76))
    have X8 : Hid (VB (w3.alloc (.cells #[.bool M8.s, .slice M8.a M8.n M8.c, .slice M8.b M8.m M8.d, .bool S8.s, .slice S8.a S8.n S8.c, .slice S8.b S8.m S8.d] 76)) w3.heap.size M8 S8) := heap_alloc_new w3 _
    have LL : Hid ((w3.alloc (.cells #[.bool M8.s, .slice M8.a M8.n M8.c, .slice M8.b M8.m M8.d, .bool S8.s, .slice S8.a S8.n S8.c, .slice S8.b S8.m S8.d] 76)).cell? ⟨L.p, 1, none⟩ = some (.slice (some ⟨L.low, 0, none⟩) N N) ∧ (w3.alloc (.cells #[.bool M8.s, .slice M8.a M8.n M8.c, .slice M8.b M8.m M8.d, .bool S8.s, .slice S8.a S8.n S8.c, .slice S8.b S8.m S8.d] 76)).cell? ⟨L.low, bb * 7 + 1, none⟩ = some (.bool M9.s) ∧ (w3.alloc (.cells #[.bool M8.s, .slice M8.a M8.n M8.c, .slice M8.b M8.m M8.d, .bool S8.s, .slice S8.a S8.n S8.c, .slice S8.b S8.m S8.d] 76)).cell? ⟨L.low, bb * 7 + 2, none⟩ = some (.slice M9.a M9.n M9.c) ∧ (w3.alloc (.cells #[.bool M8.s, .slice M8.a M8.n M8.c, .slice M8.b M8.m M8.d, .bool S8.s, .slice S8.a S8.n S8.c, .slice S8.b S8.m S8.d] 76)).cell? ⟨L.low, bb * 7 + 3, none⟩ = some (.slice M9.b M9.m M9.d) ∧ (w3.alloc (.cells #[.bool M8.s, .slice M8.a M8.n M8.c, .slice M8.b M8.m M8.d, .bool S8.s, .slice S8.a S8.n S8.c, .slice S8.b S8.m S8.d] 76)).cell? ⟨L.low, bb * 7 + 4, none⟩ = some (.bool S9.s) ∧ (w3.alloc (.cells #[.bool M8.s, .slice M8.a M8.n M8.c, .slice M8.b M8.m M8.d, .bool S8.s, .slice S8.a S8.n S8.c, .slice S8.b S8.m S8.d] 76)).cell? ⟨L.low, bb * 7 + 5, none⟩ = some (.slice S9.a S9.n S9.c) ∧ (w3.alloc (.cells #[.bool M8.s, .slice M8.a M8.n M8.c, .slice M8.b M8.m M8.d, .bool S8.s, .slice S8.a S8.n S8.c, .slice S8.b S8.m S8.d] 76)).cell? ⟨L.low, bb * 7 + 6, none⟩ = some (.slice S9.b S9.m S9.d)) :=
     ⟨cell_later B8.out (Nat.le_refl _) q1, cell_later B8.out (Nat.le_refl _) l1, cell_later B8.out (Nat.le_refl _) l2, cell_later B8.out (Nat.le_refl _) l3, cell_later B8.out (Nat.le_refl _) l4, cell_later B8.out (Nat.le_refl _) l5, cell_later B8.out (Nat.le_refl _) l6⟩
    go_upto_region 9 with fail
    clear q1 q2 q3 q4 q6 pb h0 h1 h2 h3 h4 h5 h6 l0 l1 l2 l3 l4 l5 l6 C
    obtain ⟨g8, hg8⟩ : ∃ g8, w3.heap.size = g8 := ⟨_, rfl⟩
    have HG8 := Lib.hid hg8
    rw [hg8] at X8 ⊢
    generalize w3.alloc (.cells #[.bool M8.s, .slice M8.a M8.n M8.c, .slice M8.b M8.m M8.d, .bool S8.s, .slice S8.a S8.n S8.c, .slice S8.b S8.m S8.d] 76) = W4 at *
    clear hg8
    obtain ⟨p1, l1, l2, l3, l4, l5, l6⟩ := LL.out
    obtain ⟨_, _, _, _, _, _, fz⟩ := X8.out.reads
    have fz0 := fz 0; have fz1 := fz 1; have fz2 := fz 2; have fz3 := fz 3; have fz4 := fz 4; have fz5 := fz 5
    clear fz LL
    go_upto_if 42 with fail
    go_cut [5] (fun s5 W => s5 = .bool up ∧ Below w3.heap.size w3 W ∧ ∃ M S, VB W g8 M S ∧ RA W b.m M ∧ RA W b.s S)
    case first =>
     cases up with
     | false =>
      have e : P1.high bb = some b := by have := GE.out; unfold Pb.goalEnd at this; rw [HBB.out] at this; simpa using this
      obtain ⟨a1, a2⟩ := hev.out.at_ b e
      have a1 := Lib.hid (RAt.below a1 B8.out); have a2 := Lib.hid (RAt.below a2 B8.out)
      clear e
      go_wp2_with fail
      go_meet
      case rel => exact ⟨rfl, B8.out, M8, S8, X8.out, a1.out, a2.out⟩
     | true =>
      have e : P1.low bb = some b := by have := GE.out; unfold Pb.goalEnd at this; rw [HBB.out] at this; simpa using this
      obtain ⟨a1, a2⟩ := lev.out.at_ b e
      have a1 := Lib.hid (RAt.below a1 B8.out); have a2 := Lib.hid (RAt.below a2 B8.out)
      clear e
      go_wp2_with fail
      go_meet
      case rel => exact ⟨rfl, below_set6 B8.out (Nat.le_of_eq HG8.out) _ _ _ _ _ _, M9, S9, X8.out.set6 M9 S9, RA.limb (N := M9) a1.out (X8.out.limb6 M9 S9), RA.limb (N := S9) a2.out (X8.out.limb6 M9 S9)⟩
    case rest =>
     obtain ⟨rfl, hB, M5, S5, hX, hm5, hs5⟩ := hcut
     have S4 := Lib.hid (S3.out.below n00 hB)
     clear X8 fz0 fz1 fz2 fz3 fz4 fz5 p1 l1 l2 l3 l4 l5 l6 hev lev B8 hB
     obtain ⟨t0, t1, t2, t3, t4, t5, _⟩ := hX.reads
     obtain ⟨q1, q2, q3, q4, q6⟩ := HD.out wc P1 S4.out.at_ S4.out.en S4.out.em
     obtain ⟨M, S, rn1, rn2, c0', c1', c2', c3', c4', c5'⟩ := (S4.out.at_.no.at_ bb BN.out).reads
     have cn0 : 0 < P1.n := by have := CN.out; omega
     obtain ⟨la, li⟩ := S4.out.at_.li cn0 r RM.out
     have tr : wc.cell? ⟨L.tab, r, none⟩ = some (.slice (some ⟨L.line r, 0, none⟩) n n) := by have := S4.out.at_.ta r RM.out; rw [la, NP.out] at this; exact this
     obtain ⟨E, e0, e1, e2, rE⟩ := li.at_ c CN.out
     have BS : Hid (Sz b.m 1048576 ∧ Sz b.s 1048576) := by
      have g := GE.out
      unfold Pb.goalEnd at g
      rw [HBB.out] at g
      cases up with
      | true => exact SZ.out.low bb b BN.out (by simpa using g)
      | false => exact SZ.out.high bb b BN.out (by simpa using g)
     go_upto_region 11 with fail
     refine wp_only (fe_r11 (q := P1.T r c) (u := b) (nb := P1.now bb) t0 t1 t2 t3 t4 t5 q3 c0' c1' c2' c3' c4' c5' q6 tr e0 e1 e2 ⟨hm5, hs5⟩ ⟨rn1, rn2⟩ BS.out (SZ.out.now bb BN.out) rE (SZ.out.tab r c RM.out CN.out) TN.out bN rm cn fun g9 M9 S9 x51 x52 x53 x54 x55 x56 x57 x58 x59 x60 x61 x62 x63 x64 x65 x66 x67 x68 x69 x70 x71 x72 W5 hX9 hm9 hs9 hB9 => ?_) (fun _ _ h => h)
     have S5' := Lib.hid (S4.out.below n00 hB9)
     have rw9 : P1.now (P1.basic r) = P1.now bb := by rw [HBB.out]
     obtain ⟨by_, hby⟩ : ∃ by_, V.mul (1 / P1.T r c) (b.sub (P1.now bb)) = by_ := ⟨_, rfl⟩
     have HBY : Hid (V.mul (1 / P1.T r c) (b.sub (P1.now (P1.basic r))) = by_) := by show _ = _; rw [rw9]; exact hby
     have BYZ : Hid (Sz by_.m 16777216 ∧ Sz by_.s 16777216) := by
      show _ ∧ _
      rw [← hby]
      have i := Sz.inv (SZ.out.tab r c RM.out CN.out) TN.out
      exact ⟨Sz.mono (Sz.mul i (Sz.sub BS.out.1 (SZ.out.now bb BN.out).1)) (by omega), Sz.mono (Sz.mul i (Sz.sub BS.out.2 (SZ.out.now bb BN.out).2)) (by omega)⟩
     rw [hby] at hm9 hs9
     have C := Lib.hid (mv_any S5'.out.at_ S5'.out.pl SZ.out CN.out hm9 hs9 BYZ.out.1 BYZ.out.2)
     obtain ⟨y0, y1, y2, y3, y4, y5, _⟩ := hX9.reads
     clear hX hm5 hs5 t0 t1 t2 t3 t4 t5 q1 q2 q3 q4 q6 rn1 rn2 c0' c1' c2' c3' c4' c5' la li tr e0 e1 e2 rE hX9 hm9 hs9 hB9 hby rw9 S4
     go_upto_region 13 with (go_at_call 53; refine C.out.mono ?_; rintro e W6 ⟨rfl, hA, hB, hL, hO⟩; have A6 := Lib.hid hA; have B6 := Lib.hid (Below.trans S5'.out.bl hB); have L6 := Lib.hid (S5'.out.lb.trans hL); have O6 := Lib.hid (Own.trans S5'.out.ow S5'.out.bl.size (Own.p' hO S5'.out.em)); clear hA hB hL hO)
     have C7 := Lib.hid (pv_any (P := P1.mv c by_) A6.out SZ.out.tab RM.out CN.out TN.out)
     clear C y0 y1 y2 y3 y4 y5
     go_wp2_with (go_at_call 54; refine C7.out.mono ?_; rintro e W7 ⟨rfl, hA, hB, hL, hO⟩; have A7 := Lib.hid hA; have B7 := Lib.hid (Below.trans B6.out hB); have L7 := Lib.hid (L6.out.trans hL); have O7 := Lib.hid (Own.trans O6.out B6.out.size (Own.p' hO S5'.out.em)); clear hA hB hL hO)
     have NX : Hid (FeL n0 w L P Q x k' W7) := by
      refine ⟨P1.fst r c b, G5.out, ?_, S5'.out.en, S5'.out.em, ?_, B7.out, L7.out, O7.out⟩
      ·exact (Pb.mv_pl S5'.out.pl _ _).pivot RM.out CN.out
      ·show PAt n0 W7 L ((P1.mv c (V.mul (1 / P1.T r c) (b.sub (P1.now (P1.basic r))))).pivot r c)
       rw [HBY.out]; exact A7.out
     clear A7 B7 L7 O7 A6 B6 L6 O6 C7
     go_roundg k'
     case measure => have := EK.out; omega
     case rel => exact NX.out
/-- What the rows and the goal must be for lp.New. -/
structure NewIn (w : World) (rows : List Rl) (ra : Option Addr) (n m : Nat) (gl : List (Nat × Rat)) (ga : Option Addr) (gc : Nat) : Prop where
 hr : RlsAt w rows ra
 hm : rows.length = m
 hg : QfAt w gl ga
 hgc : gl.length ≤ gc ∧ gc ≤ 9223372036854775807
 hn : n ≤ 60
 hm60 : m ≤ 60
 hv : ∀ i, i < m + 1 → ∀ j, j < (rq (alR rows gl) i).cs.length → (cq (rq (alR rows gl) i).cs j).1 < n
theorem lpf_any {w : World} {rows : List Rl} {ra : Option Addr} {rc n m k : Nat} {Q : Pb} {x : Option (Nat × Bool)} {R : Value → World → Prop} (h : NewIn w rows ra n m [] none 0)
  (hF : Fes 1048576 k (Pb0 (lns rows) n (cof [])) Q x)
  (CF : ∀ (L : Lay) (W : World) (r : Nat) (up : Bool), x = some (r, up) → PAt w.heap.size W L Q → Calls Try.prog 49 #[.pointer (some ⟨L.p, 0, none⟩), .int .i64 (r : Int), .bool up] W fun e w' => ∃ v, e = .returned v ∧ R v w' ∧ Below W.heap.size W w') :
  Calls Try.prog 18 #[.slice ra m rc, .int .i64 (n : Int)] w fun e w' => ∃ v, e = .returned (.tuple #[v, .bool x.isNone]) ∧ (x = none → v = .slice none 0 0) ∧ (x ≠ none → R v w') ∧ Below w.heap.size w w' := by
 have C := Lib.hid (new_any (rc := rc) (N := n + m + 1) h.hr h.hm h.hg h.hgc h.hn h.hm60 rfl h.hv)
 have HF := Lib.hid hF
 have HC := Lib.hid CF
 have PL := Lib.hid (Pb0.pl (lns rows) n (cof []))
 clear h hF CF
 go_enter Try.func18, Try.ntmps18
 go_wp2_with (first
  | (go_at_call 28; refine C.out.mono ?_; rintro e w1 ⟨L, rfl, hP, hB⟩; have CC := Lib.hid (fes_any hP PL.out HF.out (HC.out L)); have B1 := Lib.hid hB; clear hP hB C)
  | (go_at_call 29; refine CC.out.mono ?_; rintro e w2 ⟨v, rfl, h1, h2, hS⟩; have B2 := Lib.hid (Below.trans B1.out hS.bl); clear hS CC B1))
 refine bodyPost_ret (v := .tuple #[v, .bool x.isNone]) (by simp [results, Try.results18, go_sem]) rfl ?_
 exact ⟨v, rfl, h1, h2, B2.out⟩
end Go.Proofs.Ytijdglogadnbcaa
