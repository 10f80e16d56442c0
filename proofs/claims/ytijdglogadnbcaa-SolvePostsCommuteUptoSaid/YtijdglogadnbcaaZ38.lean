/- Problem.raise. Printed by genRz.py. -/
import Derived.Test.YtijdglogadnbcaaZ37
set_option linter.unusedVariables false
set_option linter.unusedSimpArgs false
set_option maxRecDepth 100000
set_option maxHeartbeats 40000000
namespace Go.Proofs.Ytijdglogadnbcaa
open Go.RowKit Nt Bl
/-- What stands in the variables least, best, limit behind the first i rows. -/
def bstI : Option (V × Option Nat) → Int
 | some (_, some r) => (r : Int)
 | _ => -1
def RzV (W : World) (x : Option (V × Option Nat)) (M S : Nw) : Prop := ∀ l b, x = some (l, b) → RA W l.m M ∧ RA W l.s S
theorem RzV.below {W W' : World} {x : Option (V × Option Nat)} {M S : Nw} (h : RzV W x M S) (hb : Below W.heap.size W W') : RzV W' x M S :=
 fun l b e => ⟨(h l b e).1.below hb, (h l b e).2.below hb⟩
theorem RZ0 (P : Pb) (g c : Nat) (rs : Bool) : bstI (P.rzT g c rs 0) = -1 := by
 unfold Pb.rzT
 cases (if rs then P.high (P.free c) else P.low (P.free c)) <;> rfl
def RzL (n0 : Nat) (w : World) (P : Pb) (g c : Nat) (rs : Bool) (gl : Nat) (v10 v11 v75 : Value) (wr : World) : Prop :=
 ∃ i : Nat, i ≤ P.m ∧ v75 = .int .i64 (i : Int) ∧ v10 = .int .i64 (bstI (P.rzT g c rs i)) ∧ v11 = .bool (P.rzT g c rs i).isSome ∧ Below w.heap.size w wr ∧
  ∃ M S : Nw, VB wr gl M S ∧ RzV wr (P.rzT g c rs i) M S
theorem rz_any {n0 g c : Nat} {w : World} {L : Lay} {P : Pb} (h : PAt n0 w L P) (hp : P.Pl) (hs : PSz P 1048576) (hg : g < P.m) (hc : c < P.n) :
  Calls Try.prog 57 #[.pointer (some ⟨L.p, 0, none⟩), .int .i64 (g : Int), .int .i64 (c : Int)] w fun e w' => (P.rz g c = none ∧ e = .returned (.bool false) ∧ Below w.heap.size w w') ∨
   ∃ Q, P.rz g c = some Q ∧ e = .returned (.bool true) ∧ PAt n0 w' L Q ∧ Below n0 w w' ∧ Limb w w' ∧ Own L P w w' := by
 have nm := h.nm; have cp := h.cp
 obtain ⟨N, hN⟩ : ∃ N, P.n + P.m = N := ⟨_, rfl⟩
 obtain ⟨m, hm'⟩ : ∃ m, P.m = m := ⟨_, rfl⟩
 obtain ⟨n, hn⟩ : ∃ n, P.n = n := ⟨_, rfl⟩
 have n00 : n0 ≤ w.heap.size := Nat.le_of_lt (Nat.lt_of_le_of_lt h.ge.1 h.no.blk.lt)
 have cn0 : 0 < P.n := by omega
 rw [hm'] at nm cp
 rw [hn] at nm cp
 have HN := Lib.hid hN; have HM := Lib.hid hm'; have HNN := Lib.hid hn
 have AT0 := Lib.hid h; have PL := Lib.hid hp; have SZ := Lib.hid hs; have HC := Lib.hid hc; have HGm := Lib.hid hg
 have HD := Lib.hid (fun (W : World) (h : PAt n0 W L P) => (show W.cell? ⟨L.p, 1, none⟩ = some (.slice (some ⟨L.low, 0, none⟩) N N) ∧ W.cell? ⟨L.p, 2, none⟩ = some (.slice (some ⟨L.high, 0, none⟩) N N) ∧ W.cell? ⟨L.p, 3, none⟩ = some (.slice (some ⟨L.now, 0, none⟩) N N) ∧ W.cell? ⟨L.p, 4, none⟩ = some (.slice (some ⟨L.bas, 0, none⟩) m L.basc) ∧ W.cell? ⟨L.p, 5, none⟩ = some (.slice (some ⟨L.freB, 0, none⟩) n L.frec) ∧ W.cell? ⟨L.p, 6, none⟩ = some (.slice (some ⟨L.tab, 0, none⟩) m L.tabc) from by
  have := h.head; rw [hN, hm', hn, (h.fr cn0).1] at this; exact this.2))
 have LI := Lib.hid (fun (W : World) (h : PAt n0 W L P) (i : Nat) (hi : i < P.m) => (show W.cell? ⟨L.tab, i, none⟩ = some (.slice (some ⟨L.line i, 0, none⟩) n n) ∧ LineR W (L.line i) P.n (P.T i) from by
  obtain ⟨la, li⟩ := h.li cn0 i hi
  have ti := h.ta i hi
  rw [la, hn] at ti
  exact ⟨ti, li⟩))
 obtain ⟨v, hv⟩ : ∃ v, P.free c = v := ⟨_, rfl⟩
 have vN : v < N := by rw [← hv, ← hN]; exact hp.flt c hc
 have HV := Lib.hid hv
 have g0 : (0 : Int) ≤ (g : Int) := by omega
 have g1 : (g : Int) < (m : Int) := by omega
 have c0 : (0 : Int) ≤ (c : Int) := by omega
 have c1 : (c : Int) < (n : Int) := by omega
 have v0 : (0 : Int) ≤ (v : Int) := by omega
 have v1 : (v : Int) < (N : Int) := by omega
 obtain ⟨rs, hrs⟩ : ∃ rs, P.rising g c = rs := ⟨_, rfl⟩
 obtain ⟨z, hz⟩ : ∃ z, rsgn (P.T g c) = z := ⟨_, rfl⟩
 have ZR : Hid (decide (0 < z) = rs) := by show _ = _; rw [← hz, ← hrs]; rfl
 have HRS := Lib.hid hrs; have HZ := Lib.hid hz
 obtain ⟨q1, q2, q3, q4, q5, q6⟩ := HD.out w AT0.out
 obtain ⟨tr, li⟩ := LI.out w AT0.out g hg
 obtain ⟨E, e0, e1, e2, rE⟩ := li.at_ c hc
 have SG := rsign_any rE
 rw [hz] at SG
 have SG := Lib.hid SG
 clear h hp hs hc hg hN hm' hn hv cn0 hrs hz li rE
 go_enter Try.func57, Try.ntmps57
 go_upto_region 2 with fail
 refine SG.out.mono ?_
 rintro e w1 ⟨rfl, B1⟩
 have A1 := AT0.out.below B1
 clear q1 q2 q3 q4 q5 q6 tr e0 e1 e2 SG
 obtain ⟨q1, q2, q3, q4, q5, q6⟩ := HD.out w1 A1
 have p : w1.cell? ⟨L.freB, c, none⟩ = some (.int .i64 (v : Int)) := by rw [← HV.out]; exact (A1.fr (by have := HC.out; omega)).2.at_ c HC.out
 have vN2 : v < P.n + P.m := by rw [HN.out]; exact vN
 go_upto_region 4 with fail
 have BA := Below.over B1 B1.size (below_new w1 (.cells #[.bool false, .slice none 0 0, .slice none 0 0, .bool false, .slice none 0 0, .slice none 0 0] 76))
 have X9 : VB (w1.alloc (.cells #[.bool false, .slice none 0 0, .slice none 0 0, .bool false, .slice none 0 0, .slice none 0 0] 76)) w1.heap.size Nw.zero Nw.zero := heap_alloc_new w1 _
 have A2 := AT0.out.below BA
 obtain ⟨gl, hgl⟩ : ∃ gl, w1.heap.size = gl := ⟨_, rfl⟩
 have gw : w.heap.size ≤ gl := by rw [← hgl]; exact B1.size
 rw [hgl] at X9 ⊢
 clear q1 q2 q3 q4 q5 q6 A1 B1 p
 generalize w1.alloc (.cells #[.bool false, .slice none 0 0, .slice none 0 0, .bool false, .slice none 0 0, .slice none 0 0] 76) = W0 at *
 clear hgl
 clear w1
 rw [ZR.out]
 obtain ⟨q1, q2, q3, q4, q5, q6⟩ := HD.out W0 A2
 obtain ⟨his, HM', HS', hev, h0, h1, h2, h3, h4, h5, h6⟩ := (A2.hi.at_ v vN2).r7
 obtain ⟨lis, LM', LS', lev, l0, l1, l2, l3, l4, l5, l6⟩ := (A2.lo.at_ v vN2).r7
 have KP := Lib.hid (fun (W : World) (hB : Below W0.heap.size W0 W) => (show W.cell? ⟨L.p, 1, none⟩ = some (.slice (some ⟨L.low, 0, none⟩) N N) ∧ W.cell? ⟨L.p, 2, none⟩ = some (.slice (some ⟨L.high, 0, none⟩) N N) ∧ W.cell? ⟨L.p, 3, none⟩ = some (.slice (some ⟨L.now, 0, none⟩) N N) ∧ W.cell? ⟨L.low, v * 7, none⟩ = some (.bool lis) ∧ W.cell? ⟨L.low, v * 7 + 1, none⟩ = some (.bool LM'.s) ∧ W.cell? ⟨L.low, v * 7 + 2, none⟩ = some (.slice LM'.a LM'.n LM'.c) ∧ W.cell? ⟨L.low, v * 7 + 3, none⟩ = some (.slice LM'.b LM'.m LM'.d) ∧ W.cell? ⟨L.low, v * 7 + 4, none⟩ = some (.bool LS'.s) ∧ W.cell? ⟨L.low, v * 7 + 5, none⟩ = some (.slice LS'.a LS'.n LS'.c) ∧ W.cell? ⟨L.low, v * 7 + 6, none⟩ = some (.slice LS'.b LS'.m LS'.d) from ⟨cell_later hB (Nat.le_refl _) q1, cell_later hB (Nat.le_refl _) q2, cell_later hB (Nat.le_refl _) q3, cell_later hB (Nat.le_refl _) l0, cell_later hB (Nat.le_refl _) l1, cell_later hB (Nat.le_refl _) l2, cell_later hB (Nat.le_refl _) l3, cell_later hB (Nat.le_refl _) l4, cell_later hB (Nat.le_refl _) l5, cell_later hB (Nat.le_refl _) l6⟩))
 have hev := Lib.hid hev; have lev := Lib.hid lev
 have A2 := Lib.hid A2; have BA := Lib.hid BA; have X9 := Lib.hid X9
 go_upto_if 49 with fail
 have B12 := Below.over (Below.refl W0.heap.size W0) (Nat.le_refl _) (below_new W0 (.cells #[.bool his, .bool HM'.s, .slice HM'.a HM'.n HM'.c, .slice HM'.b HM'.m HM'.d, .bool HS'.s, .slice HS'.a HS'.n HS'.c, .slice HS'.b HS'.m HS'.d] 101))
 have X12 : EB (W0.alloc (.cells #[.bool his, .bool HM'.s, .slice HM'.a HM'.n HM'.c, .slice HM'.b HM'.m HM'.d, .bool HS'.s, .slice HS'.a HS'.n HS'.c, .slice HS'.b HS'.m HS'.d] 101)) W0.heap.size his HM' HS' := heap_alloc_new W0 _
 have hev := hev.out.below B12; have lev := lev.out.below B12
 obtain ⟨q1, q2, q3, l0, l1, l2, l3, l4, l5, l6⟩ := KP.out _ B12
 have gl0 : gl < W0.heap.size := X9.out.lt
 clear h0 h1 h2 h3 h4 h5 h6 q4 q5 q6 KP
 generalize W0.alloc (.cells #[.bool his, .bool HM'.s, .slice HM'.a HM'.n HM'.c, .slice HM'.b HM'.m HM'.d, .bool HS'.s, .slice HS'.a HS'.n HS'.c, .slice HS'.b HS'.m HS'.d] 101) = W1 at *
 obtain ⟨g12, hg12⟩ : ∃ g12, W0.heap.size = g12 := ⟨_, rfl⟩
 have HG12 := Lib.hid hg12
 rw [hg12] at X12 gl0 B12 ⊢
 obtain ⟨_, _, _, _, _, _, _, fz⟩ := X12.reads
 have fz0 := fz 0; have fz1 := fz 1; have fz2 := fz 2; have fz3 := fz 3; have fz4 := fz 4; have fz5 := fz 5; have fz6 := fz 6
 have X12 := Lib.hid X12; have hev := Lib.hid hev; have lev := Lib.hid lev; have B12 := Lib.hid B12
 clear fz hg12
 refine wp_only (rz_i49 (eh := P.high v) (el := P.low v) q1 l0 l1 l2 l3 l4 l5 l6 X12.out hev.out lev.out vN fun is M12 S12 x50 x51 x52 x53 x54 x55 x56 wc hB12 hX hE => ?rest) (fun _ _ h => h)
 case rest =>
  have hB : Below W0.heap.size W0 wc := by rw [HG12.out]; exact Below.trans B12.out hB12
  have A3 := A2.out.below hB
  have BA3 := Below.over BA.out BA.out.size hB
  have X3 := X9.out.later hB X9.out.lt
  obtain ⟨b0, b1, b2, b3, b4, b5, b6, _⟩ := hX.reads
  clear X9 A2 BA hev lev X12 B12 hB q1 q2 q3 l0 l1 l2 l3 l4 l5 l6 fz0 fz1 fz2 fz3 fz4 fz5 fz6
  obtain ⟨W2, rfl⟩ : ∃ W2 : World, W2 = wc := ⟨_, rfl⟩
  have R0 : Hid (P.rzT g c rs 0 = (if rs then P.high v else P.low v).map fun e => (vdist e (P.now v) rs, none)) := by show _ = _; rw [← HV.out]; rfl
  have RP0 := rzT_prop (g := g) (rs := rs) PL.out SZ.out HC.out 0 (Nat.zero_le _)
  have SE : ∀ u, (if rs then P.high v else P.low v) = some u → Sz u.m 1048576 ∧ Sz u.s 1048576 := fun u hu => by
   have hb : v < P.n + P.m := by rw [HN.out]; exact vN
   split at hu
   ·exact SZ.out.high v u hb hu
   ·exact SZ.out.low v u hb hu
  obtain ⟨x0, hx0⟩ : ∃ x0, P.rzT g c rs 0 = x0 := ⟨_, rfl⟩
  have HX0 := Lib.hid hx0
  rw [hx0] at R0
  obtain ⟨en, hen⟩ : ∃ en, (if rs then P.high v else P.low v) = en := ⟨_, rfl⟩
  rw [hen] at R0 hE SE
  have A3 := Lib.hid A3; have BA3 := Lib.hid BA3; have X3 := Lib.hid X3; have hE := Lib.hid hE; have SE := Lib.hid SE
  clear RP0 hx0 hen hX
  go_upto_if 58 with fail
  have vN2 : v < P.n + P.m := by rw [HN.out]; exact vN
  obtain ⟨M, S, r1, r2, c0', c1', c2', c3', c4', c5'⟩ := (A3.out.no.at_ v vN2).reads
  have q3 := (HD.out W2 A3.out).2.2.1
  refine wp_only (rz_i58 (nb := P.now v) (en := en) q3 b0 b1 b2 b3 b4 b5 b6 c0' c1' c2' c3' c4' c5' hE.out ⟨r1, r2⟩ SE.out (SZ.out.now v vN2) X3.out vN fun M0 S0 x59 x60 x61 x62 x63 x64 x65 x66 x67 x68 x69 wc hX hL hB1 => ?rest) (fun _ _ h => h)
  case rest =>
   have IS : is = x0.isSome := by rw [hE.out.is_, R0.out]; cases en <;> rfl
   subst IS
   have hB : Below w.heap.size w wc := Below.trans BA3.out (hB1.mono gw)
   have hV : RzV wc x0 M0 S0 := fun l b h => by
    rw [R0.out, Option.map_eq_some_iff] at h
    obtain ⟨u, e1, e2⟩ := h
    simp only [Prod.mk.injEq] at e2
    obtain ⟨rfl, rfl⟩ := e2
    exact hL u e1
   clear hL hB1 r1 r2 c0' c1' c2' c3' c4' c5' q3 b0 b1 b2 b3 b4 b5 b6
   have J0 : Hid (RzL n0 w P g c rs gl (.int .i64 (-1)) (.bool x0.isSome) (.int .i64 0) wc) := by
    refine ⟨0, Nat.zero_le _, rfl, ?_, by rw [HX0.out], hB, M0, S0, hX, by rw [HX0.out]; exact hV⟩
    have RP := RZ0 P g c rs
    rw [RP]
   clear hB hX hV SE hE R0 X3 BA3
   have A3 := Lib.hid (AT0.out.below J0.out.choose_spec.2.2.2.2.1)
   obtain ⟨q1, q2, q3, q4, q5, q6⟩ := HD.out wc A3.out
   have RP := Lib.hid (rzT_prop (g := g) (rs := rs) PL.out SZ.out HC.out)
   go_wp2_with fail
   go_loopw [10, 11, 75] (fun v10 v11 v75 wr => RzL n0 w P g c rs gl v10 v11 v75 wr) (fun _ _ v _ => m - (intOf v).toNat)
   case atStart => exact J0.out
   case round =>
    clear J0 A3 q1 q2 q3 q4 q5 q6
    obtain ⟨i, hi, rfl, rfl, rfl, hB, M0, S0, hX, hV⟩ := hrel
    rw [HM.out] at hi
    have A := Lib.hid (AT0.out.below hB)
    have BR := Lib.hid hB; have X9 := Lib.hid hX; have VV := Lib.hid hV
    clear hB hX hV
    obtain ⟨q1, q2, q3, q4, q5, q6⟩ := HD.out wr A.out
    by_cases hlt : i < m
    ·have hlt2 : i < P.m := by rw [HM.out]; exact hlt
     obtain ⟨tr, li⟩ := LI.out wr A.out i hlt2
     obtain ⟨E, e0, e1, e2, rE⟩ := li.at_ c HC.out
     obtain ⟨zi, hzi⟩ : ∃ zi, rsgn (P.T i c) = zi := ⟨_, rfl⟩
     have SG := rsign_any rE
     rw [hzi] at SG
     have SG := Lib.hid SG
     have HZI := Lib.hid hzi
     obtain ⟨b, hb⟩ : ∃ b, P.basic i = b := ⟨_, rfl⟩
     have bN : b < N := by rw [← hb, ← HN.out]; exact PL.out.blt i hlt2
     have HB := Lib.hid hb
     have i0 : (0 : Int) ≤ (i : Int) := by omega
     have i1 : (i : Int) < (m : Int) := by omega
     have b00 : (0 : Int) ≤ (b : Int) := by omega
     have b01 : (b : Int) < (N : Int) := by omega
     clear li rE hzi hb
     obtain ⟨bi, hbi⟩ : ∃ bi, bstI (P.rzT g c rs i) = bi := ⟨_, rfl⟩
     obtain ⟨li, hli⟩ : ∃ li, (P.rzT g c rs i).isSome = li := ⟨_, rfl⟩
     have HBI := Lib.hid hbi; have HLI := Lib.hid hli
     rw [hbi, hli]
     clear hbi hli
     go_upto_region 14 with fail
     refine SG.out.mono ?_
     rintro e w5 ⟨rfl, B5⟩
     have A5 := Lib.hid (A.out.below B5); have BR5 := Lib.hid (Below.over BR.out BR.out.size B5)
     have X5 := Lib.hid (X9.out.later B5 X9.out.lt); have V5 := Lib.hid (VV.out.below B5)
     clear q1 q2 q3 q4 q5 q6 tr e0 e1 e2 SG B5 A BR X9 VV
     obtain ⟨q1, q2, q3, q4, q5, q6⟩ := HD.out w5 A5.out
     have STAY : Hid (P.stop g c rs i = none → RzL n0 w P g c rs gl (.int .i64 bi) (.bool li) (.int .i64 ((i : Int) + 1)) w5) := fun h => by
      refine ⟨i + 1, by rw [HM.out]; omega, rfl, by rw [stop_skip h, HBI.out], by rw [stop_skip h, HLI.out], BR5.out, M0, S0, X5.out, by rw [stop_skip h]; exact V5.out⟩
     by_cases z0 : zi = 0
     ·have T0 : Hid (P.stop g c rs i = none) := stop_zero (Or.inl (rsgn_zero.1 (by rw [HZI.out]; exact z0)))
      have zb : (zi == 0) = true := by simp [z0]
      clear z0
      go_wp2_with fail
      go_roundw
      case rel => exact STAY.out T0.out
      case measure => simp [intOf]; omega
     ·have zb : (zi == 0) = false := by simp [z0]
      have TN : Hid (P.T i c ≠ 0) := fun h => z0 (by rw [← HZI.out]; exact rsgn_zero.2 h)
      clear z0
      by_cases ig : i = g
      ·have T0 : Hid (P.stop g c rs i = none) := stop_zero (Or.inr ig)
       have gb : ((i : Int) == (g : Int)) = true := by simp [ig]
       clear ig
       go_wp2_with fail
       go_roundw
       case rel => exact STAY.out T0.out
       case measure => simp [intOf]; omega
      ·have gb : ((i : Int) == (g : Int)) = false := by simp; omega
       have IG := Lib.hid ig
       clear ig
       have pb : w5.cell? ⟨L.bas, i, none⟩ = some (.int .i64 (b : Int)) := by rw [← HB.out]; exact A5.out.ba.at_ i hlt2
       obtain ⟨up, hup⟩ : ∃ up, (decide (0 < zi) == rs) = up := ⟨_, rfl⟩
       have HU := Lib.hid hup
       have SE : Hid (P.stop g c rs i = (if up then P.high b else P.low b).map fun e => V.mul (1 / absr (P.T i c)) (vdist e (P.now b) up)) := by
        have := stop_eq (P := P) (g := g) (rs := rs) (up := up) TN.out IG.out (by rw [HZI.out]; exact HU.out)
        rw [HB.out] at this; exact this
       clear hup
       go_upto_region 17 with fail
       rw [HU.out]
       have bN2 : b < P.n + P.m := by rw [HN.out]; exact bN
       obtain ⟨his, HM', HS', hev, h0, h1, h2, h3, h4, h5, h6⟩ := (A5.out.hi.at_ b bN2).r7
       obtain ⟨lis, LM', LS', lev, l0, l1, l2, l3, l4, l5, l6⟩ := (A5.out.lo.at_ b bN2).r7
       have B18 := Below.over (Below.refl w5.heap.size w5) (Nat.le_refl _) (below_new w5 (.cells #[.bool lis, .bool LM'.s, .slice LM'.a LM'.n LM'.c, .slice LM'.b LM'.m LM'.d, .bool LS'.s, .slice LS'.a LS'.n LS'.c, .slice LS'.b LS'.m LS'.d] 101))
       have X18 : EB (w5.alloc (.cells #[.bool lis, .bool LM'.s, .slice LM'.a LM'.n LM'.c, .slice LM'.b LM'.m LM'.d, .bool LS'.s, .slice LS'.a LS'.n LS'.c, .slice LS'.b LS'.m LS'.d] 101)) w5.heap.size lis LM' LS' := heap_alloc_new w5 _
       have KP := Lib.hid (fun (W : World) (hB : Below w5.heap.size w5 W) => (show W.cell? ⟨L.p, 2, none⟩ = some (.slice (some ⟨L.high, 0, none⟩) N N) ∧ W.cell? ⟨L.high, b * 7, none⟩ = some (.bool his) ∧ W.cell? ⟨L.high, b * 7 + 1, none⟩ = some (.bool HM'.s) ∧ W.cell? ⟨L.high, b * 7 + 2, none⟩ = some (.slice HM'.a HM'.n HM'.c) ∧ W.cell? ⟨L.high, b * 7 + 3, none⟩ = some (.slice HM'.b HM'.m HM'.d) ∧ W.cell? ⟨L.high, b * 7 + 4, none⟩ = some (.bool HS'.s) ∧ W.cell? ⟨L.high, b * 7 + 5, none⟩ = some (.slice HS'.a HS'.n HS'.c) ∧ W.cell? ⟨L.high, b * 7 + 6, none⟩ = some (.slice HS'.b HS'.m HS'.d) from ⟨cell_later hB (Nat.le_refl _) q2, cell_later hB (Nat.le_refl _) h0, cell_later hB (Nat.le_refl _) h1, cell_later hB (Nat.le_refl _) h2, cell_later hB (Nat.le_refl _) h3, cell_later hB (Nat.le_refl _) h4, cell_later hB (Nat.le_refl _) h5, cell_later hB (Nat.le_refl _) h6⟩))
       have hev := Lib.hid hev; have lev := Lib.hid lev; have B18 := Lib.hid B18; have X18 := Lib.hid X18
       obtain ⟨E9, W9, R9⟩ : ∃ E9 W9, E9 = 0 ∧ W9 = w5 := ⟨0, w5, rfl, rfl⟩
       go_upto_if 110 with fail
       have hev := hev.out.below B18.out; have lev := lev.out.below B18.out
       clear R9 W9 E9 q1 q2 q3 q4 q5 q6 pb h0 h1 h2 h3 h4 h5 h6 l0 l1 l2 l3 l4 l5 l6
       obtain ⟨q2, h0, h1, h2, h3, h4, h5, h6⟩ := KP.out _ B18.out
       have g9lt : gl < w5.heap.size := X5.out.lt
       clear KP
       generalize w5.alloc (.cells #[.bool lis, .bool LM'.s, .slice LM'.a LM'.n LM'.c, .slice LM'.b LM'.m LM'.d, .bool LS'.s, .slice LS'.a LS'.n LS'.c, .slice LS'.b LS'.m LS'.d] 101) = W1 at *
       obtain ⟨g18, hg18⟩ : ∃ g18, w5.heap.size = g18 := ⟨_, rfl⟩
       have HG18 := Lib.hid hg18
       rw [hg18] at X18 B18 g9lt ⊢
       obtain ⟨_, _, _, _, _, _, _, fz⟩ := X18.out.reads
       have fz0 := fz 0; have fz1 := fz 1; have fz2 := fz 2; have fz3 := fz 3; have fz4 := fz 4; have fz5 := fz 5; have fz6 := fz 6
       have hev := Lib.hid hev; have lev := Lib.hid lev
       clear fz hg18
       refine wp_only (rz_i110 (eh := P.high b) (el := P.low b) q2 h0 h1 h2 h3 h4 h5 h6 X18.out hev.out lev.out bN fun is M12 S12 x111 x112 x113 x114 x115 x116 x117 wc hB1 hX hE => ?rest) (fun _ _ h => h)
       case rest =>
        have hB : Below w5.heap.size w5 wc := by rw [HG18.out]; exact Below.trans B18.out hB1
        clear hev lev X18 B18 q2 h0 h1 h2 h3 h4 h5 h6 fz0 fz1 fz2 fz3 fz4 fz5 fz6
        obtain ⟨b0, b1, b2, b3, b4, b5, b6, _⟩ := hX.reads
        have B56 := Lib.hid hB; have X18 := Lib.hid hX
        obtain ⟨en, hen⟩ : ∃ en, (if up then P.high b else P.low b) = en := ⟨_, rfl⟩
        have SN : Hid (∀ u, en = some u → Sz u.m 1048576 ∧ Sz u.s 1048576) := fun u hu => by
         rw [← hen] at hu
         split at hu
         ·exact SZ.out.high b u bN2 hu
         ·exact SZ.out.low b u bN2 hu
        rw [hen] at SE hE
        have hE := Lib.hid hE
        clear hen hB hX
        obtain ⟨w6, rfl⟩ : ∃ w6 : World, w6 = wc := ⟨_, rfl⟩
        have A6 := Lib.hid (A5.out.below B56.out); have BR6 := Lib.hid (Below.over BR5.out BR5.out.size B56.out)
        have X6 := Lib.hid (X5.out.later B56.out X5.out.lt); have V6 := Lib.hid (V5.out.below B56.out)
        cases en with
        | none =>
         have e0 : is = false := hE.out.is_
         have T0 : Hid (P.stop g c rs i = none) := by show _ = _; rw [SE.out]; rfl
         have GO : Hid (RzL n0 w P g c rs gl (.int .i64 bi) (.bool li) (.int .i64 ((i : Int) + 1)) w6) :=
          ⟨i + 1, by rw [HM.out]; omega, rfl, by rw [stop_skip T0.out, HBI.out], by rw [stop_skip T0.out, HLI.out], BR6.out, M0, S0, X6.out, by rw [stop_skip T0.out]; exact V6.out⟩
         subst e0
         go_wp2_with fail
         go_roundw
         case rel => exact GO.out
         case measure => simp [intOf]; omega
        | some u =>
         have e0 : is = true := hE.out.is_
         have T0 : Hid (P.stop g c rs i = some (V.mul (1 / absr (P.T i c)) (vdist u (P.now b) up))) := by show _ = _; rw [SE.out]; rfl
         subst e0
         obtain ⟨r3, r4⟩ := hE.out.at_ u rfl
         have RU := Lib.hid (And.intro r3 r4)
         have SU := Lib.hid (SN.out u rfl)
         have X18w6 := X18
         have HLT18 : Hid (g18 < w6.heap.size) := X18.out.lt
         clear STAY SE SN hE r3 r4 A5 BR5 X5 V5 B56
         go_upto_region 21 with fail
         have q3 := (HD.out w6 A6.out).2.2.1
         obtain ⟨_, li⟩ := LI.out w6 A6.out i hlt2
         obtain ⟨E, e0, e1, e2, rE⟩ := li.at_ c HC.out
         clear li
         have B19 := Lib.hid (below_new w6 (.cells #[.bool E.s, .slice E.a E.n E.c, .slice E.b E.m E.d] 26))
         have X19 : Hid (NQ (w6.alloc (.cells #[.bool E.s, .slice E.a E.n E.c, .slice E.b E.m E.d] 26)) w6.heap.size E) := heap_alloc_new w6 _
         have rE := Lib.hid (rE.below B19.out)
         have X18 := Lib.hid (X18.out.later B19.out X18.out.lt)
         go_upto_if 126 with fail
         clear q3 e0 e1 e2 b0 b1 b2 b3 b4 b5 b6
         generalize w6.alloc (.cells #[.bool E.s, .slice E.a E.n E.c, .slice E.b E.m E.d] 26) = W7 at *
         obtain ⟨g19, hg19⟩ : ∃ g19, w6.heap.size = g19 := ⟨_, rfl⟩
         have HG19 := Lib.hid hg19
         rw [hg19] at X19 ⊢
         obtain ⟨y0, y1, y2, fz⟩ := X19.out.reads
         have fz0 := fz 0; have fz1 := fz 1; have fz2 := fz 2
         clear fz hg19
         refine wp_only (rz_i126 X19.out rE.out fun N' x127 x128 wc hB1 hX hE => ?rest) (fun _ _ h => h)
         case rest =>
          have hB : Below w6.heap.size w6 wc := Below.trans B19.out (by rw [HG19.out]; exact hB1)
          obtain ⟨W8, rfl⟩ : ∃ W8 : World, W8 = wc := ⟨_, rfl⟩
          have B68 := Lib.hid hB
          have A8 := Lib.hid (A6.out.below B68.out); have BR8 := Lib.hid (Below.over BR6.out BR6.out.size B68.out)
          have X8 := Lib.hid (X6.out.later B68.out X6.out.lt); have V8 := Lib.hid (V6.out.below B68.out)
          have X188 : EB W8 g18 true M12 S12 := (by
           have h : W8.heap[g18]? = w6.heap[g18]? := B68.out.block _ HLT18.out
           exact h.trans X18w6.out)
          have RU8 := Lib.hid (And.intro (RU.out.1.below B68.out) (RU.out.2.below B68.out))
          obtain ⟨b0, b1, b2, b3, b4, b5, b6, _⟩ := X188.reads
          obtain ⟨u0, u1, u2, _⟩ := hX.reads
          have q3 := (HD.out W8 A8.out).2.2.1
          obtain ⟨M, S, r1, r2, c0', c1', c2', c3', c4', c5'⟩ := (A8.out.no.at_ b bN2).reads
          have RN := Lib.hid (And.intro r1 r2)
          have SNb := Lib.hid (SZ.out.now b bN2)
          have rT := Lib.hid hE
          have SA := Lib.hid (absr_sz (SZ.out.tab i c hlt2 HC.out))
          have AN := Lib.hid (absr_ne TN.out)
          obtain ⟨q, hq⟩ : ∃ q, absr (P.T i c) = q := ⟨_, rfl⟩
          rw [hq] at rT SA AN T0
          clear hB hX hE r1 r2 hq B68 A6 BR6 X6 V6 X18 B19 X19 rE y0 y1 y2 fz0 fz1 fz2 X188 RU
          go_upto_region 24 with fail
          refine wp_only (rz_r24 (u := u) (nb := P.now b) (up := up) (q := q) q3 b0 b1 b2 b3 b4 b5 b6 c0' c1' c2' c3' c4' c5' u0 u1 u2 RU8.out RN.out SU.out SNb.out rT.out SA.out AN.out bN fun g20 M20 S20 x129 x130 x131 x132 x133 x134 x135 x136 x137 x138 x139 x140 x141 x142 x143 W9 hX20 d1 d2 hB => ?_) (fun _ _ h => h)
          obtain ⟨far, hfar⟩ : ∃ far, V.mul (1 / q) (vdist u (P.now b) up) = far := ⟨_, rfl⟩
          rw [hfar] at T0 d1 d2
          have FZ := Lib.hid (stop_prop PL.out SZ.out HC.out hlt2 T0.out).2
          have DF := Lib.hid (And.intro d1 d2)
          have X9 := Lib.hid (X8.out.later hB X8.out.lt); have V9 := Lib.hid (V8.out.below hB)
          have BR9 := Lib.hid (Below.over BR8.out BR8.out.size hB)
          have A9 := Lib.hid (A8.out.below hB)
          have X20 := Lib.hid hX20
          clear hfar hX20 d1 d2 hB A8 BR8 X8 V8 RU8 RN SNb SU SA AN rT q3 b0 b1 b2 b3 b4 b5 b6 u0 u1 u2 c0' c1' c2' c3' c4' c5'
          obtain ⟨y0, y1, y2, y3, y4, y5, _⟩ := X20.out.reads
          obtain ⟨t0, t1, t2, t3, t4, t5, fz⟩ := X9.out.reads
          have fz0 := fz 0; have fz1 := fz 1; have fz2 := fz 2; have fz3 := fz 3; have fz4 := fz 4; have fz5 := fz 5
          clear fz
          cases hx : P.rzT g c rs i with
          | none =>
           have NX : Hid (P.rzT g c rs (i + 1) = some (far, some i)) := stop_new T0.out hx
           have l0 : li = false := by rw [← HLI.out, hx]; rfl
           subst l0
           clear hx
           go_wp2_with fail
           go_roundw
           case rel =>
            have XN := X9.out.set6 M20 S20
            have LN := X9.out.limb6 M20 S20
            have BN := below_set6 BR9.out gw (.bool M20.s) (.slice M20.a M20.n M20.c) (.slice M20.b M20.m M20.d) (.bool S20.s) (.slice S20.a S20.n S20.c) (.slice S20.b S20.m S20.d)
            exact ⟨i + 1, by rw [HM.out]; omega, by go_num, by rw [NX.out]; rfl, by rw [NX.out]; rfl, BN, M20, S20, XN, fun l' b' h => by
             rw [NX.out] at h
             simp only [Option.some.injEq, Prod.mk.injEq] at h
             obtain ⟨rfl, rfl⟩ := h
             exact ⟨DF.out.1.limb LN, DF.out.2.limb LN⟩⟩
           case measure => simp [intOf]; omega
          | some x =>
           obtain ⟨l, bo⟩ := x
           have NX := Lib.hid (stop_less T0.out hx)
           have l0 : li = true := by rw [← HLI.out, hx]; rfl
           have bb : Hid (bi = bstI (some (l, bo))) := by show _ = _; rw [← HBI.out, hx]
           obtain ⟨rl1, rl2⟩ := V9.out l bo hx
           obtain ⟨sl1, sl2, sbo⟩ := RP.out i (by rw [HM.out]; omega) l bo hx
           have SBO := Lib.hid sbo
           have HX := Lib.hid hx
           subst l0
           obtain ⟨cm, hcm⟩ : ∃ cm, vcmp far l = cm := ⟨_, rfl⟩
           have C := vcmp_any DF.out.1 DF.out.2 rl1 rl2 (Sz.mono FZ.out.1 (by omega)) (Sz.mono FZ.out.2 (by omega)) (Sz.mono sl1 (by omega)) (Sz.mono sl2 (by omega))
           rw [hcm] at C NX
           have C := Lib.hid C
           clear hx rl1 rl2 sl1 sl2 sbo hcm
           go_upto_region 28 with fail
           refine C.out.mono ?_
           rintro e W10 ⟨rfl, B10⟩
           have XA := Lib.hid (X9.out.later B10 X9.out.lt); have VA := Lib.hid (V9.out.below B10)
           have BRA := Lib.hid (Below.over BR9.out BR9.out.size B10)
           have AA := Lib.hid (A9.out.below B10)
           have XB := Lib.hid (X20.out.later B10 X20.out.lt)
           have DA := Lib.hid (And.intro (DF.out.1.below B10) (DF.out.2.below B10))
           clear B10 C X9 V9 BR9 A9 X20 DF y0 y1 y2 y3 y4 y5 t0 t1 t2 t3 t4 t5 fz0 fz1 fz2 fz3 fz4 fz5
           obtain ⟨y0, y1, y2, y3, y4, y5, _⟩ := XB.out.reads
           obtain ⟨t0, t1, t2, t3, t4, t5, fz⟩ := XA.out.reads
           have fz0 := fz 0; have fz1 := fz 1; have fz2 := fz 2; have fz3 := fz 3; have fz4 := fz 4; have fz5 := fz 5
           clear fz
           have q4 := (HD.out W10 AA.out).2.2.2.1
           have AF : Hid (∀ o, P.after i cm o = match o with | none => decide (0 < cm) || (cm == 0) | some r => decide (0 < cm) || (cm == 0 && decide (P.basic r < b))) := fun o => by rw [← HB.out]; cases o <;> rfl
           go_upto_region 28 with fail
           go_cut [168] (fun x W => x = .bool (P.after i cm bo) ∧ W = W10)
           case first =>
            cases bo with
            | none =>
             have b1 : bi = -1 := bb.out
             subst b1
             have E : Hid (P.after i cm none = (decide (0 < cm) || (cm == 0))) := AF.out none
             clear AF
             by_cases cp : 0 < cm
             ·go_wp2_with fail
              go_meet
              case rel => exact ⟨by rw [E.out]; simp [cp], rfl⟩
             ·by_cases cz : cm = 0
              ·subst cz
               go_wp2_with fail
               go_meet
               case rel => exact ⟨by rw [E.out]; rfl, rfl⟩
              ·have cb : (cm == 0) = false := by simp [cz]
               go_wp2_with fail
               go_meet
               case rel => exact ⟨by rw [E.out, cb]; simp; omega, rfl⟩
            | some r =>
             have b1 : bi = (r : Int) := bb.out
             subst b1
             have rm : r < m := by have := (SBO.out r rfl).1; omega
             obtain ⟨d, hd⟩ : ∃ d, P.basic r = d := ⟨_, rfl⟩
             have E : Hid (P.after i cm (some r) = (decide (0 < cm) || (cm == 0 && decide (d < b)))) := by show _ = _; rw [← hd]; exact AF.out (some r)
             have pr : W10.cell? ⟨L.bas, r, none⟩ = some (.int .i64 (d : Int)) := by rw [← hd]; exact AA.out.ba.at_ r (by rw [HM.out]; exact rm)
             have r0 : (0 : Int) ≤ (r : Int) := by omega
             have r1 : (r : Int) < (m : Int) := by omega
             clear AF hd
             by_cases cp : 0 < cm
             ·go_wp2_with fail
              go_meet
              case rel => exact ⟨by rw [E.out]; simp [cp], rfl⟩
             ·by_cases cz : cm = 0
              ·subst cz
               go_wp2_with fail
               go_meet
               case rel => exact ⟨by rw [E.out]; simp; omega, rfl⟩
              ·have cb : (cm == 0) = false := by simp [cz]
               go_wp2_with fail
               go_meet
               case rel => exact ⟨by rw [E.out, cb]; simp; omega, rfl⟩
           case rest =>
            obtain ⟨rfl, rfl⟩ := hcut
            cases haf : P.after i cm bo with
            | true =>
             have N2 : Hid (P.rzT g c rs (i + 1) = some (l, bo)) := by show _ = _; rw [NX.out, haf]; rfl
             have GO : Hid (RzL n0 w P g c rs gl (.int .i64 bi) (.bool true) (.int .i64 ((i : Int) + 1)) wc) :=
              ⟨i + 1, by rw [HM.out]; omega, rfl, by rw [N2.out, bb.out], by rw [N2.out]; rfl, BRA.out, M0, S0, XA.out, by rw [N2.out, ← HX.out]; exact VA.out⟩
             clear haf
             go_wp2_with fail
             go_roundw
             case rel => exact GO.out
             case measure => simp [intOf]; omega
            | false =>
             have N2 : Hid (P.rzT g c rs (i + 1) = some (far, some i)) := by show _ = _; rw [NX.out, haf]; rfl
             clear haf NX
             have NX := N2
             go_wp2_with fail
             go_roundw
             case rel =>
              have XN := XA.out.set6 M20 S20
              have LN := XA.out.limb6 M20 S20
              have BN := below_set6 BRA.out gw (.bool M20.s) (.slice M20.a M20.n M20.c) (.slice M20.b M20.m M20.d) (.bool S20.s) (.slice S20.a S20.n S20.c) (.slice S20.b S20.m S20.d)
              exact ⟨i + 1, by rw [HM.out]; omega, by go_num, by rw [NX.out]; rfl, by rw [NX.out]; rfl, BN, M20, S20, XN, fun l' b' h => by
               rw [NX.out] at h
               simp only [Option.some.injEq, Prod.mk.injEq] at h
               obtain ⟨rfl, rfl⟩ := h
               exact ⟨DA.out.1.limb LN, DA.out.2.limb LN⟩⟩
             case measure => simp [intOf]; omega
    ·obtain rfl : m = i := by omega
     have RZE : Hid (P.rz g c = (P.rzT g c rs m).map fun x => P.rzEnd c (if rs then x.1 else V.sub ⟨0, 0⟩ x.1) x.2) := by
      show _ = _
      rw [rz_eq, HRS.out, HM.out]
     cases hx : P.rzT g c rs m with
     | none =>
      have R1 : Hid (P.rz g c = none) := by show _ = _; rw [RZE.out, hx]; rfl
      have BB := BR
      rw [show (none : Option (V × Option Nat)).isSome = false from rfl]
      clear hx RZE
      go_wp2_with fail
      go_ret
      exact Or.inl ⟨R1.out, rfl, BB.out⟩
     | some x =>
      obtain ⟨l, bo⟩ := x
      obtain ⟨rl1, rl2⟩ := VV.out l bo hx
      obtain ⟨sl1, sl2, sbo⟩ := RP.out m (by rw [HM.out]; omega) l bo hx
      have SBO := Lib.hid sbo; have SL := Lib.hid (And.intro sl1 sl2); have RL := Lib.hid (And.intro rl1 rl2)
      have R1 : Hid (P.rz g c = some (P.rzEnd c (if rs then l else V.sub ⟨0, 0⟩ l) bo)) := by show _ = _; rw [RZE.out, hx]; rfl
      obtain ⟨bi, hbi⟩ : ∃ bi, bstI (some (l, bo)) = bi := ⟨_, rfl⟩
      have HBI := Lib.hid hbi
      rw [hbi, show (some (l, bo)).isSome = true from rfl]
      clear hx RZE rl1 rl2 sl1 sl2 sbo hbi
      obtain ⟨by_, hby⟩ : ∃ by_, (if rs then l else V.sub ⟨0, 0⟩ l) = by_ := ⟨_, rfl⟩
      rw [hby] at R1
      have BYS : Hid (Sz by_.m 16777216 ∧ Sz by_.s 16777216) := by
       show _ ∧ _
       rw [← hby]
       cases rs with
       | true => exact ⟨Sz.mono SL.out.1 (by omega), Sz.mono SL.out.2 (by omega)⟩
       | false => exact ⟨Sz.mono (Sz.sub (Sz.mono Sz.zero (by omega)) SL.out.1) (by omega), Sz.mono (Sz.sub (Sz.mono Sz.zero (by omega)) SL.out.2) (by omega)⟩
      have HBY := Lib.hid hby
      clear hby
      obtain ⟨t0, t1, t2, t3, t4, t5, fz⟩ := X9.out.reads
      have fz0 := fz 0; have fz1 := fz 1; have fz2 := fz 2; have fz3 := fz 3; have fz4 := fz 4; have fz5 := fz 5
      clear fz
      go_upto_if 175 with fail
      refine wp_only (rz_i175 (rs := rs) X9.out RL.out SL.out fun M5 S5 x176 x177 x178 x179 wc hX r1 r2 hB1 => ?rest) (fun _ _ h => h)
      case rest =>
       have hB : Below w.heap.size w wc := Below.trans BR.out (hB1.mono gw)
       rw [HBY.out] at r1 r2
       obtain ⟨t0, t1, t2, t3, t4, t5, _⟩ := hX.reads
       have A9 := AT0.out.below hB
       have C := mv_any A9 PL.out SZ.out HC.out r1 r2 BYS.out.1 BYS.out.2
       have BR9 := Lib.hid hB
       have C := Lib.hid C
       clear hB hX r1 r2 A9 A X9 VV q1 q2 q3 q4 q5 q6 fz0 fz1 fz2 fz3 fz4 fz5
       go_wp2_with fail
       refine C.out.mono ?_
       rintro e W12 ⟨rfl, hA, hB, hL, hO⟩
       have AM := Lib.hid hA
       have BM := Lib.hid (Below.trans (BR9.out.mono n00) hB)
       have LM := Lib.hid ((Limb.of_below BR9.out).trans hL)
       have OM : Hid (Own L P w W12) := Own.trans (Own.of_below BR9.out) BR9.out.size hO
       clear hA hB hL hO C t0 t1 t2 t3 t4 t5
       cases bo with
       | none =>
        have b1 : bi = -1 := HBI.out.symm
        subst b1
        go_wp2_with fail
        go_ret
        exact Or.inr ⟨_, R1.out, rfl, AM.out, BM.out, LM.out, OM.out⟩
       | some r =>
        have b1 : bi = (r : Int) := HBI.out.symm
        subst b1
        obtain ⟨rm, rn⟩ := SBO.out r rfl
        have r0 : (0 : Int) ≤ (r : Int) := by omega
        have C := Lib.hid (pv_any (P := P.mv c by_) AM.out SZ.out.tab (by rw [HM.out.symm] at rm; exact rm) HC.out rn)
        clear rn
        go_wp2_with fail
        refine C.out.mono ?_
        rintro e W13 ⟨rfl, hA, hB, hL, hO⟩
        have AV := Lib.hid hA
        have BV := Lib.hid (Below.trans BM.out hB)
        have LV := Lib.hid (LM.out.trans hL)
        have OV : Hid (Own L P w W13) := Own.trans OM.out BM.out.size hO
        clear hA hB hL hO C
        go_wp2_with fail
        go_ret
        exact Or.inr ⟨_, R1.out, rfl, AV.out, BV.out, LV.out, OV.out⟩
end Go.Proofs.Ytijdglogadnbcaa
