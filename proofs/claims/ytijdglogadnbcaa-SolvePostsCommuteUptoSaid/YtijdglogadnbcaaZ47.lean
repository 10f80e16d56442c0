/- System.Post. Printed by genUh.py. -/
import Derived.Test.YtijdglogadnbcaaZ44
import Derived.Test.YtijdglogadnbcaaZ46
import Derived.Test.YtijdglogadnbcaaZ30
import Derived.Deep.RegionLawGrows
set_option linter.unusedVariables false
set_option linter.unusedSimpArgs false
set_option maxRecDepth 100000
set_option maxHeartbeats 40000000
namespace Go.Proofs.Ytijdglogadnbcaa
open Go.RowKit Nt Bl
theorem wp_append_grows {P : Program} {w : World} {o : Oper} {a : Act} {K : Act → World → Prop} {Q : Exit → Act → World → Prop} (hg : o.guard = none) (s x : Operand) (t : TypeId) (hop : o.op = Op.call { callee := Callee.builtin Builtin.append, args := #[s, x], argTypes := #[t, t] })
  (e : TypeId) (i : TypeInfo) (z : Value) (size bytes : Nat) (h1 : P.underlying t = some (.slice e)) (h2 : P.info? e = some i) (h3 : i.zero = some z) (h4 : i.size = size) (h5 : i.bytes = bytes) (h6 : z.cells.size = size) (h7 : 0 < size)
  (ao : Option Addr) (n cap : Nat) (olds : List Value) (hs : a.eval s = .slice ao n cap) (hnone : ao = none → n = 0 ∧ cap = 0) (hlo : olds.length = n * size) (holds : ∀ b, ao = some b → ∀ j u, olds[j]? = some u → w.cell? (b.add j) = some u)
  (ad : Addr) (m c : Nat) (news : List Value) (hx : a.eval x = .slice (some ad) m c) (hn : news.length = m * size) (hc : ∀ j u, news[j]? = some u → w.cell? (ad.add j) = some u) (h1c : ∀ u ∈ news, u.oneCell' = true)
  (hfull : cap < n + m) (b1 : n + m ≤ maxLen) (b2 : (n + m) * bytes ≤ 140737488355328)
  (hK : ∀ v' w', w'.ownsRow w.heap.size e size v' (n + m) (olds ++ news) → w.grownBy w' none → K (a.put o.dst v') w') : Oper.wp P o a w K Q := by
 have h := step_append_grows (P := P) (ops := #[]) (w := w) (K := K) (Q := Q) (E := True) hg s x t hop e i z size bytes h1 h2 h3 h4 h5 h6 h7 ao n cap olds hs hnone hlo holds ad m c news hx hn hc h1c hfull b1 b2 hK
 have hw : Region.wanted o (yielded #[] a.tmps) = true := by simp [Region.wanted, hg]
 rwa [if_pos hw] at h
theorem SmQ.sz {q : Rat} (h : SmQ q) : Sz q 1000 := Sz.mono (Sz.small h.1 (by have := h.2; omega)) (by omega)
theorem AlA.rls {W : World} {gA : Nat} {vs : List Value} {l : List Rl} (h : AlA W gA vs) (hv : RlV W l vs) : RlsAt W l (some ⟨gA, 0, none⟩) :=
 ⟨vs, hv, fun _ => ⟨gA, 0, rfl, fun j u hu => by rw [Nat.zero_add]; exact h.cell hu⟩⟩
theorem rls_old {W : World} {l : List Rl} {vs : List Value} {ad : Addr} {j : Nat} {u : Value} (hv : RlV W l vs) (ha : l ≠ [] → ∃ g o, some ad = some (⟨g, o, none⟩ : Addr) ∧ ∀ j u, vs[j]? = some u → W.cell? ⟨g, o + j, none⟩ = some u) (hu : vs[j]? = some u) : W.cell? (ad.add j) = some u := by
 have hne : l ≠ [] := fun e => by rw [List.eq_nil_of_length_eq_zero (l := vs) (by rw [hv.1, e]; rfl)] at hu; simp at hu
 obtain ⟨g, o, e, k⟩ := ha hne
 simp only [Option.some.injEq] at e
 subst e
 rw [add_at]
 exact k j u hu
theorem own_cap {w : World} {b n : Nat} {v : Value} {xs : List Value} (h : w.ownsRow b 28 5 v n xs) (hn : 0 < n) : ∃ gA cA, v = .slice (some ⟨gA, 0, none⟩) n cA ∧ b ≤ gA ∧ AlA w gA xs ∧ n ≤ cA ∧ cA ≤ 9223372036854775807 := by
 obtain ⟨gA, cA, e, x⟩ := al_own h hn
 rcases h.2 with ⟨_, e0⟩ | ⟨g, cap, cur, hv, hb, hg, h1, h2, _, ht⟩
 ·omega
 ·rw [e] at hv
  simp only [Value.slice.injEq, Option.some.injEq, Addr.mk.injEq] at hv
  obtain ⟨⟨rfl, _⟩, _, rfl⟩ := hv
  exact ⟨gA, cA, e, hb, x, h1, by unfold maxLen at h2; omega⟩
theorem post_gen {w : World} {p n m rc nc cc nn c mm d : Nat} {ra ca a b : Option Addr} {mv : Value} {rows : List Rl} {rel : Int} {l : List Cf} {B : Raw} {okb : Bool}
  (hS : SyB w p n (.slice ra m rc) mv) (hr : RlsAt w rows ra) (hm : rows.length = m) (hm40 : m ≤ 40) (hmc : m ≤ rc) (hrc2 : rc ≤ 9223372036854775807) (hn : n ≤ 24)
  (hl : CfAt w l ca) (hB : RwAt w B a nn c b mm d) (hln : l.length = nc) (hc : nc ≤ cc) (hc2 : cc ≤ 9223372036854775807)
  (FE : rowN (n : Int) rel l B = 0 → m < 40 → ∀ (W : World) (ra' : Option Addr) (rc' : Nat), RlsAt W (rows ++ [rowQ rel l B]) ra' → Calls Try.prog 18 #[.slice ra' (m + 1) rc', .int .i64 (n : Int)] W fun e w' => ∃ v, e = .returned (.tuple #[v, .bool okb]) ∧ Below W.heap.size W w') :
  Calls Try.prog 10 #[.pointer (some ⟨p, 0, none⟩), .agg #[.slice ca nc cc, .int .i64 rel, .bool B.neg, .slice a nn c, .slice b mm d]] w fun e w' =>
   (rowN (n : Int) rel l B ≠ 0 ∧ e = .returned (.int .i64 (rowN (n : Int) rel l B)) ∧ Below w.heap.size w w') ∨
   (rowN (n : Int) rel l B = 0 ∧ m = 40 ∧ e = .returned (.int .i64 3) ∧ Below w.heap.size w w') ∨
   (rowN (n : Int) rel l B = 0 ∧ m < 40 ∧ okb = false ∧ e = .returned (.int .i64 15) ∧ Below w.heap.size w w') ∨
   (rowN (n : Int) rel l B = 0 ∧ m < 40 ∧ okb = true ∧ e = .returned (.int .i64 0) ∧ ∃ w1 ra' rc', Below w.heap.size w w1 ∧ RlsAt w1 (rows ++ [rowQ rel l B]) ra' ∧ m + 1 ≤ rc' ∧ rc' ≤ 9223372036854775807 ∧ w' = w1.setCell ⟨p, 1, none⟩ (.slice ra' (m + 1) rc')) := by
 obtain ⟨i27, hi27, hz270, hz271, hz272⟩ := info_parts info27
 have HM := Lib.hid hm; have HLN := Lib.hid hln; have HFE := Lib.hid FE
 obtain ⟨z, hz⟩ : ∃ z, rowN (n : Int) rel l B = z := ⟨_, rfl⟩
 have HZ := Lib.hid hz
 have B0 : Hid (Below w.heap.size w (w.alloc (.cells #[.slice ca nc cc, .int .i64 rel, .bool B.neg, .slice a nn c, .slice b mm d] 28))) := below_new _ _
 have XR : Hid (RoB (w.alloc (.cells #[.slice ca nc cc, .int .i64 rel, .bool B.neg, .slice a nn c, .slice b mm d] 28)) w.heap.size #[.slice ca nc cc, .int .i64 rel, .bool B.neg, .slice a nn c, .slice b mm d]) := heap_alloc_new _ _
 have S1 := Lib.hid (hS.below B0.out)
 have CF1 := Lib.hid (hl.below B0.out)
 have RW1 := Lib.hid (hB.below B0.out)
 have RL1 := Lib.hid (hr.below B0.out)
 have C1 := Lib.hid (row_any (u := (n : Int)) (rel := rel) (CF1.out.below (Below.refl _ _).drew) (RW1.out.below (Below.refl _ _).drew) hln hc hc2)
 rw [hz] at C1
 rw [hz]
 have SL := Lib.hid hS.lt
 clear hS hr hm hl hB hln FE hz
 obtain ⟨Qp, hQ⟩ : ∃ Q : Ending → World → Prop, Q = (fun e w' =>      (z ≠ 0 ∧ e = .returned (.int .i64 z) ∧ Below w.heap.size w w') ∨       (z = 0 ∧ m = 40 ∧ e = .returned (.int .i64 3) ∧ Below w.heap.size w w') ∨       (z = 0 ∧ m < 40 ∧ okb = false ∧ e = .returned (.int .i64 15) ∧ Below w.heap.size w w') ∨       (z = 0 ∧ m < 40 ∧ okb = true ∧ e = .returned (.int .i64 0) ∧ ∃ w1 ra' rc', Below w.heap.size w w1 ∧ RlsAt w1 (rows ++ [rowQ rel l B]) ra' ∧ m + 1 ≤ rc' ∧ rc' ≤ 9223372036854775807 ∧ w' = w1.setCell ⟨p, 1, none⟩ (.slice ra' (m + 1) rc'))) := ⟨_, rfl⟩
 rw [← hQ]
 have HQ := Lib.hid hQ
 clear hQ
 go_enter Try.func10, Try.ntmps10
 go_upto_region 1 with fail
 generalize w.alloc (.cells #[.slice ca nc cc, .int .i64 rel, .bool B.neg, .slice a nn c, .slice b mm d] 28) = W at *
 obtain ⟨g3, hg3⟩ : ∃ g, w.heap.size = g := ⟨_, rfl⟩
 have G3 : Hid (w.heap.size = g3) := hg3
 rw [hg3] at XR ⊢
 clear hg3
 obtain ⟨p0, p1, _, fz⟩ := S1.out.reads
 obtain ⟨u0, u1, u2, u3, u4, _⟩ := XR.out.reads
 have fz1 := fz 1
 clear fz
 have KP := Lib.hid (fun (W' : World) (hB : Below W.heap.size W W') => (show W'.cell? ⟨g3, 0, none⟩ = some (.slice ca nc cc) ∧ W'.cell? ⟨g3, 1, none⟩ = some (.int .i64 rel) ∧ W'.cell? ⟨g3, 2, none⟩ = some (.bool B.neg) ∧ W'.cell? ⟨g3, 3, none⟩ = some (.slice a nn c) ∧ W'.cell? ⟨g3, 4, none⟩ = some (.slice b mm d) ∧ W'.cell? ⟨p, 0, none⟩ = some (.int .i64 (n : Int)) from ⟨cell_later hB (Nat.le_refl _) u0, cell_later hB (Nat.le_refl _) u1, cell_later hB (Nat.le_refl _) u2, cell_later hB (Nat.le_refl _) u3, cell_later hB (Nat.le_refl _) u4, cell_later hB (Nat.le_refl _) p0⟩))
 refine Rg.wpD_start 7 [] (fun W' => W'.cell? ⟨g3, 0, none⟩ = some (.slice ca nc cc) ∧ W'.cell? ⟨g3, 1, none⟩ = some (.int .i64 rel) ∧ W'.cell? ⟨g3, 2, none⟩ = some (.bool B.neg) ∧ W'.cell? ⟨g3, 3, none⟩ = some (.slice a nn c) ∧ W'.cell? ⟨g3, 4, none⟩ = some (.slice b mm d) ∧ W'.cell? ⟨p, 0, none⟩ = some (.int .i64 (n : Int))) (by kernel_rfl) (by kernel_rfl) ?_ (fun hS ok inv => ?_)
 ·exact ⟨u0, u1, u2, u3, u4, p0⟩
 refine Rg.tk 0 rfl ok inv hS fun inv => ?_
 refine Rg.tk 1 rfl ok inv hS fun inv => ?_
 refine Rg.tk 2 rfl ok inv hS fun inv => ?_
 refine Rg.tk 3 rfl ok inv hS fun inv => ?_
 refine Rg.tk 4 rfl ok inv hS fun inv => ?_
 refine Rg.tk 5 rfl ok inv hS fun inv => ?_
 refine Rg.w1 6 rfl inv fun K' hK => ?_
 go_simp
 go_at_call 15
 refine (C1.out).mono ?_
 rintro e w6 ⟨rfl, B6⟩
 have B6 := undrew B6
 have KS := KP.out w6 B6
 have BW6 := Lib.hid (Below.over B0.out B0.out.size B6)
 have XR6 := Lib.hid (XR.out.below B6)
 have S6 := Lib.hid (S1.out.below B6)
 have CF6 := Lib.hid (CF1.out.below B6)
 have RW6a := Lib.hid (RW1.out.below B6)
 have RL6 := Lib.hid (RL1.out.below B6)
 refine Rg.st hK ?_ fun hS inv => ?_
 ·exact KS
 clear hK K'
 refine Rg.wl rfl ?_
 go_simp
 clear p0 p1 u0 u1 u2 u3 u4 fz1 XR S1 CF1 RW1 RL1 C1
 obtain ⟨p0, p1, _, fz⟩ := S6.out.reads
 obtain ⟨u0, u1, u2, u3, u4, _⟩ := XR6.out.reads
 have fz1 := fz 1
 clear fz
 have m0 : (0 : Int) ≤ (m : Int) := by omega
 by_cases hz0 : z = 0
 ·by_cases h40 : m = 40
  ·have m1 : (m : Int) ≥ 40 := by omega
   go_wp2_with fail
   rw [HQ.out]
   exact Or.inr (Or.inl ⟨hz0, h40, rfl, BW6.out⟩)
  ·have m1 : ¬ (m : Int) ≥ 40 := by omega
   have mlt : m < 40 := by omega
   have ZZ : Hid (rowN (n : Int) rel l B = 0) := HZ.out.trans hz0
   obtain ⟨q6, g6, ra6⟩ := rowN_good (CF6.out) (RW6a.out) ZZ.out
   have RG : Hid (R5 w6 (rowQ rel l B) ca cc ⟨B.neg, a, nn, c, b, mm, d⟩) := ⟨q6, by show (cfq l).length ≤ cc; rw [cfq_len, HLN.out]; exact hc, hc2, ra6⟩
   have n8 : nc ≤ 8 := by have := g6.cs.len; have e := HLN.out; rw [show (rowQ rel l B).cs = cfq l from rfl, cfq_len, e] at this; exact this
   have CL := Lib.hid (cloneRow_any (n := nc) (RG.out.below (Below.refl w6.heap.size w6).drew) (by show (cfq l).length = nc; rw [cfq_len]; exact HLN.out) (by omega) (fun i hi => (g6.cs.at_ i (by show i < (cfq l).length; rw [cfq_len, HLN.out]; exact hi)).2.sz) g6.bd.sz)
   rw [show (rowQ rel l B).rel = rel from rfl] at CL
   have KB : Hid (Below w6.heap.size w6 w6) := Below.refl _ _
   have NN : Hid (ra = none → m = 0 ∧ m = 0) := fun e => by
    have : m = 0 := by
     refine Classical.byContradiction fun q => ?_
     obtain ⟨vs, _, h2⟩ := RL6.out
     obtain ⟨g, o, e2, _⟩ := h2 (fun e3 => q (by have := HM.out; rw [e3] at this; exact this.symm))
     rw [e] at e2; simp at e2
    exact ⟨this, this⟩
   have RW6 := RL6
   clear q6 ra6 RG CF6 RW6a
   go_upto_region 6 with fail
   have KP := Lib.hid (fun (W' : World) (hB : Below w6.heap.size w6 W') => (show W'.cell? ⟨g3, 0, none⟩ = some (.slice ca nc cc) ∧ W'.cell? ⟨g3, 1, none⟩ = some (.int .i64 rel) ∧ W'.cell? ⟨g3, 2, none⟩ = some (.bool B.neg) ∧ W'.cell? ⟨g3, 3, none⟩ = some (.slice a nn c) ∧ W'.cell? ⟨g3, 4, none⟩ = some (.slice b mm d) ∧ W'.cell? ⟨p, 1, none⟩ = some (.slice ra m rc) from ⟨cell_later hB (Nat.le_refl _) u0, cell_later hB (Nat.le_refl _) u1, cell_later hB (Nat.le_refl _) u2, cell_later hB (Nat.le_refl _) u3, cell_later hB (Nat.le_refl _) u4, cell_later hB (Nat.le_refl _) p1⟩))
   refine Rg.wpD_start 10 [] (fun W' => W'.cell? ⟨g3, 0, none⟩ = some (.slice ca nc cc) ∧ W'.cell? ⟨g3, 1, none⟩ = some (.int .i64 rel) ∧ W'.cell? ⟨g3, 2, none⟩ = some (.bool B.neg) ∧ W'.cell? ⟨g3, 3, none⟩ = some (.slice a nn c) ∧ W'.cell? ⟨g3, 4, none⟩ = some (.slice b mm d) ∧ W'.cell? ⟨p, 1, none⟩ = some (.slice ra m rc)) (by kernel_rfl) (by kernel_rfl) ?_ (fun hS ok inv => ?_)
   ·exact ⟨u0, u1, u2, u3, u4, p1⟩
   refine Rg.tk 0 rfl ok inv hS fun inv => ?_
   refine Rg.tk 1 rfl ok inv hS fun inv => ?_
   refine Rg.tk 2 rfl ok inv hS fun inv => ?_
   refine Rg.tk 3 rfl ok inv hS fun inv => ?_
   refine Rg.tk 4 rfl ok inv hS fun inv => ?_
   refine Rg.tk 6 rfl ok inv hS fun inv => ?_
   refine Rg.w1 5 rfl inv fun K' hK => ?_
   go_simp
   go_at_call 16
   refine (clip_any (a := ra) hmc hrc2).mono ?_
   rintro e w7 ⟨rfl, rfl⟩
   have KS := KP.out _ (Below.refl _ _).drew
   refine Rg.st hK ?_ fun hS inv => ?_
   ·exact KS
   clear hK K'
   refine Rg.w1 7 rfl inv fun K' hK => ?_
   go_simp
   go_at_call 17
   refine (CL.out).mono ?_
   rintro e w8 ⟨gN, N, rfl, gN0, R8, B8⟩
   have B8 := undrew B8
   have KS := KP.out w8 B8
   have RW8 := RW6.out.below B8
   have BW8 := Lib.hid (Below.over BW6.out BW6.out.size B8)
   have S8 := Lib.hid (S6.out.below B8)
   refine Rg.st hK ?_ fun hS inv => ?_
   ·exact KS
   clear hK K'
   refine Rg.w1 8 rfl inv fun K' hK => ?_
   (try simp only [zA, zB, zC])
   go_simp
   have NB8 := below_new w8 (.cells #[.slice (some ⟨gN, 0, none⟩) nc nc, .int .i64 rel, .bool N.s, .slice N.a N.n N.c, .slice N.b N.m N.d] 28)
   have F8 := heap_alloc_new w8 (.cells #[.slice (some ⟨gN, 0, none⟩) nc nc, .int .i64 rel, .bool N.s, .slice N.a N.n N.c, .slice N.b N.m N.d] 28)
   refine Rg.st hK ?_ fun hS inv => ?_
   ·exact KP.out _ (Below.over B8 B8.size NB8)
   clear hK K'
   have KB9 := Lib.hid (Below.over B8 B8.size NB8)
   have RW9 := RW8.below NB8
   have R9 := R8.below NB8
   have BW9 := Lib.hid (Below.over BW8.out BW8.out.size NB8)
   have S9 := Lib.hid (S8.out.below NB8)
   clear NB8 R8 RW8 B8
   generalize w8.alloc (.cells #[.slice (some ⟨gN, 0, none⟩) nc nc, .int .i64 rel, .bool N.s, .slice N.a N.n N.c, .slice N.b N.m N.d] 28) = w9 at *
   generalize w8.heap.size = g8_ at *
   obtain ⟨vs, hv9, ha9⟩ := RW9
   have VL : Hid (vs.length = m * 5) := by show _ = _; rw [hv9.1, HM.out]
   have VO := Lib.hid hv9.one
   refine Rg.w1 9 rfl inv fun K' hK => ?_
   (try simp only [zA, zB, zC])
   refine wp_append_grows (by rfl) _ _ 22 rfl 28 i27 _ 5 88 Try.underlying22 hi27 hz270 hz271 hz272 rfl (by omega) ra m m vs (by rfl) (fun e => by subst e; exact NN.out rfl) VL.out (fun ad e j u hu => ?_) ⟨g8_, 0, none⟩ 1 1 [.slice (some ⟨gN, 0, none⟩) nc nc, .int .i64 rel, .bool N.s, .slice N.a N.n N.c, .slice N.b N.m N.d] (by rfl) rfl (World.news_of_block F8) (by intro u hu; simp at hu; rcases hu with rfl | rfl | rfl | rfl | rfl <;> rfl) (by omega) (by unfold maxLen; omega) (by omega) ?_
   ·subst e
    exact rls_old hv9 ha9 hu
   intro v10 w10 O10 G10
   have B10 := below_grown G10
   have KS := KP.out w10 (Below.over KB9.out KB9.out.size B10)
   have B10' := Lib.hid (Below.over KB9.out KB9.out.size B10)
   have VS : RlV w10 (rows ++ [rowQ rel l B]) (vs ++ row5 (rowQ rel l B) (some ⟨gN, 0, none⟩) nc N) := (hv9.below B10).push (R9.below B10)
   have E5 : row5 (rowQ rel l B) (some ⟨gN, 0, none⟩) nc N = [.slice (some ⟨gN, 0, none⟩) nc nc, .int .i64 rel, .bool N.s, .slice N.a N.n N.c, .slice N.b N.m N.d] := by
    show [Value.slice (some ⟨gN, 0, none⟩) (cfq l).length nc, _, _, _, _] = _
    rw [cfq_len, HLN.out]; rfl
   rw [E5] at VS
   obtain ⟨gA, cA, rfl, gA0, AL, cA1, cA2⟩ := own_cap O10 (by omega)
   have RL10 := Lib.hid (AL.rls VS)
   have S10 := Lib.hid (S9.out.below B10)
   have BW10 := Lib.hid (Below.over BW9.out BW9.out.size B10)
   refine hK.out _ _ KS (fun hS inv => ?_)
   clear hK K' B10 VS E5 AL O10 G10 hv9 ha9 R9 F8 KS
   try simp only [Act.put, zA, zB, zC, zD, zE, zF]
   refine Rg.wl rfl ?_
   go_simp
   have FE10 := Lib.hid (HFE.out ZZ.out mlt w10 (some ⟨gA, 0, none⟩) cA RL10.out)
   obtain ⟨p0, _, _, fz⟩ := S10.out.reads
   clear fz
   go_upto_region 8 with (go_at_call 18; refine FE10.out.mono ?_; rintro e w11 ⟨v11, rfl, B11⟩; have BW11 := Lib.hid (Below.over BW10.out BW10.out.size B11); have S11 := Lib.hid (S10.out.below B11); have RL11 := Lib.hid (RL10.out.below B11); clear B11 S10 RL10)
   clear p0
   obtain ⟨p0, p1, _, fz⟩ := S11.out.reads
   have fz1 := fz 1
   clear fz
   cases okb with
   | false =>
    go_wp2_with fail
    rw [HQ.out]
    exact Or.inr (Or.inr (Or.inl ⟨hz0, mlt, by simp, rfl, BW11.out⟩))
   | true =>
    go_wp2_with fail
    rw [HQ.out]
    exact Or.inr (Or.inr (Or.inr ⟨hz0, mlt, by simp, rfl, w11, _, cA, BW11.out, RL11.out, cA1, cA2, rfl⟩))
 ·go_wp2_with fail
  rw [HQ.out]
  exact Or.inl ⟨hz0, rfl, BW6.out⟩
/-- A system that has a solution. -/
structure SyR (w : World) (p n m rc : Nat) (ra : Option Addr) (mv : Value) (rows : List Rl) : Prop where
 sy : SyB w p n (.slice ra m rc) mv
 rl : RlsAt w rows ra
 len : rows.length = m
 le : m ≤ rc
 cap : rc ≤ 9223372036854775807
 n24 : n ≤ 24
 m40 : m ≤ 40
 good : ∀ i, i < rows.length → (rq rows i).Good n
 sol : ∃ x, Sol (lns rows) n x
theorem SyR.below {w w' : World} {p n m rc : Nat} {ra : Option Addr} {mv : Value} {rows : List Rl} (h : SyR w p n m rc ra mv rows) (hb : Below w.heap.size w w') : SyR w' p n m rc ra mv rows :=
 ⟨h.sy.below hb, h.rl.below hb, h.len, h.le, h.cap, h.n24, h.m40, h.good, h.sol⟩
theorem SyR.lp {w : World} {p n m rc k c : Nat} {ra : Option Addr} {mv : Value} {rows : List Rl} (h : SyR w p n m rc ra mv rows) {gl : List (Nat × Rat)} {ga : Option Addr} (hg : QfAt w gl ga) (gd : GoodC n gl) (hk : gl.length = k) (hc : k ≤ c ∧ c ≤ 9223372036854775807) : LpIn w rows ra n m gl ga c :=
 ⟨h.rl, h.len, hg, by rw [hk]; exact hc, by have := h.n24; omega, by have := h.m40; omega, h.good, gd⟩
def RangeP (n : Nat) (rows : List Rl) (l : List Cf) (w : World) (e : Ending) (w' : World) : Prop :=
 (rowN (n : Int) 3 l ⟨false, [], [1]⟩ ≠ 0 ∧ e = .returned (.tuple #[rgV 0 0 Nw.zero Nw.zero, .int .i64 (rowN (n : Int) 3 l ⟨false, [], [1]⟩)]) ∧ Below w.heap.size w w') ∨
 (rowN (n : Int) 3 l ⟨false, [], [1]⟩ = 0 ∧ ∃ u v Hi Lo, IsSup (Sol (lns rows) n) (val n (cof (cfq l))) u ∧ IsSup (Sol (lns rows) n) (val n (cof (negC (cfq l)))) v ∧
  e = .returned (.tuple #[rgV (kindV v) (kindV u) Lo Hi, .int .i64 0]) ∧ EndV w' (fun q => -q) v Lo ∧ EndV w' (fun q => q) u Hi ∧ Below w.heap.size w w')
theorem range_any {w : World} {p n m rc nc cc : Nat} {ra ca : Option Addr} {mv : Value} {rows : List Rl} {l : List Cf} (h : SyR w p n m rc ra mv rows) (hl : CfAt w l ca) (hln : l.length = nc) (hc : nc ≤ cc) (hc2 : cc ≤ 9223372036854775807) :
  Calls Try.prog 5 #[.pointer (some ⟨p, 0, none⟩), .slice ca nc cc] w (RangeP n rows l w) := by
 obtain ⟨z, hz⟩ : ∃ z, rowN (n : Int) 3 l ⟨false, [], [1]⟩ = z := ⟨_, rfl⟩
 have HZ := Lib.hid hz
 have HLN := Lib.hid hln
 obtain ⟨Qp, hQ⟩ : ∃ Q : Ending → World → Prop, Q = RangeP n rows l w := ⟨_, rfl⟩
 rw [← hQ]
 have HQ := Lib.hid hQ
 have B0 := Lib.hid (below_new w (.cells #[.int .i64 0, .int .i64 0, .bool false, .slice none 0 0, .slice none 0 0, .bool false, .slice none 0 0, .slice none 0 0] 33))
 have X4 : Hid (RgB (w.alloc (.cells #[.int .i64 0, .int .i64 0, .bool false, .slice none 0 0, .slice none 0 0, .bool false, .slice none 0 0, .slice none 0 0] 33)) w.heap.size 0 0 Nw.zero Nw.zero) := heap_alloc_new w _
 have H1 := Lib.hid (h.below B0.out)
 have CF1 := Lib.hid (hl.below B0.out)
 have G4 : Hid (w.heap.size ≤ w.heap.size) := Nat.le_refl _
 clear h hl hln hz hQ
 go_enter Try.func5, Try.ntmps5
 go_upto_region 1 with fail
 generalize w.alloc (.cells #[.int .i64 0, .int .i64 0, .bool false, .slice none 0 0, .slice none 0 0, .bool false, .slice none 0 0, .slice none 0 0] 33) = W at *
 obtain ⟨g4, hg4⟩ : ∃ g, w.heap.size = g := ⟨_, rfl⟩
 have G4 : Hid (w.heap.size = g4) := hg4
 rw [hg4] at X4 ⊢
 clear hg4
 have C1 := sumFault_any (u := n) (rv := mv) (ra := ra) (rn := m) (rc := rc) CF1.out HLN.out hc hc2
 rw [HZ.out] at C1
 have C1 := Lib.hid C1
 obtain ⟨p0, p1, _, _⟩ := H1.out.sy.reads
 go_upto_region 2 with (go_at_call 11; refine C1.out.mono ?_; rintro e w2 ⟨rfl, B2⟩; have BW2 := Lib.hid (Below.over B0.out B0.out.size B2); have H2 := Lib.hid (H1.out.below B2); have X2 := Lib.hid (X4.out.below B2); have CF2 := Lib.hid (CF1.out.below B2); clear B2 H1 X4 CF1 C1)
 clear p0 p1
 obtain ⟨p0, p1, _, _⟩ := H2.out.sy.reads
 have f0 := X2.out.free 0; have f1 := X2.out.free 1; have f2 := X2.out.free 2; have f3 := X2.out.free 3; have f4 := X2.out.free 4; have f5 := X2.out.free 5; have f6 := X2.out.free 6; have f7 := X2.out.free 7
 obtain ⟨b0, b1, b2', b3, b4, b5, b6, b7⟩ := X2.out.reads
 by_cases hz0 : z = 0
 ·obtain ⟨q2, gd⟩ := CF2.out.good (n := n) (by have := HZ.out.trans hz0; exact (rowN_zero this).2.1) (by have := HZ.out.trans hz0; exact (rowN_zero this).2.2.1)
  have CB := Lib.hid (between_any (rc := rc) (k := nc) (H2.out.lp (k := nc) (c := cc) q2 gd (by rw [cfq_len]; exact HLN.out) ⟨hc, hc2⟩) H2.out.sol (by rw [cfq_len]; exact HLN.out))
  clear q2 gd
  go_upto_region 4 with fail
  clear b0 b1 b2' b3 b4 b5 b6 b7 f0 f1 f2 f3 f4 f5 f6 f7
  go_wp2_with (go_at_call 12; refine CB.out.mono ?_; rintro e w3 ⟨u, v, Hi, Lo, hu, hv, rfl, eL, eH, B3⟩; have HU := Lib.hid hu; have HV := Lib.hid hv; have EL := Lib.hid eL; have EH := Lib.hid eH; have BW3 := Lib.hid (Below.over BW2.out BW2.out.size B3); have X3 := X2.out.below B3; have f0 := X3.free 0; have f1 := X3.free 1; have f2 := X3.free 2; have f3 := X3.free 3; have f4 := X3.free 4; have f5 := X3.free 5; have f6 := X3.free 6; have f7 := X3.free 7; obtain ⟨b0, b1, b2', b3, b4, b5, b6, b7⟩ := X3.reads; have X3 := Lib.hid X3; unfold rgV; clear hu hv eL eH B3 CB)
  have X4' := X3.out.set8 (kindV v) (kindV u) Lo Hi
  have O9 := oth8 (w := w3) (g := g4) (.int .i64 (kindV v)) (.int .i64 (kindV u)) (.bool Lo.s) (.slice Lo.a Lo.n Lo.c) (.slice Lo.b Lo.m Lo.d) (.bool Hi.s) (.slice Hi.a Hi.n Hi.c) (.slice Hi.b Hi.m Hi.d)
  have L9 := X3.out.limb O9
  have B9 := below8 (k0 := w.heap.size) (g := g4) BW3.out (Nat.le_of_eq G4.out) (.int .i64 (kindV v)) (.int .i64 (kindV u)) (.bool Lo.s) (.slice Lo.a Lo.n Lo.c) (.slice Lo.b Lo.m Lo.d) (.bool Hi.s) (.slice Hi.a Hi.n Hi.c) (.slice Hi.b Hi.m Hi.d)
  obtain ⟨x0, x1, x2, x3, x4, x5, x6, x7⟩ := X4'.reads
  refine bodyPost_ret (v := .tuple #[rgV (kindV v) (kindV u) Lo Hi, .int .i64 0]) (by simp [results, Try.results5, go_sem, rgV, x0, x1, x2, x3, x4, x5, x6, x7]) rfl ?_
  rw [HQ.out]
  exact Or.inr ⟨HZ.out.trans hz0, u, v, Hi, Lo, HU.out, HV.out, rfl, EL.out.limb L9, EH.out.limb L9, B9⟩
 ·go_wp2_with fail
  have X4' := X2.out.set8 0 0 Nw.zero Nw.zero
  have B9 := below8 (k0 := w.heap.size) (g := g4) BW2.out (Nat.le_of_eq G4.out) (.int .i64 0) (.int .i64 0) (.bool Nw.zero.s) (.slice Nw.zero.a Nw.zero.n Nw.zero.c) (.slice Nw.zero.b Nw.zero.m Nw.zero.d) (.bool Nw.zero.s) (.slice Nw.zero.a Nw.zero.n Nw.zero.c) (.slice Nw.zero.b Nw.zero.m Nw.zero.d)
  obtain ⟨x0, x1, x2, x3, x4, x5, x6, x7⟩ := X4'.reads
  simp only [Nw.zero] at x0 x1 x2 x3 x4 x5 x6 x7
  refine bodyPost_ret (v := .tuple #[rgV 0 0 Nw.zero Nw.zero, .int .i64 z]) (by simp [results, Try.results5, go_sem, rgV, Nw.zero, x0, x1, x2, x3, x4, x5, x6, x7]) rfl ?_
  rw [HQ.out]
  exact Or.inl ⟨by rw [HZ.out]; exact hz0, by rw [HZ.out], B9⟩
def exS : List Rl := [⟨[(0, 2)], 2, 5⟩]
theorem ex_val (c : Rat) (x : Nat → Rat) : val 1 (cof [(0, c)]) x = c * x 0 := by
 simp [val, sm, cof, cofT, cq, Rat.zero_add]
theorem ex_sol_iff (x : Nat → Rat) : Sol (lns exS) 1 x ↔ 2 * x 0 < 5 := by
 have e := ex_val 2 x
 constructor
 ·intro h
  have := h ⟨cof [(0, 2)], 2, 5⟩ (by simp [lns, exS, Rl.ln])
  unfold Ln.ok at this
  simp only at this
  rw [if_neg (by omega)] at this
  simp only [if_true] at this
  rw [e] at this
  exact this
 ·intro h r hr
  obtain rfl : r = ⟨cof [(0, 2)], 2, 5⟩ := by simpa [lns, exS, Rl.ln] using hr
  unfold Ln.ok
  simp only
  rw [if_neg (by omega)]
  simp only [if_true]
  rw [e]
  exact h
theorem ex_sol : ∃ x, Sol (lns exS) 1 x := ⟨fun _ => 0, (ex_sol_iff _).2 (by grind)⟩
theorem ex_high : IsSup (Sol (lns exS) 1) (val 1 (cof [(0, 1)])) (some (5 / 2, false)) := by
 refine ⟨fun x hx => ?_, ?_, fun d hd => ?_⟩
 ·have := (ex_sol_iff x).1 hx
  rw [ex_val]; grind
 ·rw [if_neg (by simp)]
  intro x hx
  have := (ex_sol_iff x).1 hx
  rw [ex_val]; grind
 ·refine ⟨fun _ => 5 / 2 - d / 2, (ex_sol_iff _).2 (by grind), ?_⟩
  rw [ex_val]; grind
theorem ex_low : IsSup (Sol (lns exS) 1) (val 1 (cof (negC [(0, 1)]))) none := by
 intro M
 have e : ∀ x, val 1 (cof (negC [(0, 1)])) x = -1 * x 0 := fun x => ex_val (-1) x
 by_cases h : M ≤ 0
 ·exact ⟨fun _ => 0, (ex_sol_iff _).2 (by grind), by rw [e]; grind⟩
 ·exact ⟨fun _ => -M, (ex_sol_iff _).2 (by grind), by rw [e]; grind⟩
end Go.Proofs.Ytijdglogadnbcaa
