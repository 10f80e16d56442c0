/- Problem.conflict. Printed by genCo.py. -/
import Derived.Test.YtijdglogadnbcaaZ26
import Derived.Test.YtijdglogadnbcaaZ28
import Derived.Test.YtijdglogadnbcaaZ21
import Derived.Test.YtijdglogadnbcaaZ29
import Derived.Test.YtijdglogadnbcaaZ15
import Derived.Test.YtijdglogadnbcaaZ39
import Derived.Test.YtijdglogadnbcaaZ25
set_option linter.unusedVariables false
set_option linter.unusedSimpArgs false
set_option maxRecDepth 100000
set_option maxHeartbeats 40000000
namespace Go.Proofs.Ytijdglogadnbcaa
open Go.RowKit Nt Bl
/-- The multipliers behind the first k columns. -/
def cfT (P : Pb) (r : Nat) (s : Rat) : Nat → Nat → Rat
  | 0, j => if j = P.basic r - P.n then s else 0
  | k + 1, j => if P.T r k ≠ 0 then (if j = P.free k - P.n then -(s * P.T r k) else cfT P r s k j) else cfT P r s k j
theorem cfT_skip {P : Pb} {r k : Nat} {s : Rat} (h : P.T r k = 0) : cfT P r s (k + 1) = cfT P r s k := by
  funext j
  show (if P.T r k ≠ 0 then _ else _) = _
  rw [if_neg (by simp [h])]
theorem cfT_put {P : Pb} {r k d : Nat} {s : Rat} (h : P.T r k ≠ 0) (hd : P.free k - P.n = d) : cfT P r s (k + 1) = fun j => if j = d then -(s * P.T r k) else cfT P r s k j := by
  funext j
  show (if P.T r k ≠ 0 then _ else _) = _
  rw [if_pos h, hd]
def CflL (w : World) (P : Pb) (r : Nat) (s : Rat) (g g8 m1 : Nat) (M : Nw) (v : Value) (wr : World) : Prop :=
  ∃ k : Nat, k ≤ P.n ∧ v = .int .i64 (k : Int) ∧ Below w.heap.size w wr ∧ LineR wr g m1 (cfT P r s k) ∧ NQ wr g8 M ∧ RA wr s M
theorem NQ.below {w w' : World} {g : Nat} {M : Nw} (h : NQ w g M) (hb : Below w.heap.size w w') : NQ w' g M := h.later hb h.lt
theorem co_c27 {W : World} {g8 : Nat} {up : Bool} {M : Nw} (X : NQ W g8 M) (r : RA W 1 M) {K : Act → World → Prop} {u0 u1 u3 u4 u5 u6 u7 u9 u10 u11 u12 u13 u14 u15 u16 u17 u18 u19 u20 u21 u22 u23 u24 u25 u26 u28 u29 u30 u31 u32 u33 u34 u35 u36 u37 u38 u39 u40 u41 u42 u43 u44 u45 u46 u47 u48 u49 u50 u51 u52 u53 u54 u55 u56 u57 u58 u59 u60 u61 u62 u63 u64 u65 u66 u67 u68 u69 u70 u71 u72 u73 u74 u75 u76 u77 u78 u79 u80 : Value}
    (hK : ∀ (M' : Nw) (x28 : Value) (W' : World), NQ W' g8 M' → RA W' (if up then -1 else 1) M' → Below g8 W W' → Limb W W' → K ⟨#[u0, u1, .bool up, u3, u4, u5, u6, u7, .pointer (some ⟨g8, 0, none⟩), u9, u10, u11, u12, u13, u14, u15, u16, u17, u18, u19, u20, u21, u22, u23, u24, u25, u26, .bool up, x28, u29, u30, u31, u32, u33, u34, u35, u36, u37, u38, u39, u40, u41, u42, u43, u44, u45, u46, u47, u48, u49, u50, u51, u52, u53, u54, u55, u56, u57, u58, u59, u60, u61, u62, u63, u64, u65, u66, u67, u68, u69, u70, u71, u72, u73, u74, u75, u76, u77, u78, u79, u80], []⟩ W') :
    (condC Try.f49 27).wp Try.prog (Only K) ⟨#[u0, u1, .bool up, u3, u4, u5, u6, u7, .pointer (some ⟨g8, 0, none⟩), u9, u10, u11, u12, u13, u14, u15, u16, u17, u18, u19, u20, u21, u22, u23, u24, u25, u26, .bool up, u28, u29, u30, u31, u32, u33, u34, u35, u36, u37, u38, u39, u40, u41, u42, u43, u44, u45, u46, u47, u48, u49, u50, u51, u52, u53, u54, u55, u56, u57, u58, u59, u60, u61, u62, u63, u64, u65, u66, u67, u68, u69, u70, u71, u72, u73, u74, u75, u76, u77, u78, u79, u80], []⟩ W := by
  rw [show condC Try.f49 27 = _ from by (simp only [condC, Try.f49, findK, Nat.reduceEqDiff, if_true, if_false, Option.getD]; rfl)]
  have hKK := hK
  clear hK
  have XH := Lib.hid X; have RH := Lib.hid r
  have hKK := Lib.hid hKK
  clear X r
  cases up with
  | false =>
    go_wp2_with fail
    exact hKK.out M u28 _ XH.out RH.out (Below.refl _ _) (Limb.refl _)
  | true =>
    go_wp2_with fail
    refine (rint_any (-1) (by omega) (by omega) _).mono ?_
    rintro e w1 ⟨s1, a1, n1, c1, b1, m1, d1, rfl, L1, B1⟩
    have L1 : Hid (RA w1 (-1) ⟨s1, a1, n1, c1, b1, m1, d1⟩) := L1
    have X1 := XH.out.later B1 XH.out.lt
    obtain ⟨cz0, cz1, cz2, fz⟩ := X1.reads
    have f0 := fz 0; have f1 := fz 1; have f2 := fz 2
    have X1 := Lib.hid X1; have B1 := Lib.hid B1
    clear fz
    go_wp2_with fail
    have LL := X1.out.limb3 ⟨s1, a1, n1, c1, b1, m1, d1⟩
    have XF := X1.out.set3 ⟨s1, a1, n1, c1, b1, m1, d1⟩
    have BF := (((B1.out.mono (Nat.le_of_lt XH.out.lt)).setCell (p := ⟨g8, 0, none⟩) (Nat.le_refl g8) (.bool s1)).setCell (p := ⟨g8, 1, none⟩) (Nat.le_refl g8) (.slice a1 n1 c1)).setCell (p := ⟨g8, 2, none⟩) (Nat.le_refl g8) (.slice b1 m1 d1)
    have RF := RA.limb L1.out LL
    have LF := (Limb.of_below B1.out).trans LL
    exact hKK.out ⟨s1, a1, n1, c1, b1, m1, d1⟩ _ _ XF RF BF LF
theorem conflict_any {n0 r : Nat} {w : World} {L : Lay} {P : Pb} {up : Bool} (h : PAt n0 w L P) (hp : P.Pl) (hs : PSz P 1048576) (hr : r < P.m) (hb : P.n ≤ P.basic r ∧ P.basic r < P.n + P.m - 1)
    (hf : ∀ k, k < P.n → P.T r k ≠ 0 → P.n ≤ P.free k ∧ P.free k < P.n + P.m - 1) :
    Calls Try.prog 49 #[.pointer (some ⟨L.p, 0, none⟩), .int .i64 (r : Int), .bool up] w fun e w' => ∃ g, e = .returned (.slice (some ⟨g, 0, none⟩) (P.m - 1) (P.m - 1)) ∧ LineR w' g (P.m - 1) (cfT P r (if up then -1 else 1) P.n) ∧ w.heap.size ≤ g ∧ Below w.heap.size w w' := by
  have nm := h.nm; have cp := h.cp
  obtain ⟨N, hN⟩ : ∃ N, P.n + P.m = N := ⟨_, rfl⟩
  obtain ⟨m1, hm1⟩ : ∃ m1, P.m = m1 + 1 := ⟨P.m - 1, by omega⟩
  obtain ⟨n, hn⟩ : ∃ n, P.n = n := ⟨_, rfl⟩
  obtain ⟨x, hx⟩ : ∃ x, P.basic r = x := ⟨_, rfl⟩
  obtain ⟨b, hbd⟩ : ∃ b, x = n + b := ⟨x - n, by omega⟩
  have HBB : Hid (P.basic r - P.n = b) := by show _ = _; omega
  obtain ⟨s, hs1⟩ : ∃ s : Rat, (if up then -1 else 1 : Rat) = s := ⟨_, rfl⟩
  rw [show P.m - 1 = m1 from by omega, hs1]
  have SZ := Lib.hid hs; have HF := Lib.hid hf; have HSG := Lib.hid hs1
  have b1 : b < m1 := by omega
  rw [hm1, hn] at nm cp
  have HN := Lib.hid hN; have HM := Lib.hid hm1; have HNN := Lib.hid hn; have PL := Lib.hid hp; have HBD := Lib.hid hx
  have rI0 : (0 : Int) ≤ (r : Int) := by omega
  have rI1 : (r : Int) < ((m1 + 1 : Nat) : Int) := by omega
  have rI2 : (r : Int) < (m1 : Int) + 1 := by omega
  have bI0 : (0 : Int) ≤ (b : Int) := by omega
  have bI1 : (b : Int) < (m1 : Int) := by omega
  have AT := Lib.hid h
  have HR := Lib.hid hr
  have HD := Lib.hid (fun (W : World) (h : PAt n0 W L P) => (show W.cell? ⟨L.p, 0, none⟩ = some (.int .i64 (n : Int)) ∧ W.cell? ⟨L.p, 3, none⟩ = some (.slice (some ⟨L.now, 0, none⟩) N N) ∧ W.cell? ⟨L.p, 4, none⟩ = some (.slice (some ⟨L.bas, 0, none⟩) (m1 + 1) L.basc) ∧ W.cell? ⟨L.p, 5, none⟩ = some (.slice L.frea n L.frec) ∧ W.cell? ⟨L.p, 6, none⟩ = some (.slice (some ⟨L.tab, 0, none⟩) (m1 + 1) L.tabc) ∧ W.cell? ⟨L.bas, r, none⟩ = some (.int .i64 (x : Int)) from by
    have := h.head; rw [HNN.out, HM.out, show n + (m1 + 1) = N from by have := HN.out; have := HM.out; have := HNN.out; omega] at this
    have y := h.ba.at_ r HR.out
    rw [HBD.out] at y
    exact ⟨this.1, this.2.2.2.1, this.2.2.2.2.1, this.2.2.2.2.2.1, this.2.2.2.2.2.2, y⟩))
  obtain ⟨q0, q3, q4, q5, q6, qb⟩ := HD.out _ h
  have W1 : Hid (IntKind.i64.wrap ((N : Int) - (n : Int)) = ((m1 + 1 : Nat) : Int)) := by
    show _ = _
    rw [IntWalk.i64_in _ (by omega)]; omega
  have W2 : Hid (IntKind.i64.wrap (((m1 + 1 : Nat) : Int) - 1) = (m1 : Int)) := by
    show _ = _
    rw [IntWalk.i64_in _ (by omega)]; omega
  have W3 : Hid (IntKind.i64.wrap ((x : Int) - (n : Int)) = (b : Int)) := by
    show _ = _
    rw [IntWalk.i64_in _ (by omega)]; omega
  have N0 : Hid (n0 ≤ w.heap.size) := Nat.le_of_lt (Nat.lt_of_le_of_lt h.ge.1 h.no.blk.lt)
  clear h hp hs hf hr hb hN hm1 hn hx hbd hs1
  go_enter Try.func49, Try.ntmps49
  go_upto_region 1 with fail
  have KP := Lib.hid (fun (W : World) (hB : Below w.heap.size w W) => (show W.cell? ⟨L.p, 3, none⟩ = some (.slice (some ⟨L.now, 0, none⟩) N N) ∧ W.cell? ⟨L.p, 0, none⟩ = some (.int .i64 (n : Int)) from ⟨cell_later hB (Nat.le_refl _) q3, cell_later hB (Nat.le_refl _) q0⟩))
  refine Rg.wpD_start 14 [] (fun W' => W'.cell? ⟨L.p, 3, none⟩ = some (.slice (some ⟨L.now, 0, none⟩) N N) ∧ W'.cell? ⟨L.p, 0, none⟩ = some (.int .i64 (n : Int))) (by kernel_rfl) (by kernel_rfl) ?_ (fun hS ok inv => ?_)
  · exact ⟨q3, q0⟩
  refine Rg.tk 2 rfl ok inv hS fun inv => ?_
  refine Rg.tk 3 rfl ok inv hS fun inv => ?_
  refine Rg.tk 4 rfl ok inv hS fun inv => ?_
  refine Rg.tk 5 rfl ok inv hS fun inv => ?_
  refine Rg.tk 6 rfl ok inv hS fun inv => ?_
  refine Rg.tk 7 rfl ok inv hS fun inv => ?_
  refine Rg.tk 8 rfl ok inv hS fun inv => ?_
  refine Rg.tk 9 rfl ok inv hS fun inv => ?_
  refine Rg.tk 10 rfl ok inv hS fun inv => ?_
  refine Rg.tk 11 rfl ok inv hS fun inv => ?_
  refine Rg.tk 12 rfl ok inv hS fun inv => ?_
  refine Rg.w1 0 rfl inv fun K' hK => ?_
  go_simp
  go_at_call 19
  refine (rint_any 0 (by omega) (by omega) _).mono ?_
  rintro e w2 ⟨s2, a2, n2, c2, b2, m2, d2, rfl, L2, B2⟩
  have B2 := undrew B2
  have L2 : RA w2 0 ⟨s2, a2, n2, c2, b2, m2, d2⟩ := L2
  have KS := KP.out w2 B2
  refine Rg.st hK ?_ fun hS inv => ?_
  · exact KS
  clear hK K'
  refine Rg.w1 1 rfl inv fun K' hK => ?_
  (try simp only [zA, zB, zC])
  go_simp
  have B3 := below_new w2 (.cells #[.bool s2, .slice a2 n2 c2, .slice b2 m2 d2] 26)
  have X3 : NQ (w2.alloc (.cells #[.bool s2, .slice a2 n2 c2, .slice b2 m2 d2] 26)) w2.heap.size ⟨s2, a2, n2, c2, b2, m2, d2⟩ := heap_alloc_new _ _
  have L3 := RAt.below L2 B3
  have BW3 := Below.over B2 B2.size B3
  refine Rg.st hK ?_ fun hS inv => ?_
  · exact KP.out _ BW3
  clear hK K'
  generalize w2.alloc (.cells #[.bool s2, .slice a2 n2 c2, .slice b2 m2 d2] 26) = w3 at *
  generalize w2.heap.size = g3_ at *
  clear B3 L2 B2
  try rw [W1.out]
  try rw [W2.out]
  refine Rg.w1 13 rfl inv fun K' hK => ?_
  (try simp only [zA, zB, zC])
  go_simp
  go_at_call 46
  try rw [W1.out, W2.out]
  refine (repN_any X3 (by omega)).mono ?_
  rintro e w4 ⟨g, rfl, LD, GE, B4⟩
  have KS := KP.out w4 (Below.over BW3 BW3.size B4)
  refine Rg.st hK ?_ fun hS inv => ?_
  · exact KS
  clear hK K'
  have LN4 := Lib.hid (LD.line (RAt.below L3 B4))
  have GE4 : Hid (w.heap.size ≤ g) := Nat.le_trans BW3.size GE
  have BW4 := Lib.hid (Below.over BW3 BW3.size B4)
  clear LD GE B4 BW3 L3 X3
  refine Rg.wl rfl ?_
  go_simp
  have N8 : Hid (w.heap.size ≤ w4.heap.size) := BW4.out.size
  go_upto_region 3 with (go_at_call 19; refine (rint_any 1 (by omega) (by omega) _).mono ?_; rintro e w5 ⟨s5, a5, n5, c5, b5, m5, d5, rfl, L5, B5⟩; have L5 : Hid (RA w5 1 ⟨s5, a5, n5, c5, b5, m5, d5⟩) := L5; have LN5 := Lib.hid (LN4.out.keep (B5.block g LN4.out.blk.lt) (Limb.of_below B5)); have BW5 := Lib.hid (Below.over BW4.out BW4.out.size B5); clear B5)
  have B6 := below_new w5 (.cells #[.bool s5, .slice a5 n5 c5, .slice b5 m5 d5] 26)
  have X7 : Hid (NQ (w5.alloc (.cells #[.bool s5, .slice a5 n5 c5, .slice b5 m5 d5] 26)) w5.heap.size ⟨s5, a5, n5, c5, b5, m5, d5⟩) := heap_alloc_new _ _
  have L7 : Hid (RA (w5.alloc (.cells #[.bool s5, .slice a5 n5 c5, .slice b5 m5 d5] 26)) 1 ⟨s5, a5, n5, c5, b5, m5, d5⟩) := RAt.below L5.out B6
  have GE8 : Hid (w.heap.size ≤ w5.heap.size) := BW5.out.size
  have B7 := Lib.hid (Below.over BW5.out BW5.out.size B6)
  have LN7 := Lib.hid (LN5.out.keep (B6.block g LN5.out.blk.lt) (Limb.of_below B6))
  have G8 : Hid (g < w5.heap.size) := LN5.out.blk.lt
  clear B6
  generalize w5.alloc (.cells #[.bool s5, .slice a5 n5 c5, .slice b5 m5 d5] 26) = w7 at *
  generalize w5.heap.size = g8 at *
  go_upto_if 27 with fail
  refine wp_only (co_c27 X7.out L7.out fun M8 x28 w8 hX hR hB hL => ?rest) (fun _ _ h => h)
  have LN8 := Lib.hid (LN7.out.keep (hB.block g G8.out) hL)
  have X8 := Lib.hid hX
  rw [HSG.out] at hR
  have R8 := Lib.hid hR
  have B8 : Hid (Below w.heap.size w w8) := Below.trans B7.out (hB.mono GE8.out)
  clear hX hR hB hL X7 L7 B7 LN7
  obtain ⟨q0, q3, q4, q5, q6, qb⟩ := HD.out _ (AT.out.below B8.out)
  obtain ⟨x0, x1, x2, _⟩ := X8.out.reads
  go_upto_region 5 with fail
  refine Rg.wpD_start 15 [] (fun W' => W'.cell? ⟨L.p, 4, none⟩ = some (.slice (some ⟨L.bas, 0, none⟩) (m1 + 1) L.basc) ∧ W'.cell? ⟨L.bas, r, none⟩ = some (.int .i64 (x : Int)) ∧ W'.cell? ⟨L.p, 0, none⟩ = some (.int .i64 (n : Int)) ∧ W'.cell? ⟨g8, 0, none⟩ = some (.bool M8.s) ∧ W'.cell? ⟨g8, 1, none⟩ = some (.slice M8.a M8.n M8.c) ∧ W'.cell? ⟨g8, 2, none⟩ = some (.slice M8.b M8.m M8.d)) (by kernel_rfl) (by kernel_rfl) ?_ (fun hS ok inv => ?_)
  · exact ⟨q4, qb, q0, x0, x1, x2⟩
  refine Rg.tk 0 rfl ok inv hS fun inv => ?_
  refine Rg.tk 1 rfl ok inv hS fun inv => ?_
  refine Rg.tk 2 rfl ok inv hS fun inv => ?_
  refine Rg.tk 3 rfl ok inv hS fun inv => ?_
  refine Rg.tk 4 rfl ok inv hS fun inv => ?_
  refine Rg.tk 5 rfl ok inv hS fun inv => ?_
  refine Rg.tk 6 rfl ok inv hS fun inv => ?_
  refine Rg.tk 7 rfl ok inv hS fun inv => ?_
  refine Rg.tk 8 rfl ok inv hS fun inv => ?_
  refine Rg.tk 9 rfl ok inv hS fun inv => ?_
  refine Rg.tk 10 rfl ok inv hS fun inv => ?_
  refine Rg.tk 11 rfl ok inv hS fun inv => ?_
  refine Rg.tk 12 rfl ok inv hS fun inv => ?_
  try rw [W3.out]
  refine Rg.tk 13 rfl ok inv hS fun inv => ?_
  refine Rg.tk 14 rfl ok inv hS fun inv => ?_
  have LND : LineR w8.drew g m1 (fun _ => 0) := LN8.out.keep rfl (Limb.of_below (Below.refl _ _).drew)
  have X8d : NQ w8.drew g8 M8 := X8.out
  have R8d : RA w8.drew s M8 := RAt.below R8.out (Below.refl _ _).drew
  have B8d : Below w.heap.size w w8.drew := B8.out.drew
  clear q0 q3 q4 q5 q6 qb x0 x1 x2
  generalize w8.drew = c0 at *
  obtain ⟨A, y0, y1, y2, _⟩ := LND.at_ b b1
  have f0 := LND.blk.free (b * 3); have f1 := LND.blk.free (b * 3 + 1); have f2 := LND.blk.free (b * 3 + 2)
  refine Rg.wl rfl ?_
  go_simp
  have HW : Wr c0 (((c0.setCell ⟨g, b * 3, none⟩ (.bool M8.s)).setCell ⟨g, b * 3 + 1, none⟩ (.slice M8.a M8.n M8.c)).setCell ⟨g, b * 3 + 2, none⟩ (.slice M8.b M8.m M8.d)) g (b * 3) M8.cs := LND.wr b1 M8
  have LM := LND.limb b1 HW
  have LN9 : LineR (((c0.setCell ⟨g, b * 3, none⟩ (.bool M8.s)).setCell ⟨g, b * 3 + 1, none⟩ (.slice M8.a M8.n M8.c)).setCell ⟨g, b * 3 + 2, none⟩ (.slice M8.b M8.m M8.d)) g m1 (cfT P r s 0) := by
    have := LND.set b1 HW R8d
    rwa [show (fun j => if j = b then s else 0) = cfT P r s 0 from funext fun j => by show _ = (if j = P.basic r - P.n then s else 0); rw [HBB.out]] at this
  have LN9 := Lib.hid LN9
  have X9 : Hid (NQ (((c0.setCell ⟨g, b * 3, none⟩ (.bool M8.s)).setCell ⟨g, b * 3 + 1, none⟩ (.slice M8.a M8.n M8.c)).setCell ⟨g, b * 3 + 2, none⟩ (.slice M8.b M8.m M8.d)) g8 M8) := (HW.oth g8 (Nat.ne_of_gt G8.out)).trans X8d
  have R9 := Lib.hid (RA.limb R8d LM)
  have B9 : Hid (Below w.heap.size w (((c0.setCell ⟨g, b * 3, none⟩ (.bool M8.s)).setCell ⟨g, b * 3 + 1, none⟩ (.slice M8.a M8.n M8.c)).setCell ⟨g, b * 3 + 2, none⟩ (.slice M8.b M8.m M8.d))) := HW.bel _ _ GE4.out B8d
  clear HW LM LND X8d R8d B8d y0 y1 y2 f0 f1 f2 X8 R8 LN8 B8
  generalize ((c0.setCell ⟨g, b * 3, none⟩ (.bool M8.s)).setCell ⟨g, b * 3 + 1, none⟩ (.slice M8.a M8.n M8.c)).setCell ⟨g, b * 3 + 2, none⟩ (.slice M8.b M8.m M8.d) = w9 at *
  have J0 : Hid (CflL w P r s g g8 m1 M8 (.int .i64 0) w9) := ⟨0, Nat.zero_le _, rfl, B9.out, LN9.out, X9.out, R9.out⟩
  have A9 := AT.out.below B9.out
  obtain ⟨q0, q3, q4, q5, q6, qb⟩ := HD.out _ A9
  clear A9 LN9 X9 R9 B9
  have SS : Hid (Sz s 268435456) := by
    show Sz _ _
    rw [← HSG.out]
    split
    · exact Sz.mono Sz.one.neg (by omega)
    · exact Sz.mono Sz.one (by omega)
  go_wp2_with fail
  go_loopw [49] (fun v49 wr => CflL w P r s g g8 m1 M8 v49 wr) (fun v _ => n - (intOf v).toNat)
  case atStart => exact J0.out
  case round =>
    clear q0 q3 q4 q5 q6 qb J0
    obtain ⟨k, hk, rfl, hB, hLN, hX, hR⟩ := hrel
    rw [HNN.out] at hk
    have A := AT.out.below hB
    have BR := Lib.hid hB; have LR := Lib.hid hLN; have XR := Lib.hid hX; have RR := Lib.hid hR
    clear hB hLN hX hR
    obtain ⟨q0, q3, q4, q5, q6, qb⟩ := HD.out _ A
    by_cases hlt : k < n
    · have n0' : 0 < P.n := by have := HNN.out; omega
      have kP : k < P.n := by have := HNN.out; omega
      obtain ⟨y, hy⟩ : ∃ y, P.free k = y := ⟨_, rfl⟩
      have pf := (A.fr n0').2.at_ k kP
      rw [hy] at pf
      rw [(A.fr n0').1] at q5
      rw [(A.fr n0').1]
      obtain ⟨la, li⟩ := A.li n0' r HR.out
      have ta := A.ta r HR.out
      rw [la, HNN.out] at ta
      obtain ⟨E, e0, e1, e2, rE⟩ := li.at_ k kP
      obtain ⟨q, hq⟩ : ∃ q, P.T r k = q := ⟨_, rfl⟩
      rw [hq] at rE
      have HQ := Lib.hid hq; have HY := Lib.hid hy
      have SE : Hid (Sz q 1048576) := by show Sz _ _; rw [← hq]; exact SZ.out.tab r k HR.out kP
      have FK := HF.out k kP
      rw [hq, hy] at FK
      have FK := Lib.hid FK
      have k0 : (0 : Int) ≤ (k : Int) := by omega
      have k1 : (k : Int) < (n : Int) := by omega
      have NB := below_new wr (.cells #[.bool E.s, .slice E.a E.n E.c, .slice E.b E.m E.d] 26)
      have SG := rsign_any (RAt.below rE NB)
      have X11 : Hid (NQ (wr.alloc (.cells #[.bool E.s, .slice E.a E.n E.c, .slice E.b E.m E.d] 26)) wr.heap.size E) := heap_alloc_new _ _
      have RE := Lib.hid (RAt.below rE NB)
      have B1 := Lib.hid (Below.over BR.out BR.out.size NB)
      have LN1 := Lib.hid (LR.out.keep (NB.block g LR.out.blk.lt) (Limb.of_below NB))
      have X1 := Lib.hid (XR.out.below NB)
      have R1 := Lib.hid (RAt.below RR.out NB)
      obtain ⟨z, hz⟩ : ∃ z, rsgn q = z := ⟨_, rfl⟩
      rw [hz] at SG
      have SG := Lib.hid SG
      have HZ := Lib.hid hz
      clear la li rE hz hq hy NB A
      go_upto_region 10 with fail
      clear q0 q3 q4 q5 q6 qb e0 e1 e2 ta pf BR LR XR RR
      generalize wr.alloc (.cells #[.bool E.s, .slice E.a E.n E.c, .slice E.b E.m E.d] 26) = w1 at *
      generalize wr.heap.size = g11 at *
      obtain ⟨z0, z1, z2, _⟩ := X11.out.reads
      by_cases zz : z = 0
      · have T1 : Hid (cfT P r s (k + 1) = cfT P r s k) := cfT_skip (rsgn_zero.1 (by rw [HQ.out, HZ.out]; exact zz))
        have zb : (z != 0) = false := by simp [zz]
        clear zz
        go_wp2_with (go_at_call 33; refine SG.out.mono ?_; rintro e w2 ⟨rfl, B2⟩; have B3 := Lib.hid (Below.over B1.out B1.out.size B2); have LN3 := Lib.hid (LN1.out.keep (B2.block g LN1.out.blk.lt) (Limb.of_below B2)); have X3 := Lib.hid (X1.out.below B2); have R3 := Lib.hid (RAt.below R1.out B2))
        go_roundw
        case rel => exact ⟨k + 1, by rw [HNN.out]; omega, by go_num, B3.out, by rw [T1.out]; exact LN3.out, X3.out, R3.out⟩
        case measure => simp [intOf]; omega
      · have qn : q ≠ 0 := fun e => zz (by rw [← HZ.out]; exact rsgn_zero.2 e)
        obtain ⟨d, hd⟩ : ∃ d, y = n + d := ⟨y - n, by have := (FK.out qn).1; have := HNN.out; omega⟩
        have dlt : d < m1 := by have := (FK.out qn).2; have := HM.out; have := HNN.out; omega
        have T1 : Hid (cfT P r s (k + 1) = fun j => if j = d then -(s * q) else cfT P r s k j) := by
          show _ = _
          rw [cfT_put (d := d) (by rw [HQ.out]; exact qn) (by rw [HY.out, HNN.out]; omega), HQ.out]
        have WD : Hid (IntKind.i64.wrap ((y : Int) - (n : Int)) = (d : Int)) := by
          show _ = _
          rw [IntWalk.i64_in _ (by omega)]; omega
        have d0 : (0 : Int) ≤ (d : Int) := by omega
        have d1 : (d : Int) < (m1 : Int) := by omega
        have zb : (z != 0) = true := by simp [zz]
        clear zz qn hd
        go_upto_region 11 with (go_at_call 33; refine SG.out.mono ?_; rintro e w3 ⟨rfl, B2⟩; have B3 := Lib.hid (Below.over B1.out B1.out.size B2); have LN3 := Lib.hid (LN1.out.keep (B2.block g LN1.out.blk.lt) (Limb.of_below B2)); have X3 := Lib.hid (X1.out.below B2); have R3 := Lib.hid (RAt.below R1.out B2); have RE3 := Lib.hid (RAt.below RE.out B2); have X113 := Lib.hid (X11.out.below B2); clear B2)
        clear z0 z1 z2
        obtain ⟨q0, _, _, _, _, _⟩ := HD.out _ (AT.out.below B3.out)
        obtain ⟨x0, x1, x2, _⟩ := X3.out.reads
        obtain ⟨z0, z1, z2, _⟩ := X113.out.reads
        have KP := Lib.hid (fun (W' : World) (hB : Below w3.heap.size w3 W') => (show W'.cell? ⟨L.p, 0, none⟩ = some (.int .i64 (n : Int)) ∧ W'.cell? ⟨g8, 0, none⟩ = some (.bool M8.s) ∧ W'.cell? ⟨g8, 1, none⟩ = some (.slice M8.a M8.n M8.c) ∧ W'.cell? ⟨g8, 2, none⟩ = some (.slice M8.b M8.m M8.d) ∧ W'.cell? ⟨g11, 0, none⟩ = some (.bool E.s) ∧ W'.cell? ⟨g11, 1, none⟩ = some (.slice E.a E.n E.c) ∧ W'.cell? ⟨g11, 2, none⟩ = some (.slice E.b E.m E.d) from ⟨cell_later hB (Nat.le_refl _) q0, cell_later hB (Nat.le_refl _) x0, cell_later hB (Nat.le_refl _) x1, cell_later hB (Nat.le_refl _) x2, cell_later hB (Nat.le_refl _) z0, cell_later hB (Nat.le_refl _) z1, cell_later hB (Nat.le_refl _) z2⟩))
        refine Rg.wpD_start 12 [] (fun W' => W'.cell? ⟨L.p, 0, none⟩ = some (.int .i64 (n : Int)) ∧ W'.cell? ⟨g8, 0, none⟩ = some (.bool M8.s) ∧ W'.cell? ⟨g8, 1, none⟩ = some (.slice M8.a M8.n M8.c) ∧ W'.cell? ⟨g8, 2, none⟩ = some (.slice M8.b M8.m M8.d) ∧ W'.cell? ⟨g11, 0, none⟩ = some (.bool E.s) ∧ W'.cell? ⟨g11, 1, none⟩ = some (.slice E.a E.n E.c) ∧ W'.cell? ⟨g11, 2, none⟩ = some (.slice E.b E.m E.d)) (by kernel_rfl) (by kernel_rfl) ?_ (fun hS ok inv => ?_)
        · exact ⟨q0, x0, x1, x2, z0, z1, z2⟩
        refine Rg.tk 0 rfl ok inv hS fun inv => ?_
        refine Rg.tk 1 rfl ok inv hS fun inv => ?_
        refine Rg.tk 2 rfl ok inv hS fun inv => ?_
        refine Rg.tk 3 rfl ok inv hS fun inv => ?_
        refine Rg.tk 4 rfl ok inv hS fun inv => ?_
        refine Rg.tk 5 rfl ok inv hS fun inv => ?_
        refine Rg.tk 6 rfl ok inv hS fun inv => ?_
        try rw [WD.out]
        refine Rg.tk 7 rfl ok inv hS fun inv => ?_
        refine Rg.tk 8 rfl ok inv hS fun inv => ?_
        refine Rg.w1 9 rfl inv fun K' hK => ?_
        go_simp
        go_at_call 66
        refine (rmul_any (RAt.below R3.out (Below.refl _ _).drew) (RAt.below RE3.out (Below.refl _ _).drew) SS.out (Sz.mono SE.out (by omega))).mono ?_
        rintro e w4 ⟨s4, a4, n4, c4, b4, m4, d4, rfl, L4, B4⟩
        have B4 := undrew B4
        have L4 : RA w4 (s * q) ⟨s4, a4, n4, c4, b4, m4, d4⟩ := L4
        have KS := KP.out w4 B4
        refine Rg.st hK ?_ fun hS inv => ?_
        · exact KS
        clear hK K'
        refine Rg.w1 10 rfl inv fun K' hK => ?_
        go_simp
        go_at_call 24
        refine (rneg_any L4).mono ?_
        rintro e w5 ⟨s5, a5, n5, c5, b5, m5, d5, rfl, L5, B5⟩
        have L5 : RA w5 (-(s * q)) ⟨s5, a5, n5, c5, b5, m5, d5⟩ := L5
        have B35 := Below.over B4 B4.size B5
        have KS := KP.out w5 B35
        refine Rg.st hK ?_ fun hS inv => ?_
        · exact KS
        clear hK K'
        have LND := LN3.out.keep (B35.block g LN3.out.blk.lt) (Limb.of_below B35)
        obtain ⟨A, y0, y1, y2, _⟩ := LND.at_ d dlt
        have f0 := LND.blk.free (d * 3); have f1 := LND.blk.free (d * 3 + 1); have f2 := LND.blk.free (d * 3 + 2)
        refine Rg.y1 11 rfl inv hS fun inv => ?_
        refine Rg.wl rfl ?_
        go_simp
        have HW : Wr w5 (((w5.setCell ⟨g, d * 3, none⟩ (.bool s5)).setCell ⟨g, d * 3 + 1, none⟩ (.slice a5 n5 c5)).setCell ⟨g, d * 3 + 2, none⟩ (.slice b5 m5 d5)) g (d * 3) (⟨s5, a5, n5, c5, b5, m5, d5⟩ : Nw).cs := LND.wr dlt ⟨s5, a5, n5, c5, b5, m5, d5⟩
        have LM := LND.limb dlt HW
        have LN6 := Lib.hid (LND.set dlt HW L5)
        have X6 : Hid (NQ (((w5.setCell ⟨g, d * 3, none⟩ (.bool s5)).setCell ⟨g, d * 3 + 1, none⟩ (.slice a5 n5 c5)).setCell ⟨g, d * 3 + 2, none⟩ (.slice b5 m5 d5)) g8 M8) := (HW.oth g8 (Nat.ne_of_gt G8.out)).trans (X3.out.below B35)
        have R6 := Lib.hid (RA.limb (RAt.below R3.out B35) LM)
        have B6 : Hid (Below w.heap.size w (((w5.setCell ⟨g, d * 3, none⟩ (.bool s5)).setCell ⟨g, d * 3 + 1, none⟩ (.slice a5 n5 c5)).setCell ⟨g, d * 3 + 2, none⟩ (.slice b5 m5 d5))) := HW.bel _ _ GE4.out (Below.over B3.out B3.out.size B35)
        clear HW LM LND y0 y1 y2 f0 f1 f2 B35 B4 B5 L4 L5 KS
        generalize ((w5.setCell ⟨g, d * 3, none⟩ (.bool s5)).setCell ⟨g, d * 3 + 1, none⟩ (.slice a5 n5 c5)).setCell ⟨g, d * 3 + 2, none⟩ (.slice b5 m5 d5) = w6 at *
        clear q0 x0 x1 x2 z0 z1 z2
        go_wp2_with fail
        go_roundw
        case rel => exact ⟨k + 1, by rw [HNN.out]; omega, by go_num, B6.out, by rw [T1.out]; exact LN6.out, X6.out, R6.out⟩
        case measure => simp [intOf]; omega
    · obtain rfl : n = k := by omega
      have LF := LR.out
      rw [← HNN.out] at LF
      have LF := Lib.hid LF
      go_wp2_with fail
      go_ret
      exact ⟨g, rfl, LF.out, GE4.out, BR.out⟩
/-- A number of at most 32 and 8 binary digits. -/
def SmQ (q : Rat) : Prop := q.num.natAbs < 4294967296 ∧ q.den < 256
structure GoodC (n : Nat) (l : List (Nat × Rat)) : Prop where
 len : l.length ≤ 8
 at_ : ∀ i, i < l.length → (cq l i).1 < n ∧ SmQ (cq l i).2
structure Rl.Good (n : Nat) (R : Rl) : Prop where
 cs : GoodC n R.cs
 bd : SmQ R.bd
def prodD (l : List (Nat × Rat)) : Nat → Nat
 | 0 => 1
 | i + 1 => prodD l i * (cq l i).2.den
theorem prodD_pos (l : List (Nat × Rat)) : ∀ i, 0 < prodD l i
 | 0 => Nat.zero_lt_one
 | i + 1 => Nat.mul_pos (prodD_pos l i) (Rat.den_pos _)
theorem prodD_dvd {l : List (Nat × Rat)} {k : Nat} : ∀ {i : Nat}, k < i → (cq l k).2.den ∣ prodD l i
 | 0, h => absurd h (Nat.not_lt_zero _)
 | i + 1, h => by
  by_cases e : k = i
  ·subst e; exact Nat.dvd_mul_left _ _
  ·exact Nat.dvd_trans (prodD_dvd (i := i) (by omega)) (Nat.dvd_mul_right _ _)
theorem prodD_le {l : List (Nat × Rat)} : ∀ {i : Nat}, (∀ k, k < i → (cq l k).2.den < 256) → prodD l i ≤ 256 ^ i
 | 0, _ => Nat.le_refl _
 | i + 1, h => by
  have a := prodD_le (i := i) fun k hk => h k (by omega)
  have b := h i (by omega)
  show prodD l i * _ ≤ 256 ^ i * 256
  exact Nat.mul_le_mul a (by omega)
theorem cofT_cases (l : List (Nat × Rat)) (j : Nat) : ∀ i, cofT l i j = 0 ∨ ∃ k, k < i ∧ (cq l k).1 = j ∧ cofT l i j = (cq l k).2
 | 0 => Or.inl rfl
 | i + 1 => by
  by_cases e : j = (cq l i).1
  ·exact Or.inr ⟨i, Nat.lt_succ_self i, e.symm, if_pos e⟩
  ·rcases cofT_cases l j i with h | ⟨k, h1, h2, h3⟩
   ·exact Or.inl (by show (if _ then _ else _) = _; rw [if_neg e]; exact h)
   ·exact Or.inr ⟨k, by omega, h2, by show (if _ then _ else _) = _; rw [if_neg e]; exact h3⟩
theorem whole_of {q : Rat} {D : Nat} (h : q.den ∣ D) (hs : SmQ q) : ∃ a : Int, (D : Rat) * q = (a : Rat) ∧ a.natAbs ≤ D * 4294967296 := by
 obtain ⟨c, rfl⟩ := h
 refine ⟨(c : Int) * q.num, ?_, ?_⟩
 ·have d0 : (q.den : Rat) ≠ 0 := by
   have := q.den_nz
   exact_mod_cast this
  have e : q * (q.den : Rat) = (q.num : Rat) := by
   have h := Rat.num_divInt_den q
   rw [Rat.divInt_eq_div] at h
   have k := Rat.div_mul_cancel (a := (q.num : Rat)) d0
   rw [show (((q.den : Nat) : Int) : Rat) = (q.den : Rat) from rfl] at h
   rwa [h] at k
  rw [cast_mul, ← e, Rat.natCast_mul]
  show _ = (c : Rat) * _
  grind
 ·rw [Int.natAbs_mul, Int.natAbs_natCast]
  have := hs.1
  have d1 : 1 ≤ q.den := Rat.den_pos q
  calc c * q.num.natAbs ≤ (q.den * c) * q.num.natAbs := Nat.mul_le_mul_right _ (Nat.le_mul_of_pos_left c d1)
   _ ≤ q.den * c * 4294967296 := Nat.mul_le_mul_left _ (by omega)
theorem nrm_le {B : Nat} {a : Nat → Int} : ∀ {n : Nat}, (∀ j, j < n → (a j).natAbs ≤ B) → nrm n a ≤ n * B
 | 0, _ => Nat.zero_le _
 | n + 1, h => by
  have a1 := nrm_le (n := n) fun j hj => h j (by omega)
  have a2 := h n (by omega)
  show nrm n a + (a n).natAbs ≤ (n + 1) * B
  rw [Nat.add_mul, Nat.one_mul]
  omega
/-- The bound of all numbers in the rows. -/
def bigR : Nat := 2 ^ 112
theorem good_small {n : Nat} {l : List (Nat × Rat)} {bd : Rat} (hl : GoodC n l) (hb : SmQ bd) (hn : n ≤ 60) : Ln.Small (cof l) bd n bigR := by
 have dp := prodD_pos l l.length
 have dl : prodD l l.length ≤ 256 ^ 8 := Nat.le_trans (prodD_le fun k hk => (hl.at_ k hk).2.2) (Nat.pow_le_pow_right (by omega) hl.len)
 obtain ⟨D, hD⟩ : ∃ D, prodD l l.length * bd.den = D := ⟨_, rfl⟩
 have D1 : 1 ≤ D := by rw [← hD]; exact Nat.mul_pos dp (Rat.den_pos _)
 have D2 : D ≤ 256 ^ 9 := by
  rw [← hD]
  calc prodD l l.length * bd.den ≤ 256 ^ 8 * 256 := Nat.mul_le_mul dl (Nat.le_of_lt hb.2)
   _ = 256 ^ 9 := by decide
 have each : ∀ j, ∃ a : Int, (D : Rat) * cof l j = (a : Rat) ∧ a.natAbs ≤ D * 4294967296 := fun j => by
  rcases cofT_cases l j l.length with h | ⟨k, h1, h2, h3⟩
  ·refine ⟨0, ?_, by simp⟩
   show (D : Rat) * cofT l l.length j = _
   rw [h]; simp
  ·have := whole_of (D := D) (Nat.dvd_trans (prodD_dvd h1) (by rw [← hD]; exact Nat.dvd_mul_right _ _)) (hl.at_ k h1).2
   obtain ⟨a, e1, e2⟩ := this
   exact ⟨a, by show (D : Rat) * cofT l l.length j = _; rw [h3]; exact e1, e2⟩
 obtain ⟨a, ha⟩ := Classical.axiomOfChoice each
 obtain ⟨b, e1, e2⟩ := whole_of (D := D) (q := bd) (by rw [← hD]; exact Nat.dvd_mul_left _ _) hb
 have N := nrm_le (n := n) (a := a) fun j _ => (ha j).2
 have M : D * 4294967296 ≤ 256 ^ 9 * 4294967296 := Nat.mul_le_mul_right _ D2
 have N2 : n * (D * 4294967296) ≤ 60 * (256 ^ 9 * 4294967296) := Nat.mul_le_mul hn M
 have C : 60 * (256 ^ 9 * 4294967296) + 256 ^ 9 * 4294967296 + 256 ^ 9 ≤ bigR := by decide
 obtain ⟨X, hX⟩ : ∃ X, 256 ^ 9 * 4294967296 = X := ⟨_, rfl⟩
 obtain ⟨Y, hY⟩ : ∃ Y, 256 ^ 9 = Y := ⟨_, rfl⟩
 obtain ⟨Z, hZ⟩ : ∃ Z, bigR = Z := ⟨_, rfl⟩
 rw [hX] at M N2 C
 rw [hY] at C D2
 rw [hZ] at C ⊢
 exact ⟨D, a, b, D1, by omega, fun j _ => (ha j).1, e1, by omega, by omega⟩
theorem smq_zero : SmQ 0 := by unfold SmQ; decide
theorem bigK {n K : Nat} (hn : n ≤ 60) (hK : 300 ≤ K) : bigR * (2 * bigR) ^ n * bigR < 4294967296 ^ K := by
 have e : bigR * (2 * bigR) ^ n * bigR = 2 ^ (112 + 113 * n + 112) := by
  rw [show 2 * bigR = 2 ^ 113 from by unfold bigR; decide, ← Nat.pow_mul, show bigR = 2 ^ 112 from rfl, ← Nat.pow_add, ← Nat.pow_add]
 have f : 4294967296 ^ K = 2 ^ (32 * K) := by rw [Nat.pow_mul]
 rw [e, f]
 exact Nat.pow_lt_pow_right (by omega) (by omega)
theorem rows_fm {rows : List Rl} {n : Nat} {gl : List (Nat × Rat)} (hr : ∀ i, i < rows.length → (rq rows i).Good n) (hg : GoodC n gl) (hn : n ≤ 60) : ∃ D a, Fm (Pb0 (lns rows) n (cof gl)) bigR D a := by
 refine Pb0.fm (fun i hi => ?_) (good_small hg smq_zero hn)
 have hi' : i < rows.length := by rw [← lns_len]; exact hi
 have e : (lns rows)[i] = (rq rows i).ln := by
  have := lns_get hi'
  rw [List.getElem?_eq_getElem hi] at this
  exact Option.some.inj this
 rw [e]
 exact good_small (hr i hi').cs (hr i hi').bd hn
theorem Bl.Gre.endsz {K : Nat} {is : Bool} : ∀ {k : Nat} {P Q : Pb}, Gre K k P Q is → PSz Q K
 | 0, P, Q, h => by
  obtain ⟨h, rfl, _⟩ := h
  exact h
 | k + 1, P, Q, h => by
  obtain ⟨_, r, c, P2, _, _, _, h⟩ := h
  exact Bl.Gre.endsz h
section
variable {rows : List Rl} {n : Nat} {gl : List (Nat × Rat)}
theorem solve_feas (hr : ∀ i, i < rows.length → (rq rows i).Good n) (hg : GoodC n gl) (hn : n ≤ 60) :
  ∃ k Q x, Fes 1048576 k (Pb0 (lns rows) n (cof gl)) Q x ∧
   ((x = none ∧ Top (Pb0 (lns rows) n (cof gl)) (lns rows).length Q ∧ ∃ x, Sol (lns rows) n x) ∨
    (x ≠ none ∧ (∀ r up, x = some (r, up) → Q.brk = some (r, up) ∧ Q.hlp r up = none) ∧ ¬ ∃ x, Sol (lns rows) n x)) := by
 obtain ⟨D, a, F⟩ := rows_fm hr hg hn
 obtain ⟨k, Q, x, h1, h2, h3, h4⟩ := fes_total (Pb0.mid (lns rows) n (cof gl)) F (bigK (K := 1048576) hn (by omega))
 refine ⟨k, Q, x, h1, ?_⟩
 cases x with
 | none =>
  have ha := h3 rfl
  refine Or.inl ⟨rfl, h2.top ?_, feas_yes h2 ha⟩
  rw [h2.kin.low, h2.kin.high, h2.kin.n, h2.kin.m]
  exact ha
 | some y =>
  obtain ⟨r, up⟩ := y
  exact Or.inr ⟨by simp, fun r' up' e => by obtain ⟨a1, a2, _⟩ := h4 r' up' e; exact ⟨a1, a2⟩, feas_no fun y ty hy => (h4 r up rfl).2.2 y ty hy⟩
theorem solve_sup {Q : Pb} (hr : ∀ i, i < rows.length → (rq rows i).Good n) (hg : GoodC n gl) (hn : n ≤ 60) (h : Top (Pb0 (lns rows) n (cof gl)) (lns rows).length Q) :
  ∃ k Q2 is, Gre 1048576 k Q Q2 is ∧ Sz (Q2.now (n + rows.length)).m 1048576 ∧ Sz (Q2.now (n + rows.length)).s 1048576 ∧
   IsSup (Sol (lns rows) n) (val n (cof gl)) (if is then some ((Q2.now (n + rows.length)).m, decide ((Q2.now (n + rows.length)).s = 0)) else none) := by
 obtain ⟨D, a, F⟩ := rows_fm hr hg hn
 obtain ⟨k, Q2, is, h1, h2, h3, h4⟩ := gre_total h F (bigK (K := 1048576) hn (by omega))
 have sz := h1.endsz.now (n + rows.length) (by
  rw [h2.kin.n, h2.kin.m]
  show n + rows.length < n + ((lns rows).length + 1)
  rw [lns_len]; omega)
 refine ⟨k, Q2, is, h1, sz.1, sz.2, ?_⟩
 cases is with
 | true =>
  have := sup_best h2 (h3 rfl)
  rw [show n + ((lns rows).length + 1) - 1 = n + rows.length from by rw [lns_len]; omega] at this
  exact this
 | false =>
  obtain ⟨c, e1, e2⟩ := h4 rfl
  exact sup_endless h2 e1 e2
end
end Go.Proofs.Ytijdglogadnbcaa
