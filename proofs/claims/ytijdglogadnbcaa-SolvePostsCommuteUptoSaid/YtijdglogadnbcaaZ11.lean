/- Package rat: Mul, Div. -/
import Derived.Test.YtijdglogadnbcaaZ07
set_option linter.unusedVariables false
set_option linter.unusedSimpArgs false
set_option maxRecDepth 100000
set_option maxHeartbeats 40000000
namespace Go.Proofs.Ytijdglogadnbcaa
open Go.RowKit Nt
/-- A number that is not too long. -/
def Sz (q : Rat) (k : Nat) : Prop := (toL q.num.natAbs).length ≤ k ∧ (toL q.den).length ≤ k
theorem toL_mul_len {x y k l : Nat} (hx : (toL x).length ≤ k) (hy : (toL y).length ≤ l) : (toL (x * y)).length ≤ k + l := by
 refine toL_len ?_
 have h1 := vl_lt (toL_lm x)
 have h2 := vl_lt (toL_lm y)
 rw [vl_toL] at h1 h2
 have h3 : 4294967296 ^ (toL x).length ≤ 4294967296 ^ k := Nat.pow_le_pow_right (by omega) hx
 have h4 : 4294967296 ^ (toL y).length ≤ 4294967296 ^ l := Nat.pow_le_pow_right (by omega) hy
 rw [Nat.pow_add]
 exact Nat.mul_lt_mul'' (by omega) (by omega)
theorem undrew {W w2 : World} (h : Below W.drew.heap.size W.drew w2) : Below W.heap.size W w2 := ⟨h.os, h.tape, h.output, h.size, h.block⟩
theorem NB.set3 {w : World} {g k : Nat} {s : Bool} {a b : Option Addr} {n c m d : Nat} (h : NB w g s a n c b m d) (hne : g ≠ k) (x y z : Value) : NB (((w.setCell ⟨k, 0, none⟩ x).setCell ⟨k, 1, none⟩ y).setCell ⟨k, 2, none⟩ z) g s a n c b m d :=
 (set3_other w k x y z g hne).trans h
theorem NB.cells {w : World} {g : Nat} {s : Bool} {a b : Option Addr} {n c m d : Nat} (h : NB w g s a n c b m d) : w.cell? ⟨g, 0, none⟩ = some (.bool s) ∧ w.cell? ⟨g, 1, none⟩ = some (.slice a n c) ∧ w.cell? ⟨g, 2, none⟩ = some (.slice b m d) :=
 ⟨h.reads.1, h.reads.2.1, h.reads.2.2.1⟩
theorem six {w : World} {g k : Nat} {s t : Bool} {a b a' b' : Option Addr} {n c m d n' c' m' d' : Nat} (h : NB w g s a n c b m d) (h' : NB w k t a' n' c' b' m' d') :
  w.cell? ⟨g, 0, none⟩ = some (.bool s) ∧ w.cell? ⟨g, 1, none⟩ = some (.slice a n c) ∧ w.cell? ⟨g, 2, none⟩ = some (.slice b m d) ∧ w.cell? ⟨k, 0, none⟩ = some (.bool t) ∧ w.cell? ⟨k, 1, none⟩ = some (.slice a' n' c') ∧ w.cell? ⟨k, 2, none⟩ = some (.slice b' m' d') :=
 ⟨h.cells.1, h.cells.2.1, h.cells.2.2, h'.cells.1, h'.cells.2.1, h'.cells.2.2⟩
/-- Three new blocks: two operands and a result that is still 0. -/
theorem three_new (w : World) (x y z : Obj) : ∀ W, W = ((w.alloc x).alloc y).alloc z → W.heap[w.heap.size]? = some x ∧ W.heap[w.heap.size + 1]? = some y ∧ W.heap[w.heap.size + 2]? = some z ∧ Below w.heap.size w W ∧ W.heap.size = w.heap.size + 3 := by
 rintro W rfl
 have s1 : (w.alloc x).heap.size = w.heap.size + 1 := by simp
 have s2 : ((w.alloc x).alloc y).heap.size = w.heap.size + 2 := by simp
 refine ⟨?_, ?_, ?_, ?_, by simp⟩
 ·rw [Below.heap_alloc _ _ _ (by rw [s2]; omega), Below.heap_alloc _ _ _ (by rw [s1]; omega)]; exact heap_alloc_new w x
 ·rw [Below.heap_alloc _ _ _ (by rw [s2]; omega), ← s1]; exact heap_alloc_new _ y
 ·rw [← s2]; exact heap_alloc_new _ z
 ·exact ((below_new w x).alloc (by rw [s1]; omega) _).alloc (by rw [s2]; omega) _
theorem rmul_nz {w : World} {p q : Rat} {s t : Bool} {a b a' b' : Option Addr} {n c m d n' c' m' d' : Nat} (hp : RAt w p s a n c b m d) (hq : RAt w q t a' n' c' b' m' d') (sp : Sz p 268435456) (sq : Sz q 268435456) (p0 : p ≠ 0) (q0 : q ≠ 0) :
  Calls Try.prog 66 #[.agg #[.bool s, .slice a n c, .slice b m d], .agg #[.bool t, .slice a' n' c', .slice b' m' d']] w (RPost w (p * q)) := by
 have hn : n ≠ 0 := fun e => p0 (hp.zero.1 e)
 have hn' : n' ≠ 0 := fun e => q0 (hq.zero.1 e)
 have P := Lib.hid hp; have Q := Lib.hid hq
 have s1 := sp.1; have s2 := sp.2; have s3 := sq.1; have s4 := sq.2
 rw [hp.num.len] at s1; rw [hp.den.len] at s2; rw [hq.num.len] at s3; rw [hq.den.len] at s4
 have nz : ((n : Int) == 0) = false := by simp; exact hn
 have nz' : ((n' : Int) == 0) = false := by simp; exact hn'
 have T3 := Lib.hid (three_new w (.cells #[.bool s, .slice a n c, .slice b m d] 26) (.cells #[.bool t, .slice a' n' c', .slice b' m' d'] 26) (.cells #[.bool false, .slice none 0 0, .slice none 0 0] 26) _ rfl)
 have C1 := Lib.hid (fun (W : World) (hB : Below w.heap.size w W) => mul_any (hp.num.below hB) (hq.num.below hB) (by omega) (by omega))
 have C2 := Lib.hid (fun (W : World) (hB : Below w.heap.size w W) => mul_any (hp.den.below hB) (hq.den.below hB) (by omega) (by omega))
 have MF := Lib.hid (mul_frac p q)
 have dz : Hid (p.den * q.den ≠ 0) := Nat.mul_ne_zero p.den_nz q.den_nz
 have VN : Hid (vl (toL p.num.natAbs) * vl (toL q.num.natAbs) = p.num.natAbs * q.num.natAbs ∧ vl (toL p.den) * vl (toL q.den) = p.den * q.den) := ⟨by rw [vl_toL, vl_toL], by rw [vl_toL, vl_toL]⟩
 have SN : Hid ((toL (p.num.natAbs * q.num.natAbs)).length ≤ 1099511627775 ∧ (toL (p.den * q.den)).length ≤ 1099511627775) :=
  ⟨Nat.le_trans (toL_mul_len sp.1 sq.1) (by omega), Nat.le_trans (toL_mul_len sp.2 sq.2) (by omega)⟩
 have SG : Hid ((s != t) = (decide (p.num < 0) != decide (q.num < 0))) := by show _ = _; rw [← hp.sg, ← hq.sg]
 clear hp hq sp sq p0 q0 hn hn'
 go_enter Try.func66, Try.ntmps66
 go_wp2_with fail
 generalize ((w.alloc (.cells #[.bool s, .slice a n c, .slice b m d] 26)).alloc (.cells #[.bool t, .slice a' n' c', .slice b' m' d'] 26)).alloc (.cells #[.bool false, .slice none 0 0, .slice none 0 0] 26) = W0 at *
 obtain ⟨t1, t2, t3, t4, t5⟩ := T3.out
 have X1 : Hid (NB W0 w.heap.size s a n c b m d) := t1
 have X2 : Hid (NB W0 (w.heap.size + 1) t a' n' c' b' m' d') := t2
 have X3 : Hid (NB W0 (w.heap.size + 2) false none 0 0 none 0 0) := t3
 have B0 := Lib.hid t4; have S0 := Lib.hid t5
 clear t1 t2 t3 t4 t5
 obtain ⟨u0, u1, u2, _⟩ := X1.out.reads
 obtain ⟨v0, v1, v2, _⟩ := X2.out.reads
 go_region_held3 (fun W => W.cell? ⟨w.heap.size, 0, none⟩ = some (.bool s) ∧ W.cell? ⟨w.heap.size, 1, none⟩ = some (.slice a n c) ∧ W.cell? ⟨w.heap.size, 2, none⟩ = some (.slice b m d) ∧ W.cell? ⟨w.heap.size + 1, 0, none⟩ = some (.bool t) ∧ W.cell? ⟨w.heap.size + 1, 1, none⟩ = some (.slice a' n' c') ∧ W.cell? ⟨w.heap.size + 1, 2, none⟩ = some (.slice b' m' d'))
  (first
   | exact ⟨u0, u1, u2, v0, v1, v2⟩
   | exact ⟨y0, y1, y2, y3, y4, y5⟩
   | exact ⟨x0, x1, x2, x3, x4, x5⟩
   | exact ⟨r0, r1, r2, r3, r4, r5⟩
   | exact six (K1.out.set3 (by omega) _ _ _) (K2.out.set3 (by omega) _ _ _)
   | go_keep)
  (first
   | (go_at_call 69; ((with_reducible refine (C1.out W0.drew B0.out.drew).mono ?_)); rintro e w2 ⟨a2, n2, c2, rfl, L2, B2⟩; have B2 := undrew B2; rw [VN.out.1] at L2; have N1 : NB w2 w.heap.size s a n c b m d := X1.out.later B2 X1.out.lt; have N2 : NB w2 (w.heap.size + 1) t a' n' c' b' m' d' := X2.out.later B2 X2.out.lt; have N3 : NB w2 (w.heap.size + 2) false none 0 0 none 0 0 := X3.out.later B2 X3.out.lt; obtain ⟨y0, y1, y2, _⟩ := N1.reads; obtain ⟨y3, y4, y5, _⟩ := N2.reads; have N1 := Lib.hid N1; have N2 := Lib.hid N2; have N3 := Lib.hid N3; have L2 := Lib.hid L2; have B02 := Lib.hid (Below.over B0.out B0.out.size B2); clear B2)
   | (go_at_call 69; ((with_reducible refine (C2.out w2 B02.out).mono ?_)); go_loud (rintro e w3 ⟨a3, n3, c3, rfl, L3, B3⟩; rw [VN.out.2] at L3; have M1 : NB w3 w.heap.size s a n c b m d := N1.out.later B3 N1.out.lt; have M2 : NB w3 (w.heap.size + 1) t a' n' c' b' m' d' := N2.out.later B3 N2.out.lt; have M3 : NB w3 (w.heap.size + 2) false none 0 0 none 0 0 := N3.out.later B3 N3.out.lt; obtain ⟨x0, x1, x2, _⟩ := M1.reads; obtain ⟨x3, x4, x5, _⟩ := M2.reads; have M1 := Lib.hid M1; have M2 := Lib.hid M2; have M3 := Lib.hid M3; have L32 := Lib.hid (L2.out.below B3); have L3 := Lib.hid L3; have B03 := Lib.hid (Below.over B02.out B02.out.size B3); clear B3))
   | (go_at_call 68; go_loud (refine (reduced_any (neg := s != t) L32.out L3.out dz.out (by rw [← L32.out.len]; exact SN.out.1) (by rw [← L3.out.len]; exact SN.out.2)).mono ?_; rintro e w4 ⟨s4, a4, n4, c4, b4, m4, d4, rfl, L4, B4⟩; rw [SG.out, ← MF.out] at L4; have K1 : NB w4 w.heap.size s a n c b m d := M1.out.later B4 M1.out.lt; have K2 : NB w4 (w.heap.size + 1) t a' n' c' b' m' d' := M2.out.later B4 M2.out.lt; have K3 : NB w4 (w.heap.size + 2) false none 0 0 none 0 0 := M3.out.later B4 M3.out.lt; obtain ⟨r0, r1, r2, _⟩ := K1.reads; obtain ⟨r3, r4, r5, _⟩ := K2.reads; obtain ⟨z0, z1, z2, f⟩ := K3.reads; have f0 := f 0; have f1 := f 1; have f2 := f 2; have lt4 := K3.lt; clear f; have K1 := Lib.hid K1; have K2 := Lib.hid K2; have K3 := Lib.hid K3; have L4 := Lib.hid L4; have B04 := Lib.hid (Below.over B03.out B03.out.size B4); clear B4)))
 go_wp2_with fail
 exact bodyPost_ret (v := .agg #[.bool s4, .slice a4 n4 c4, .slice b4 m4 d4]) (by simp [results, Try.results66, go_sem, z0, z1, z2]) rfl ⟨s4, a4, n4, c4, b4, m4, d4, rfl, ⟨L4.out.sg, L4.out.num.beside K3.out (set3_other _ _ _ _ _), L4.out.den.beside K3.out (set3_other _ _ _ _ _)⟩, below_set3 B04.out _ (by omega) _ _ _⟩
theorem rdiv_nz {w : World} {p q : Rat} {s t : Bool} {a b a' b' : Option Addr} {n c m d n' c' m' d' : Nat} (hp : RAt w p s a n c b m d) (hq : RAt w q t a' n' c' b' m' d') (sp : Sz p 268435456) (sq : Sz q 268435456) (p0 : p ≠ 0) (q0 : q ≠ 0) :
  Calls Try.prog 52 #[.agg #[.bool s, .slice a n c, .slice b m d], .agg #[.bool t, .slice a' n' c', .slice b' m' d']] w (RPost w (p / q)) := by
 have hn : n ≠ 0 := fun e => p0 (hp.zero.1 e)
 have hn' : n' ≠ 0 := fun e => q0 (hq.zero.1 e)
 have P := Lib.hid hp; have Q := Lib.hid hq
 have s1 := sp.1; have s2 := sp.2; have s3 := sq.1; have s4 := sq.2
 rw [hp.num.len] at s1; rw [hp.den.len] at s2; rw [hq.num.len] at s3; rw [hq.den.len] at s4
 have nz : ((n : Int) == 0) = false := by simp; exact hn
 have nz' : ((n' : Int) == 0) = false := by simp; exact hn'
 have T3 := Lib.hid (three_new w (.cells #[.bool s, .slice a n c, .slice b m d] 26) (.cells #[.bool t, .slice a' n' c', .slice b' m' d'] 26) (.cells #[.bool false, .slice none 0 0, .slice none 0 0] 26) _ rfl)
 have C1 := Lib.hid (fun (W : World) (hB : Below w.heap.size w W) => mul_any (hp.num.below hB) (hq.den.below hB) (by omega) (by omega))
 have C2 := Lib.hid (fun (W : World) (hB : Below w.heap.size w W) => mul_any (hp.den.below hB) (hq.num.below hB) (by omega) (by omega))
 have MF := Lib.hid (div_frac (p := p) q0)
 have dz : Hid (p.den * q.num.natAbs ≠ 0) := Nat.mul_ne_zero p.den_nz (fun e => q0 (Rat.num_eq_zero.1 (Int.natAbs_eq_zero.1 e)))
 have VN : Hid (vl (toL p.num.natAbs) * vl (toL q.den) = p.num.natAbs * q.den ∧ vl (toL p.den) * vl (toL q.num.natAbs) = p.den * q.num.natAbs) := ⟨by rw [vl_toL, vl_toL], by rw [vl_toL, vl_toL]⟩
 have SN : Hid ((toL (p.num.natAbs * q.den)).length ≤ 1099511627775 ∧ (toL (p.den * q.num.natAbs)).length ≤ 1099511627775) :=
  ⟨Nat.le_trans (toL_mul_len sp.1 sq.2) (by omega), Nat.le_trans (toL_mul_len sp.2 sq.1) (by omega)⟩
 have SG : Hid ((s != t) = (decide (p.num < 0) != decide (q.num < 0))) := by show _ = _; rw [← hp.sg, ← hq.sg]
 clear hp hq sp sq p0 q0 hn hn'
 go_enter Try.func52, Try.ntmps52
 go_wp2_with fail
 generalize ((w.alloc (.cells #[.bool s, .slice a n c, .slice b m d] 26)).alloc (.cells #[.bool t, .slice a' n' c', .slice b' m' d'] 26)).alloc (.cells #[.bool false, .slice none 0 0, .slice none 0 0] 26) = W0 at *
 obtain ⟨t1, t2, t3, t4, t5⟩ := T3.out
 have X1 : Hid (NB W0 w.heap.size s a n c b m d) := t1
 have X2 : Hid (NB W0 (w.heap.size + 1) t a' n' c' b' m' d') := t2
 have X3 : Hid (NB W0 (w.heap.size + 2) false none 0 0 none 0 0) := t3
 have B0 := Lib.hid t4; have S0 := Lib.hid t5
 clear t1 t2 t3 t4 t5
 obtain ⟨u0, u1, u2, _⟩ := X1.out.reads
 obtain ⟨v0, v1, v2, _⟩ := X2.out.reads
 go_region_held3 (fun W => W.cell? ⟨w.heap.size, 0, none⟩ = some (.bool s) ∧ W.cell? ⟨w.heap.size, 1, none⟩ = some (.slice a n c) ∧ W.cell? ⟨w.heap.size, 2, none⟩ = some (.slice b m d) ∧ W.cell? ⟨w.heap.size + 1, 0, none⟩ = some (.bool t) ∧ W.cell? ⟨w.heap.size + 1, 1, none⟩ = some (.slice a' n' c') ∧ W.cell? ⟨w.heap.size + 1, 2, none⟩ = some (.slice b' m' d'))
  (first
   | exact ⟨u0, u1, u2, v0, v1, v2⟩
   | exact ⟨y0, y1, y2, y3, y4, y5⟩
   | exact ⟨x0, x1, x2, x3, x4, x5⟩
   | exact ⟨r0, r1, r2, r3, r4, r5⟩
   | exact six (K1.out.set3 (by omega) _ _ _) (K2.out.set3 (by omega) _ _ _)
   | go_keep)
  (first
   | (go_at_call 69; ((with_reducible refine (C1.out W0.drew B0.out.drew).mono ?_)); rintro e w2 ⟨a2, n2, c2, rfl, L2, B2⟩; have B2 := undrew B2; rw [VN.out.1] at L2; have N1 : NB w2 w.heap.size s a n c b m d := X1.out.later B2 X1.out.lt; have N2 : NB w2 (w.heap.size + 1) t a' n' c' b' m' d' := X2.out.later B2 X2.out.lt; have N3 : NB w2 (w.heap.size + 2) false none 0 0 none 0 0 := X3.out.later B2 X3.out.lt; obtain ⟨y0, y1, y2, _⟩ := N1.reads; obtain ⟨y3, y4, y5, _⟩ := N2.reads; have N1 := Lib.hid N1; have N2 := Lib.hid N2; have N3 := Lib.hid N3; have L2 := Lib.hid L2; have B02 := Lib.hid (Below.over B0.out B0.out.size B2); clear B2)
   | (go_at_call 69; ((with_reducible refine (C2.out w2 B02.out).mono ?_)); go_loud (rintro e w3 ⟨a3, n3, c3, rfl, L3, B3⟩; rw [VN.out.2] at L3; have M1 : NB w3 w.heap.size s a n c b m d := N1.out.later B3 N1.out.lt; have M2 : NB w3 (w.heap.size + 1) t a' n' c' b' m' d' := N2.out.later B3 N2.out.lt; have M3 : NB w3 (w.heap.size + 2) false none 0 0 none 0 0 := N3.out.later B3 N3.out.lt; obtain ⟨x0, x1, x2, _⟩ := M1.reads; obtain ⟨x3, x4, x5, _⟩ := M2.reads; have M1 := Lib.hid M1; have M2 := Lib.hid M2; have M3 := Lib.hid M3; have L32 := Lib.hid (L2.out.below B3); have L3 := Lib.hid L3; have B03 := Lib.hid (Below.over B02.out B02.out.size B3); clear B3))
   | (go_at_call 68; go_loud (refine (reduced_any (neg := s != t) L32.out L3.out dz.out (by rw [← L32.out.len]; exact SN.out.1) (by rw [← L3.out.len]; exact SN.out.2)).mono ?_; rintro e w4 ⟨s4, a4, n4, c4, b4, m4, d4, rfl, L4, B4⟩; rw [SG.out, ← MF.out] at L4; have K1 : NB w4 w.heap.size s a n c b m d := M1.out.later B4 M1.out.lt; have K2 : NB w4 (w.heap.size + 1) t a' n' c' b' m' d' := M2.out.later B4 M2.out.lt; have K3 : NB w4 (w.heap.size + 2) false none 0 0 none 0 0 := M3.out.later B4 M3.out.lt; obtain ⟨r0, r1, r2, _⟩ := K1.reads; obtain ⟨r3, r4, r5, _⟩ := K2.reads; obtain ⟨z0, z1, z2, f⟩ := K3.reads; have f0 := f 0; have f1 := f 1; have f2 := f 2; have lt4 := K3.lt; clear f; have K1 := Lib.hid K1; have K2 := Lib.hid K2; have K3 := Lib.hid K3; have L4 := Lib.hid L4; have B04 := Lib.hid (Below.over B03.out B03.out.size B4); clear B4)))
 go_wp2_with fail
 exact bodyPost_ret (v := .agg #[.bool s4, .slice a4 n4 c4, .slice b4 m4 d4]) (by simp [results, Try.results52, go_sem, z0, z1, z2]) rfl ⟨s4, a4, n4, c4, b4, m4, d4, rfl, ⟨L4.out.sg, L4.out.num.beside K3.out (set3_other _ _ _ _ _), L4.out.den.beside K3.out (set3_other _ _ _ _ _)⟩, below_set3 B04.out _ (by omega) _ _ _⟩
theorem rmul_zero {w : World} {p q : Rat} {s t : Bool} {a b a' b' : Option Addr} {n c m d n' c' m' d' : Nat} (hp : RAt w p s a n c b m d) (hq : RAt w q t a' n' c' b' m' d') (h0 : p = 0 ∨ q = 0) :
  Calls Try.prog 66 #[.agg #[.bool s, .slice a n c, .slice b m d], .agg #[.bool t, .slice a' n' c', .slice b' m' d']] w (RPost w (p * q)) := by
 have E : Hid (p * q = 0) := by
  show _ = _
  rcases h0 with e | e
  ·rw [e, Rat.zero_mul]
  ·rw [e, Rat.mul_zero]
 have hz := hp.zero; have hz' := hq.zero
 have T3 := Lib.hid (three_new w (.cells #[.bool s, .slice a n c, .slice b m d] 26) (.cells #[.bool t, .slice a' n' c', .slice b' m' d'] 26) (.cells #[.bool false, .slice none 0 0, .slice none 0 0] 26) _ rfl)
 clear hp hq
 rcases Classical.em (n = 0) with hn | hn
 all_goals
  first
   | (have nz : ((n : Int) == 0) = true := by simp; exact hn)
   | (have nz : ((n : Int) == 0) = false := by simp; exact hn
      have nz' : ((n' : Int) == 0) = true := by simp; exact hz'.2 (h0.resolve_left fun e => hn (hz.2 e)))
  clear hz hz' h0 hn
  go_enter Try.func66, Try.ntmps66
  go_wp2_with fail
  generalize ((w.alloc (.cells #[.bool s, .slice a n c, .slice b m d] 26)).alloc (.cells #[.bool t, .slice a' n' c', .slice b' m' d'] 26)).alloc (.cells #[.bool false, .slice none 0 0, .slice none 0 0] 26) = W0 at *
  obtain ⟨t1, t2, t3, t4, t5⟩ := T3.out
  have X3 : Hid (NB W0 (w.heap.size + 2) false none 0 0 none 0 0) := t3
  have B0 := Lib.hid t4
  clear t1 t2 t3 t4 t5
  refine (one_any _).mono ?_
  rintro e w3 ⟨a3, n3, c3, rfl, L3, B3⟩
  have N3 : NB w3 (w.heap.size + 2) false none 0 0 none 0 0 := X3.out.later B3 X3.out.lt
  obtain ⟨z0, z1, z2, f⟩ := N3.reads
  have f0 := f 0; have f1 := f 1; have f2 := f 2
  have lt3 := N3.lt
  have N3 := Lib.hid N3; have L3 := Lib.hid L3
  have B03 := Lib.hid (Below.over B0.out B0.out.size B3)
  clear f B3
  go_wp2_with fail
  exact bodyPost_ret (v := .agg #[.bool false, .slice none 0 0, .slice a3 n3 c3]) (by simp [results, Try.results66, go_sem, z0, z1, z2]) rfl ⟨false, none, 0, 0, a3, n3, c3, rfl, ⟨by rw [E.out]; rfl, by rw [E.out]; show LAt _ (toL 0) _ _ _; rw [toL_zero]; exact lat_nil _ _ (by omega), by rw [E.out]; exact L3.out.beside N3.out (set3_other _ _ _ _ _)⟩, below_set3 B03.out _ (by omega) _ _ _⟩
theorem rmul_any {w : World} {p q : Rat} {s t : Bool} {a b a' b' : Option Addr} {n c m d n' c' m' d' : Nat} (hp : RAt w p s a n c b m d) (hq : RAt w q t a' n' c' b' m' d') (sp : Sz p 268435456) (sq : Sz q 268435456) :
  Calls Try.prog 66 #[.agg #[.bool s, .slice a n c, .slice b m d], .agg #[.bool t, .slice a' n' c', .slice b' m' d']] w (RPost w (p * q)) := by
 by_cases h : p = 0 ∨ q = 0
 ·exact rmul_zero hp hq h
 ·exact rmul_nz hp hq sp sq (fun e => h (Or.inl e)) (fun e => h (Or.inr e))
theorem rdiv_zero {w : World} {p q : Rat} {s t : Bool} {a b a' b' : Option Addr} {n c m d n' c' m' d' : Nat} (hp : RAt w p s a n c b m d) (h0 : p = 0) :
  Calls Try.prog 52 #[.agg #[.bool s, .slice a n c, .slice b m d], .agg #[.bool t, .slice a' n' c', .slice b' m' d']] w (RPost w (p / q)) := by
 have E : Hid (p / q = p) := by show _ = _; rw [h0, Rat.div_def, Rat.zero_mul]
 have P := Lib.hid hp
 have nz : ((n : Int) == 0) = true := by simp; exact hp.zero.2 h0
 clear hp h0
 go_enter Try.func52, Try.ntmps52
 go_wp2_with fail
 exact bodyPost_ret (v := .agg #[.bool s, .slice a n c, .slice b m d]) (by simp [results, Try.results52, go_sem]) rfl ⟨s, a, n, c, b, m, d, rfl, by rw [E.out]; exact P.out.below (three_new w _ _ _ _ rfl).2.2.2.1, (three_new w _ _ _ _ rfl).2.2.2.1⟩
theorem rdiv_any {w : World} {p q : Rat} {s t : Bool} {a b a' b' : Option Addr} {n c m d n' c' m' d' : Nat} (hp : RAt w p s a n c b m d) (hq : RAt w q t a' n' c' b' m' d') (sp : Sz p 268435456) (sq : Sz q 268435456) (q0 : q ≠ 0) :
  Calls Try.prog 52 #[.agg #[.bool s, .slice a n c, .slice b m d], .agg #[.bool t, .slice a' n' c', .slice b' m' d']] w (RPost w (p / q)) := by
 by_cases h : p = 0
 ·exact rdiv_zero hp h
 ·exact rdiv_nz hp hq sp sq h q0
theorem toL_add_len {x y k : Nat} (hx : (toL x).length ≤ k) (hy : (toL y).length ≤ k) : (toL (x + y)).length ≤ k + 1 := by
 refine toL_len ?_
 have h1 := vl_lt (toL_lm x)
 have h2 := vl_lt (toL_lm y)
 rw [vl_toL] at h1 h2
 have p1 : 4294967296 ^ (toL x).length ≤ 4294967296 ^ k := Nat.pow_le_pow_right (by omega) hx
 have p2 : 4294967296 ^ (toL y).length ≤ 4294967296 ^ k := Nat.pow_le_pow_right (by omega) hy
 rw [Nat.pow_succ]
 generalize 4294967296 ^ k = P at *
 omega
def AdL (w : World) (x y : Nat) (v i : Value) (wr : World) : Prop :=
 ∃ (k : Nat) (a : Option Addr) (n c : Nat), k ≤ 2 ∧ i = .int .i64 (k : Int) ∧ v = .slice a n c ∧ LAt wr (toL (if k = 0 then 0 else if k = 1 then x else x + y)) a n c ∧ n ≤ 1099511627776 ∧ Below w.heap.size w wr
theorem add_any {w : World} {x y g : Nat} {a b : Option Addr} {n c m d : Nat} (hx : LAt w (toL x) a n c) (hy : LAt w (toL y) b m d) (h0 : w.cell? ⟨g, 0, none⟩ = some (.slice a n c)) (h1 : w.cell? ⟨g, 1, none⟩ = some (.slice b m d)) (hn : n ≤ 1099511627775) (hm : m ≤ 1099511627775) :
  Calls Try.prog 85 #[.slice (some ⟨g, 0, none⟩) 2 2] w (NPost w (x + y)) := by
 have X := Lib.hid hx; have Y := Lib.hid hy; have H0 := Lib.hid h0; have H1 := Lib.hid h1
 have E := Lib.hid (vl_toL x); have E2 := Lib.hid (vl_toL y)
 have SX : Hid ((toL x).length ≤ 1099511627775) := by show _ ≤ _; rw [hx.len]; exact hn
 clear hx hy h0 h1
 go_enter Try.func85, Try.ntmps85
 go_wp2_with fail
 go_loopw [3, 8] (fun v i wr => AdL w x y v i wr) (fun _ i _ => 2 - (intOf i).toNat)
 case atStart => exact ⟨0, none, 0, 0, by omega, rfl, rfl, by rw [if_pos rfl, toL_zero]; exact lat_nil _ _ (by omega), by omega, Below.refl _ _⟩
 case round =>
  obtain ⟨k, a1, n1, c1, hk, rfl, rfl, hL, hn1, hB⟩ := hrel
  have L := Lib.hid hL; have BR := Lib.hid hB
  clear hL hB
  rcases Nat.lt_trichotomy k 1 with q | q | q
  ·obtain rfl : k = 0 := by omega
   have p0 := cell_later BR.out (Nat.le_refl _) H0.out
   have L1 : Hid (LAt wr (toL 0) a1 n1 c1) := by have := L.out; rwa [if_pos rfl] at this
   have X1 := Lib.hid (X.out.below BR.out)
   go_wp2_with fail
   refine (plus_any L1.out X1.out hn1 (by omega)).mono ?_
   rintro e w2 ⟨a2, n2, c2, rfl, L2, B2⟩
   rw [vl_toL, E.out, Nat.zero_add] at L2
   have n2b : n2 ≤ 1099511627776 := by have := L2.len; have := SX.out; omega
   have L2 := Lib.hid L2; have B2 := Lib.hid (Below.over BR.out BR.out.size B2)
   go_wp2_with fail
   go_roundw
   case rel => exact ⟨1, a2, n2, c2, by omega, rfl, rfl, by rw [if_neg (by omega), if_pos rfl]; exact L2.out, n2b, B2.out⟩
   case measure => simp [intOf]
  ·subst q
   have p0 := cell_later BR.out (Nat.le_refl _) H1.out
   have L1 : Hid (LAt wr (toL x) a1 n1 c1) := by have := L.out; rwa [if_neg (by omega), if_pos rfl] at this
   have Y1 := Lib.hid (Y.out.below BR.out)
   go_wp2_with fail
   refine (plus_any L1.out Y1.out hn1 (by omega)).mono ?_
   rintro e w2 ⟨a2, n2, c2, rfl, L2, B2⟩
   rw [E.out, E2.out] at L2
   have L2 := Lib.hid L2; have B2 := Lib.hid (Below.over BR.out BR.out.size B2)
   go_wp2_with fail
   go_roundw
   case rel =>
    refine ⟨2, a2, n2, c2, by omega, rfl, rfl, by rw [if_neg (by omega), if_neg (by omega)]; exact L2.out, ?_, B2.out⟩
    rw [← L2.out.len]
    exact Nat.le_trans (toL_add_len SX.out (by rw [Y.out.len]; exact hm)) (by omega)
   case measure => simp [intOf]
  ·obtain rfl : k = 2 := by omega
   have L1 : Hid (LAt wr (toL (x + y)) a1 n1 c1) := by have := L.out; rwa [if_neg (by omega), if_neg (by omega)] at this
   go_wp2_with fail
   go_ret
   exact ⟨a1, n1, c1, rfl, L1.out, BR.out⟩
end Go.Proofs.Ytijdglogadnbcaa
