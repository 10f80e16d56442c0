/- Values of the simplex program: cmp, distance, plain. -/
import Derived.Test.YtijdglogadnbcaaZ13
set_option linter.unusedVariables false
set_option linter.unusedSimpArgs false
set_option maxRecDepth 100000
set_option maxHeartbeats 40000000
namespace Go.Proofs.Ytijdglogadnbcaa
open Go.RowKit Nt
theorem vcmp_any {w : World} {x y : Bl.V} {M S M' S' : Nw} (h1 : RA w x.m M) (h2 : RA w x.s S) (h3 : RA w y.m M') (h4 : RA w y.s S') (s1 : Sz x.m 268435456) (s2 : Sz x.s 268435456) (s3 : Sz y.m 268435456) (s4 : Sz y.s 268435456) :
  Calls Try.prog 63 #[.agg #[.bool M.s, .slice M.a M.n M.c, .slice M.b M.m M.d, .bool S.s, .slice S.a S.n S.c, .slice S.b S.m S.d], .agg #[.bool M'.s, .slice M'.a M'.n M'.c, .slice M'.b M'.m M'.d, .bool S'.s, .slice S'.a S'.n S'.c, .slice S'.b S'.m S'.d]] w fun e w' => e = .returned (.int .i64 (Bl.vcmp x y)) ∧ Below w.heap.size w w' := by
 have B0 : Hid (Below w.heap.size w ((w.alloc (.cells #[.bool M.s, .slice M.a M.n M.c, .slice M.b M.m M.d, .bool S.s, .slice S.a S.n S.c, .slice S.b S.m S.d] 76)).alloc (.cells #[.bool M'.s, .slice M'.a M'.n M'.c, .slice M'.b M'.m M'.d, .bool S'.s, .slice S'.a S'.n S'.c, .slice S'.b S'.m S'.d] 76))) := (below_new _ _).alloc (by simp) _
 have X1 : Hid (VB ((w.alloc (.cells #[.bool M.s, .slice M.a M.n M.c, .slice M.b M.m M.d, .bool S.s, .slice S.a S.n S.c, .slice S.b S.m S.d] 76)).alloc (.cells #[.bool M'.s, .slice M'.a M'.n M'.c, .slice M'.b M'.m M'.d, .bool S'.s, .slice S'.a S'.n S'.c, .slice S'.b S'.m S'.d] 76)) w.heap.size M S) := by
  show VB _ _ _ _
  unfold VB
  rw [Below.heap_alloc _ _ _ (by simp)]; exact heap_alloc_new w _
 have X2 : Hid (VB ((w.alloc (.cells #[.bool M.s, .slice M.a M.n M.c, .slice M.b M.m M.d, .bool S.s, .slice S.a S.n S.c, .slice S.b S.m S.d] 76)).alloc (.cells #[.bool M'.s, .slice M'.a M'.n M'.c, .slice M'.b M'.m M'.d, .bool S'.s, .slice S'.a S'.n S'.c, .slice S'.b S'.m S'.d] 76)) (w.heap.size + 1) M' S') := by
  have := heap_alloc_new (w.alloc (.cells #[.bool M.s, .slice M.a M.n M.c, .slice M.b M.m M.d, .bool S.s, .slice S.a S.n S.c, .slice S.b S.m S.d] 76)) (.cells #[.bool M'.s, .slice M'.a M'.n M'.c, .slice M'.b M'.m M'.d, .bool S'.s, .slice S'.a S'.n S'.c, .slice S'.b S'.m S'.d] 76)
  rwa [show (w.alloc (.cells #[.bool M.s, .slice M.a M.n M.c, .slice M.b M.m M.d, .bool S.s, .slice S.a S.n S.c, .slice S.b S.m S.d] 76)).heap.size = w.heap.size + 1 from by simp] at this
 have P1 := Lib.hid (h1.below B0.out); have P2 := Lib.hid (h2.below B0.out); have P3 := Lib.hid (h3.below B0.out); have P4 := Lib.hid (h4.below B0.out)
 have C1 := Lib.hid (rcmp_any P1.out P3.out s1 s3)
 have Z2 := Lib.hid s2; have Z4 := Lib.hid s4
 have E : Hid (Bl.vcmp x y = if rsgn (x.m - y.m) ≠ 0 then rsgn (x.m - y.m) else rsgn (x.s - y.s)) := rfl
 obtain ⟨z, hz⟩ : ∃ z, rsgn (x.m - y.m) = z := ⟨_, rfl⟩
 rw [hz] at C1 E
 clear h1 h2 h3 h4 s1 s2 s3 s4 hz
 go_enter Try.func63, Try.ntmps63
 go_upto_region 1 with fail
 generalize (w.alloc (.cells #[.bool M.s, .slice M.a M.n M.c, .slice M.b M.m M.d, .bool S.s, .slice S.a S.n S.c, .slice S.b S.m S.d] 76)).alloc (.cells #[.bool M'.s, .slice M'.a M'.n M'.c, .slice M'.b M'.m M'.d, .bool S'.s, .slice S'.a S'.n S'.c, .slice S'.b S'.m S'.d] 76) = W0 at *
 obtain ⟨u0, u1, u2, u3, u4, u5, _⟩ := X1.out.reads
 obtain ⟨v0, v1, v2, v3, v4, v5, _⟩ := X2.out.reads
 go_wp2_with fail
 refine C1.out.mono ?_
 rintro e w2 ⟨rfl, B2⟩
 have K1 := X1.out.later B2 X1.out.lt
 have K2 := X2.out.later B2 X2.out.lt
 have B02 := Lib.hid (Below.over B0.out B0.out.size B2)
 have C2 := Lib.hid (rcmp_any (P2.out.below B2) (P4.out.below B2) Z2.out Z4.out)
 clear u0 u1 u2 u3 u4 u5 v0 v1 v2 v3 v4 v5 B2
 obtain ⟨u0, u1, u2, u3, u4, u5, _⟩ := K1.reads
 obtain ⟨v0, v1, v2, v3, v4, v5, _⟩ := K2.reads
 clear K1 K2
 by_cases z0 : z = 0
 ·have E2 : Hid (Bl.vcmp x y = rsgn (x.s - y.s)) := by show _ = _; rw [E.out, if_neg (by rw [z0]; simp)]
  obtain ⟨t, ht⟩ : ∃ t, rsgn (x.s - y.s) = t := ⟨_, rfl⟩
  rw [ht] at C2 E2
  subst z0
  clear ht E
  go_wp2_with fail
  refine C2.out.mono ?_
  rintro e w3 ⟨rfl, B3⟩
  have B3 := Lib.hid (Below.over B02.out B02.out.size B3)
  go_wp2_with fail
  go_ret
  exact ⟨by rw [E2.out]; rfl, B3.out⟩
 ·have E2 : Hid (Bl.vcmp x y = z) := by show _ = _; rw [E.out, if_pos z0]
  have zb : (z != 0) = true := by simp; exact z0
  clear E z0
  go_wp2_with fail
  go_ret
  exact ⟨by rw [E2.out]; rfl, B02.out⟩
theorem vdist_any {w : World} {x y : Bl.V} {M S M' S' : Nw} {up : Bool} (h1 : RA w x.m M) (h2 : RA w x.s S) (h3 : RA w y.m M') (h4 : RA w y.s S') (s1 : Sz x.m 268435456) (s2 : Sz x.s 268435456) (s3 : Sz y.m 268435456) (s4 : Sz y.s 268435456) :
  Calls Try.prog 72 #[.agg #[.bool M.s, .slice M.a M.n M.c, .slice M.b M.m M.d, .bool S.s, .slice S.a S.n S.c, .slice S.b S.m S.d], .agg #[.bool M'.s, .slice M'.a M'.n M'.c, .slice M'.b M'.m M'.d, .bool S'.s, .slice S'.a S'.n S'.c, .slice S'.b S'.m S'.d], .bool up] w (VPost w (Bl.vdist x y up)) := by
 have T3 := Lib.hid (three_new w (.cells #[.bool M.s, .slice M.a M.n M.c, .slice M.b M.m M.d, .bool S.s, .slice S.a S.n S.c, .slice S.b S.m S.d] 76) (.cells #[.bool M'.s, .slice M'.a M'.n M'.c, .slice M'.b M'.m M'.d, .bool S'.s, .slice S'.a S'.n S'.c, .slice S'.b S'.m S'.d] 76) (.cells #[.bool false, .slice none 0 0, .slice none 0 0, .bool false, .slice none 0 0, .slice none 0 0] 76) _ rfl)
 have P1 := Lib.hid h1; have P2 := Lib.hid h2; have P3 := Lib.hid h3; have P4 := Lib.hid h4
 have Z1 := Lib.hid s1; have Z2 := Lib.hid s2; have Z3 := Lib.hid s3; have Z4 := Lib.hid s4
 clear h1 h2 h3 h4 s1 s2 s3 s4
 go_enter Try.func72, Try.ntmps72
 go_upto_region 1 with fail
 generalize ((w.alloc (.cells #[.bool M.s, .slice M.a M.n M.c, .slice M.b M.m M.d, .bool S.s, .slice S.a S.n S.c, .slice S.b S.m S.d] 76)).alloc (.cells #[.bool M'.s, .slice M'.a M'.n M'.c, .slice M'.b M'.m M'.d, .bool S'.s, .slice S'.a S'.n S'.c, .slice S'.b S'.m S'.d] 76)).alloc (.cells #[.bool false, .slice none 0 0, .slice none 0 0, .bool false, .slice none 0 0, .slice none 0 0] 76) = W0 at *
 obtain ⟨t1, t2, t3, t4, t5⟩ := T3.out
 have X1 : Hid (VB W0 w.heap.size M S) := t1
 have X2 : Hid (VB W0 (w.heap.size + 1) M' S') := t2
 have X3 : Hid (VB W0 (w.heap.size + 2) Nw.zero Nw.zero) := t3
 have B0 := Lib.hid t4
 clear t1 t2 t3 t4 t5
 obtain ⟨u0, u1, u2, u3, u4, u5, _⟩ := X1.out.reads
 obtain ⟨v0, v1, v2, v3, v4, v5, _⟩ := X2.out.reads
 cases up with
 | true =>
  have C := Lib.hid (vsub_any (P1.out.below B0.out) (P2.out.below B0.out) (P3.out.below B0.out) (P4.out.below B0.out) Z1.out Z2.out Z3.out Z4.out)
  go_wp2_with fail
  refine C.out.mono ?_
  rintro e w2 ⟨Ma, Sa, rfl, L1, L2, B2⟩
  have K3 := X3.out.later B2 X3.out.lt
  have B02 := Lib.hid (Below.over B0.out B0.out.size B2)
  have L1 := Lib.hid L1; have L2 := Lib.hid L2
  obtain ⟨z0, z1, z2, z3, z4, z5, f⟩ := K3.reads
  have f0 := f 0; have f1 := f 1; have f2 := f 2; have f3 := f 3; have f4 := f 4; have f5 := f 5
  have lt6 := K3.lt
  have K3 := Lib.hid K3
  clear f B2 u0 u1 u2 u3 u4 u5 v0 v1 v2 v3 v4 v5
  go_wp2_with fail
  exact bodyPost_ret (v := .agg #[.bool Ma.s, .slice Ma.a Ma.n Ma.c, .slice Ma.b Ma.m Ma.d, .bool Sa.s, .slice Sa.a Sa.n Sa.c, .slice Sa.b Sa.m Sa.d]) (by simp [results, Try.results72, go_sem, z0, z1, z2, z3, z4, z5]) rfl (VPost.set6 K3.out B02.out (by omega) L1.out L2.out)
 | false =>
  have C := Lib.hid (vsub_any (P3.out.below B0.out) (P4.out.below B0.out) (P1.out.below B0.out) (P2.out.below B0.out) Z3.out Z4.out Z1.out Z2.out)
  go_wp2_with fail
  refine C.out.mono ?_
  rintro e w2 ⟨Ma, Sa, rfl, L1, L2, B2⟩
  have K3 := X3.out.later B2 X3.out.lt
  have B02 := Lib.hid (Below.over B0.out B0.out.size B2)
  have L1 := Lib.hid L1; have L2 := Lib.hid L2
  obtain ⟨z0, z1, z2, z3, z4, z5, f⟩ := K3.reads
  have f0 := f 0; have f1 := f 1; have f2 := f 2; have f3 := f 3; have f4 := f 4; have f5 := f 5
  have lt6 := K3.lt
  have K3 := Lib.hid K3
  clear f B2 u0 u1 u2 u3 u4 u5 v0 v1 v2 v3 v4 v5
  go_wp2_with fail
  exact bodyPost_ret (v := .agg #[.bool Ma.s, .slice Ma.a Ma.n Ma.c, .slice Ma.b Ma.m Ma.d, .bool Sa.s, .slice Sa.a Sa.n Sa.c, .slice Sa.b Sa.m Sa.d]) (by simp [results, Try.results72, go_sem, z0, z1, z2, z3, z4, z5]) rfl (VPost.set6 K3.out B02.out (by omega) L1.out L2.out)
theorem nq3 {w : World} {g : Nat} {M : Nw} (h : NQ w g M) : w.cell? ⟨g, 0, none⟩ = some (.bool M.s) ∧ w.cell? ⟨g, 1, none⟩ = some (.slice M.a M.n M.c) ∧ w.cell? ⟨g, 2, none⟩ = some (.slice M.b M.m M.d) :=
 ⟨h.reads.1, h.reads.2.1, h.reads.2.2.1⟩
theorem vplain_any {w : World} {q : Rat} {M : Nw} (h1 : RA w q M) : Calls Try.prog 44 #[.agg #[.bool M.s, .slice M.a M.n M.c, .slice M.b M.m M.d]] w (VPost w ⟨q, 0⟩) := by
 have B0 : Hid (Below w.heap.size w ((w.alloc (.cells #[.bool M.s, .slice M.a M.n M.c, .slice M.b M.m M.d] 26)).alloc (.cells #[.bool false, .slice none 0 0, .slice none 0 0, .bool false, .slice none 0 0, .slice none 0 0] 76))) := (below_new _ _).alloc (by simp) _
 have X1 : Hid (NQ ((w.alloc (.cells #[.bool M.s, .slice M.a M.n M.c, .slice M.b M.m M.d] 26)).alloc (.cells #[.bool false, .slice none 0 0, .slice none 0 0, .bool false, .slice none 0 0, .slice none 0 0] 76)) w.heap.size M) := by
  show NQ _ _ _
  unfold NQ
  rw [Below.heap_alloc _ _ _ (by simp)]; exact heap_alloc_new w _
 have X3 : Hid (VB ((w.alloc (.cells #[.bool M.s, .slice M.a M.n M.c, .slice M.b M.m M.d] 26)).alloc (.cells #[.bool false, .slice none 0 0, .slice none 0 0, .bool false, .slice none 0 0, .slice none 0 0] 76)) (w.heap.size + 1) Nw.zero Nw.zero) := by
  have := heap_alloc_new (w.alloc (.cells #[.bool M.s, .slice M.a M.n M.c, .slice M.b M.m M.d] 26)) (.cells #[.bool false, .slice none 0 0, .slice none 0 0, .bool false, .slice none 0 0, .slice none 0 0] 76)
  rwa [show (w.alloc (.cells #[.bool M.s, .slice M.a M.n M.c, .slice M.b M.m M.d] 26)).heap.size = w.heap.size + 1 from by simp] at this
 have P1 := Lib.hid (h1.below B0.out)
 clear h1
 go_enter Try.func44, Try.ntmps44
 go_upto_region 1 with fail
 generalize (w.alloc (.cells #[.bool M.s, .slice M.a M.n M.c, .slice M.b M.m M.d] 26)).alloc (.cells #[.bool false, .slice none 0 0, .slice none 0 0, .bool false, .slice none 0 0, .slice none 0 0] 76) = W0 at *
 obtain ⟨u0, u1, u2, _⟩ := X1.out.reads
 have N1 := Lib.hid (rint_any 0 (by omega) (by omega) W0.drew)
 go_region_held3 (fun W => W.cell? ⟨w.heap.size, 0, none⟩ = some (.bool M.s) ∧ W.cell? ⟨w.heap.size, 1, none⟩ = some (.slice M.a M.n M.c) ∧ W.cell? ⟨w.heap.size, 2, none⟩ = some (.slice M.b M.m M.d))
  (first
   | with_reducible exact ⟨u0, u1, u2⟩
   | with_reducible exact ⟨y0, y1, y2⟩
   | exact nq3 (H1.out.k6 (by omega) _ _ _ _ _ _)
   | go_keep)
  ((go_at_call 19; ((with_reducible refine N1.out.mono ?_)); go_loud (rintro e w6 ⟨s6, a6, n6, c6, b6, m6, d6, rfl, L6, B6⟩; have B6 := undrew B6; have K1 : NQ w6 w.heap.size M := X1.out.later B6 X1.out.lt; have K3 : VB w6 (w.heap.size + 1) Nw.zero Nw.zero := X3.out.later B6 X3.out.lt; obtain ⟨y0, y1, y2, _⟩ := K1.reads; obtain ⟨z0, z1, z2, z3, z4, z5, f⟩ := K3.reads; have f0 := f 0; have f1 := f 1; have f2 := f 2; have f3 := f 3; have f4 := f 4; have f5 := f 5; have lt6 := K3.lt; clear f; have K3 := Lib.hid K3; have L2 := Lib.hid (P1.out.below B6); have L6 := Lib.hid L6; have B06 := Lib.hid (Below.over B0.out B0.out.size B6); have H1 := Lib.hid K1; clear B6)))
 go_wp2_with fail
 exact bodyPost_ret (v := .agg #[.bool M.s, .slice M.a M.n M.c, .slice M.b M.m M.d, .bool s6, .slice a6 n6 c6, .slice b6 m6 d6]) (by simp [results, Try.results44, go_sem, z0, z1, z2, z3, z4, z5]) rfl (VPost.set6 (M := M) (S := ⟨s6, a6, n6, c6, b6, m6, d6⟩) K3.out B06.out (by omega) L2.out L6.out)
end Go.Proofs.Ytijdglogadnbcaa
namespace Go.Proofs.Ytijdglogadnbcaa
open Go.RowKit Nt Bl
/-- Where the parts of a problem lie. -/
structure Lay where
 p : Nat
 low : Nat
 high : Nat
 now : Nat
 bas : Nat
 tab : Nat
 freB : Nat
 frea : Option Addr
 basc : Nat
 frec : Nat
 tabc : Nat
 line : Nat → Nat
 linea : Nat → Option Addr
structure PAt (n0 : Nat) (w : World) (L : Lay) (P : Pb) : Prop where
 hd : w.heap[L.p]? = some (.cells #[.int .i64 (P.n : Int), .slice (some ⟨L.low, 0, none⟩) (P.n + P.m) (P.n + P.m), .slice (some ⟨L.high, 0, none⟩) (P.n + P.m) (P.n + P.m), .slice (some ⟨L.now, 0, none⟩) (P.n + P.m) (P.n + P.m), .slice (some ⟨L.bas, 0, none⟩) P.m L.basc, .slice L.frea P.n L.frec, .slice (some ⟨L.tab, 0, none⟩) P.m L.tabc] 98 (0, 0))
 lo : BndR 101 w L.low (P.n + P.m) P.low
 hi : BndR 101 w L.high (P.n + P.m) P.high
 no : NowR 76 w L.now (P.n + P.m) P.now
 ba : IntR w L.bas P.m P.basic
 fr : 0 < P.n → L.frea = some ⟨L.freB, 0, none⟩ ∧ IntR w L.freB P.n P.free
 tb : Blk w L.tab 59
 ta : ∀ i, i < P.m → w.cell? ⟨L.tab, i, none⟩ = some (.slice (L.linea i) P.n P.n)
 li : 0 < P.n → ∀ i, i < P.m → L.linea i = some ⟨L.line i, 0, none⟩ ∧ LineR w (L.line i) P.n (P.T i)
 inj : ∀ i j, i < P.m → j < P.m → i ≠ j → L.line i ≠ L.line j
 bf : L.bas ≠ L.freB
 ge : n0 ≤ L.now ∧ n0 ≤ L.bas ∧ n0 ≤ L.freB ∧ ∀ i, i < P.m → n0 ≤ L.line i
 cp : P.m ≤ L.basc ∧ L.basc ≤ 9223372036854775807 ∧ P.n ≤ L.frec ∧ L.frec ≤ 9223372036854775807 ∧ P.m ≤ L.tabc ∧ L.tabc ≤ 9223372036854775807
 nm : P.n ≤ 64 ∧ P.m ≤ 64 ∧ 0 < P.m
theorem PAt.pb {n0 : Nat} {w : World} {L : Lay} {P : Pb} (h : PAt n0 w L P) : Blk w L.p 98 := ⟨_, h.hd⟩
theorem PAt.head {n0 : Nat} {w : World} {L : Lay} {P : Pb} (h : PAt n0 w L P) :
  w.cell? ⟨L.p, 0, none⟩ = some (.int .i64 (P.n : Int)) ∧ w.cell? ⟨L.p, 1, none⟩ = some (.slice (some ⟨L.low, 0, none⟩) (P.n + P.m) (P.n + P.m)) ∧ w.cell? ⟨L.p, 2, none⟩ = some (.slice (some ⟨L.high, 0, none⟩) (P.n + P.m) (P.n + P.m)) ∧
   w.cell? ⟨L.p, 3, none⟩ = some (.slice (some ⟨L.now, 0, none⟩) (P.n + P.m) (P.n + P.m)) ∧ w.cell? ⟨L.p, 4, none⟩ = some (.slice (some ⟨L.bas, 0, none⟩) P.m L.basc) ∧ w.cell? ⟨L.p, 5, none⟩ = some (.slice L.frea P.n L.frec) ∧ w.cell? ⟨L.p, 6, none⟩ = some (.slice (some ⟨L.tab, 0, none⟩) P.m L.tabc) := by
 refine ⟨?_, ?_, ?_, ?_, ?_, ?_, ?_⟩
 ·rw [cell_of_row w L.p 0 _ _ _ h.hd]; rfl
 ·rw [cell_of_row w L.p 1 _ _ _ h.hd]; rfl
 ·rw [cell_of_row w L.p 2 _ _ _ h.hd]; rfl
 ·rw [cell_of_row w L.p 3 _ _ _ h.hd]; rfl
 ·rw [cell_of_row w L.p 4 _ _ _ h.hd]; rfl
 ·rw [cell_of_row w L.p 5 _ _ _ h.hd]; rfl
 ·rw [cell_of_row w L.p 6 _ _ _ h.hd]; rfl
theorem PAt.below {n0 : Nat} {w w' : World} {L : Lay} {P : Pb} (h : PAt n0 w L P) (hb : Below w.heap.size w w') : PAt n0 w' L P := by
 have hl := Limb.of_below hb
 have B : ∀ {g ty : Nat}, Blk w g ty → w'.heap[g]? = w.heap[g]? := fun q => hb.block _ q.lt
 exact ⟨(B h.pb).trans h.hd, h.lo.keep (B h.lo.blk) hl, h.hi.keep (B h.hi.blk) hl, h.no.keep (B h.no.blk) hl, h.ba.keep (B h.ba.blk),
  fun q => ⟨(h.fr q).1, (h.fr q).2.keep (B (h.fr q).2.blk)⟩, h.tb.keep (B h.tb), fun i hi => (cells_same (B h.tb) i).trans (h.ta i hi),
  fun q i hi => ⟨(h.li q i hi).1, (h.li q i hi).2.keep (B (h.li q i hi).2.blk) hl⟩, h.inj, h.bf, h.ge, h.cp, h.nm⟩
theorem PAt.drew {n0 : Nat} {w : World} {L : Lay} {P : Pb} (h : PAt n0 w L P) : PAt n0 w.drew L P := h.below (Below.refl _ _).drew
theorem PAt.setNow {n0 v : Nat} {w w' : World} {L : Lay} {P : Pb} {x : V} {M S : Nw} (h : PAt n0 w L P) (hv : v < P.n + P.m) (hw : Wr w w' L.now (v * 6) (M.cs ++ S.cs)) (hm : RA w x.m M) (hs : RA w x.s S) :
  PAt n0 w' L { P with now := fun j => if j = v then x else P.now j } := by
 have hl := h.no.limb hv hw
 have B : ∀ {g ty : Nat}, Blk w g ty → ty ≠ 76 → w'.heap[g]? = w.heap[g]? := fun q hne => hw.oth _ (q.ne h.no.blk hne)
 exact ⟨(B h.pb (by decide)).trans h.hd, h.lo.keep (B h.lo.blk (by decide)) hl, h.hi.keep (B h.hi.blk (by decide)) hl, h.no.set hv hw hm hs, h.ba.keep (B h.ba.blk (by decide)),
  fun q => ⟨(h.fr q).1, (h.fr q).2.keep (B (h.fr q).2.blk (by decide))⟩, h.tb.keep (B h.tb (by decide)), fun i hi => (cells_same (B h.tb (by decide)) i).trans (h.ta i hi),
  fun q i hi => ⟨(h.li q i hi).1, (h.li q i hi).2.keep (B (h.li q i hi).2.blk (by decide)) hl⟩, h.inj, h.bf, h.ge, h.cp, h.nm⟩
theorem PAt.setLine {n0 i k : Nat} {w w' : World} {L : Lay} {P : Pb} {x : Rat} {M : Nw} (h : PAt n0 w L P) (hi : i < P.m) (hk : k < P.n) (hw : Wr w w' (L.line i) (k * 3) M.cs) (hm : RA w x M) :
  PAt n0 w' L { P with T := fun i' k' => if i' = i then (if k' = k then x else P.T i k') else P.T i' k' } := by
 have n0p : 0 < P.n := by omega
 have li := (h.li n0p i hi).2
 have hl := li.limb hk hw
 have B : ∀ {g ty : Nat}, Blk w g ty → ty ≠ 26 → w'.heap[g]? = w.heap[g]? := fun q hne => hw.oth _ (q.ne li.blk hne)
 refine ⟨(B h.pb (by decide)).trans h.hd, h.lo.keep (B h.lo.blk (by decide)) hl, h.hi.keep (B h.hi.blk (by decide)) hl, h.no.keep (B h.no.blk (by decide)) hl, h.ba.keep (B h.ba.blk (by decide)),
  fun q => ⟨(h.fr q).1, (h.fr q).2.keep (B (h.fr q).2.blk (by decide))⟩, h.tb.keep (B h.tb (by decide)), fun i hi => (cells_same (B h.tb (by decide)) i).trans (h.ta i hi),
  fun q j hj => ⟨(h.li q j hj).1, ?_⟩, h.inj, h.bf, h.ge, h.cp, h.nm⟩
 by_cases e : j = i
 ·subst e
  simp only [if_true]
  exact li.set hk hw hm
 ·simp only [if_neg e]
  exact (h.li q j hj).2.keep (hw.oth _ (h.inj j i hj hi e)) hl
theorem PAt.setBas {n0 i x : Nat} {w w' : World} {L : Lay} {P : Pb} (h : PAt n0 w L P) (hi : i < P.m) (hw : Wr w w' L.bas i [.int .i64 (x : Int)]) :
  PAt n0 w' L { P with basic := fun j => if j = i then x else P.basic j } := by
 have hl := h.ba.limb hi hw
 have B : ∀ {g ty : Nat}, Blk w g ty → ty ≠ 3 → w'.heap[g]? = w.heap[g]? := fun q hne => hw.oth _ (q.ne h.ba.blk hne)
 exact ⟨(B h.pb (by decide)).trans h.hd, h.lo.keep (B h.lo.blk (by decide)) hl, h.hi.keep (B h.hi.blk (by decide)) hl, h.no.keep (B h.no.blk (by decide)) hl, h.ba.set hi hw,
  fun q => ⟨(h.fr q).1, (h.fr q).2.keep (hw.oth _ h.bf.symm)⟩, h.tb.keep (B h.tb (by decide)), fun i hi => (cells_same (B h.tb (by decide)) i).trans (h.ta i hi),
  fun q j hj => ⟨(h.li q j hj).1, (h.li q j hj).2.keep (B (h.li q j hj).2.blk (by decide)) hl⟩, h.inj, h.bf, h.ge, h.cp, h.nm⟩
theorem PAt.setFre {n0 i x : Nat} {w w' : World} {L : Lay} {P : Pb} (h : PAt n0 w L P) (hi : i < P.n) (hw : Wr w w' L.freB i [.int .i64 (x : Int)]) :
  PAt n0 w' L { P with free := fun j => if j = i then x else P.free j } := by
 have n0p : 0 < P.n := by omega
 have fr := (h.fr n0p).2
 have hl := fr.limb hi hw
 have B : ∀ {g ty : Nat}, Blk w g ty → ty ≠ 3 → w'.heap[g]? = w.heap[g]? := fun q hne => hw.oth _ (q.ne fr.blk hne)
 exact ⟨(B h.pb (by decide)).trans h.hd, h.lo.keep (B h.lo.blk (by decide)) hl, h.hi.keep (B h.hi.blk (by decide)) hl, h.no.keep (B h.no.blk (by decide)) hl, h.ba.keep (hw.oth _ h.bf),
  fun q => ⟨(h.fr q).1, fr.set hi hw⟩, h.tb.keep (B h.tb (by decide)), fun i hi => (cells_same (B h.tb (by decide)) i).trans (h.ta i hi),
  fun q j hj => ⟨(h.li q j hj).1, (h.li q j hj).2.keep (B (h.li q j hj).2.blk (by decide)) hl⟩, h.inj, h.bf, h.ge, h.cp, h.nm⟩
theorem PAt.congr {n0 : Nat} {w : World} {L : Lay} {P Q : Pb} (h : PAt n0 w L P) (e : P = Q) : PAt n0 w L Q := e ▸ h
/-- Six cells of a value. -/
def C6 (w : World) (g o : Nat) (M S : Nw) : Prop := w.cell? ⟨g, o, none⟩ = some (.bool M.s) ∧ w.cell? ⟨g, o + 1, none⟩ = some (.slice M.a M.n M.c) ∧ w.cell? ⟨g, o + 2, none⟩ = some (.slice M.b M.m M.d) ∧ w.cell? ⟨g, o + 3, none⟩ = some (.bool S.s) ∧ w.cell? ⟨g, o + 4, none⟩ = some (.slice S.a S.n S.c) ∧ w.cell? ⟨g, o + 5, none⟩ = some (.slice S.b S.m S.d)
theorem ValC.reads {w : World} {g o : Nat} {v : V} (h : ValC w g o v) : ∃ M S : Nw, RA w v.m M ∧ RA w v.s S ∧ C6 w g o M S := by
 obtain ⟨⟨M, a, b, c, d⟩, ⟨S, e, f, i, j⟩⟩ := h
 exact ⟨M, S, d, j, a, b, c, e, f, i⟩
theorem BndC.some_reads {w : World} {g o : Nat} {v : V} (h : BndC w g o (some v)) : w.cell? ⟨g, o, none⟩ = some (.bool true) ∧ ∃ M S : Nw, RA w v.m M ∧ RA w v.s S ∧ w.cell? ⟨g, o + 1, none⟩ = some (.bool M.s) ∧ w.cell? ⟨g, o + 2, none⟩ = some (.slice M.a M.n M.c) ∧ w.cell? ⟨g, o + 3, none⟩ = some (.slice M.b M.m M.d) ∧ w.cell? ⟨g, o + 4, none⟩ = some (.bool S.s) ∧ w.cell? ⟨g, o + 5, none⟩ = some (.slice S.a S.n S.c) ∧ w.cell? ⟨g, o + 6, none⟩ = some (.slice S.b S.m S.d) := by
 obtain ⟨t, q⟩ := h
 obtain ⟨M, S, a, b, c⟩ := q.reads
 exact ⟨t, M, S, a, b, c⟩
theorem rise_any {n0 v : Nat} {w : World} {L : Lay} {P : Pb} (h : PAt n0 w L P) (hv : v < P.n + P.m) (hs : PSz P 1048576) :
  Calls Try.prog 64 #[.pointer (some ⟨L.p, 0, none⟩), .int .i64 (v : Int)] w fun e w' => e = .returned (.bool (P.rises v)) ∧ Below w.heap.size w w' := by
 obtain ⟨q0, q1, q2, q3, q4, q5, q6⟩ := h.head
 have nm := h.nm
 have bh := h.hi.at_ v hv
 obtain ⟨N, hN⟩ : ∃ N, P.n + P.m = N := ⟨_, rfl⟩
 rw [hN] at q1 q2 q3 hv
 have Nb : N ≤ 128 := by omega
 have v0 : (0 : Int) ≤ (v : Int) := by omega
 have v1 : (v : Int) < (N : Int) := by omega
 cases hh : P.high v with
 | none =>
  have E : Hid (P.rises v = true) := by show _ = _; unfold Pb.rises; rw [hh]
  rw [hh] at bh
  have b0 := bh.1
  clear h bh hs hh
  go_enter Try.func64, Try.ntmps64
  go_upto_region 1 with fail
  go_quiet (fail)
  go_wp2_with fail
  go_ret
  exact ⟨by rw [E.out]; rfl, Qt.below ⟨nq, rfl⟩⟩
 | some u =>
  obtain ⟨z, hz⟩ : ∃ z, vcmp (P.now v) u = z := ⟨_, rfl⟩
  have E : Hid (P.rises v = decide (z < 0)) := by show _ = _; unfold Pb.rises; rw [hh]; rw [← hz]
  rw [hh] at bh
  obtain ⟨b0, M', S', r3, r4, b1, b2, b3, b4, b5, b6⟩ := bh.some_reads
  obtain ⟨M, S, r1, r2, c0, c1, c2, c3, c4, c5⟩ := (h.no.at_ v (by rw [hN]; exact hv)).reads
  have s1 := hs.now v (by rw [hN]; exact hv)
  have s2 := hs.high v u (by rw [hN]; exact hv) hh
  have C := vcmp_any (w := w.drew) (r1.below (Below.refl _ _).drew) (r2.below (Below.refl _ _).drew) (r3.below (Below.refl _ _).drew) (r4.below (Below.refl _ _).drew) (Sz.mono s1.1 (by omega)) (Sz.mono s1.2 (by omega)) (Sz.mono s2.1 (by omega)) (Sz.mono s2.2 (by omega))
  rw [hz] at C
  have C := Lib.hid C
  have KP := Lib.hid (fun (W : World) (hB : Below w.heap.size w W) => (show W.cell? ⟨L.p, 2, none⟩ = some (.slice (some ⟨L.high, 0, none⟩) N N) ∧ W.cell? ⟨L.p, 3, none⟩ = some (.slice (some ⟨L.now, 0, none⟩) N N) ∧ W.cell? ⟨L.high, v * 7, none⟩ = some (.bool true) ∧ W.cell? ⟨L.high, v * 7 + 1, none⟩ = some (.bool M'.s) ∧ W.cell? ⟨L.high, v * 7 + 2, none⟩ = some (.slice M'.a M'.n M'.c) ∧ W.cell? ⟨L.high, v * 7 + 3, none⟩ = some (.slice M'.b M'.m M'.d) ∧ W.cell? ⟨L.high, v * 7 + 4, none⟩ = some (.bool S'.s) ∧ W.cell? ⟨L.high, v * 7 + 5, none⟩ = some (.slice S'.a S'.n S'.c) ∧ W.cell? ⟨L.high, v * 7 + 6, none⟩ = some (.slice S'.b S'.m S'.d) ∧ W.cell? ⟨L.now, v * 6, none⟩ = some (.bool M.s) ∧ W.cell? ⟨L.now, v * 6 + 1, none⟩ = some (.slice M.a M.n M.c) ∧ W.cell? ⟨L.now, v * 6 + 2, none⟩ = some (.slice M.b M.m M.d) ∧ W.cell? ⟨L.now, v * 6 + 3, none⟩ = some (.bool S.s) ∧ W.cell? ⟨L.now, v * 6 + 4, none⟩ = some (.slice S.a S.n S.c) ∧ W.cell? ⟨L.now, v * 6 + 5, none⟩ = some (.slice S.b S.m S.d) from ⟨cell_later hB (Nat.le_refl _) q2, cell_later hB (Nat.le_refl _) q3, cell_later hB (Nat.le_refl _) b0, cell_later hB (Nat.le_refl _) b1, cell_later hB (Nat.le_refl _) b2, cell_later hB (Nat.le_refl _) b3, cell_later hB (Nat.le_refl _) b4, cell_later hB (Nat.le_refl _) b5, cell_later hB (Nat.le_refl _) b6, cell_later hB (Nat.le_refl _) c0, cell_later hB (Nat.le_refl _) c1, cell_later hB (Nat.le_refl _) c2, cell_later hB (Nat.le_refl _) c3, cell_later hB (Nat.le_refl _) c4, cell_later hB (Nat.le_refl _) c5⟩))
  clear h bh hs hh r1 r2 r3 r4 s1 s2 hz
  go_enter Try.func64, Try.ntmps64
  go_upto_region 1 with fail
  go_region_held3 (fun W => W.cell? ⟨L.p, 2, none⟩ = some (.slice (some ⟨L.high, 0, none⟩) N N) ∧ W.cell? ⟨L.p, 3, none⟩ = some (.slice (some ⟨L.now, 0, none⟩) N N) ∧ W.cell? ⟨L.high, v * 7, none⟩ = some (.bool true) ∧ W.cell? ⟨L.high, v * 7 + 1, none⟩ = some (.bool M'.s) ∧ W.cell? ⟨L.high, v * 7 + 2, none⟩ = some (.slice M'.a M'.n M'.c) ∧ W.cell? ⟨L.high, v * 7 + 3, none⟩ = some (.slice M'.b M'.m M'.d) ∧ W.cell? ⟨L.high, v * 7 + 4, none⟩ = some (.bool S'.s) ∧ W.cell? ⟨L.high, v * 7 + 5, none⟩ = some (.slice S'.a S'.n S'.c) ∧ W.cell? ⟨L.high, v * 7 + 6, none⟩ = some (.slice S'.b S'.m S'.d) ∧ W.cell? ⟨L.now, v * 6, none⟩ = some (.bool M.s) ∧ W.cell? ⟨L.now, v * 6 + 1, none⟩ = some (.slice M.a M.n M.c) ∧ W.cell? ⟨L.now, v * 6 + 2, none⟩ = some (.slice M.b M.m M.d) ∧ W.cell? ⟨L.now, v * 6 + 3, none⟩ = some (.bool S.s) ∧ W.cell? ⟨L.now, v * 6 + 4, none⟩ = some (.slice S.a S.n S.c) ∧ W.cell? ⟨L.now, v * 6 + 5, none⟩ = some (.slice S.b S.m S.d))
   (first
    | with_reducible exact ⟨q2, q3, b0, b1, b2, b3, b4, b5, b6, c0, c1, c2, c3, c4, c5⟩
    | with_reducible exact KS
    | go_keep)
   ((go_at_call 63; ((with_reducible refine C.out.mono ?_)); go_loud (rintro e w2 ⟨rfl, B2⟩; have KS := KP.out w2 (undrew B2); have B2 := Lib.hid (undrew B2))))
  go_wp2_with fail
  go_ret
  exact ⟨by rw [E.out]; rfl, B2.out⟩
theorem fall_any {n0 v : Nat} {w : World} {L : Lay} {P : Pb} (h : PAt n0 w L P) (hv : v < P.n + P.m) (hs : PSz P 1048576) :
  Calls Try.prog 65 #[.pointer (some ⟨L.p, 0, none⟩), .int .i64 (v : Int)] w fun e w' => e = .returned (.bool (P.falls v)) ∧ Below w.heap.size w w' := by
 obtain ⟨q0, q1, q2, q3, q4, q5, q6⟩ := h.head
 have nm := h.nm
 have bh := h.lo.at_ v hv
 obtain ⟨N, hN⟩ : ∃ N, P.n + P.m = N := ⟨_, rfl⟩
 rw [hN] at q1 q2 q3 hv
 have Nb : N ≤ 128 := by omega
 have v0 : (0 : Int) ≤ (v : Int) := by omega
 have v1 : (v : Int) < (N : Int) := by omega
 cases hh : P.low v with
 | none =>
  have E : Hid (P.falls v = true) := by show _ = _; unfold Pb.falls; rw [hh]
  rw [hh] at bh
  have b0 := bh.1
  clear h bh hs hh
  go_enter Try.func65, Try.ntmps65
  go_upto_region 1 with fail
  go_quiet (fail)
  go_wp2_with fail
  go_ret
  exact ⟨by rw [E.out]; rfl, Qt.below ⟨nq, rfl⟩⟩
 | some u =>
  obtain ⟨z, hz⟩ : ∃ z, vcmp (P.now v) u = z := ⟨_, rfl⟩
  have E : Hid (P.falls v = decide (0 < z)) := by show _ = _; unfold Pb.falls; rw [hh]; rw [← hz]
  rw [hh] at bh
  obtain ⟨b0, M', S', r3, r4, b1, b2, b3, b4, b5, b6⟩ := bh.some_reads
  obtain ⟨M, S, r1, r2, c0, c1, c2, c3, c4, c5⟩ := (h.no.at_ v (by rw [hN]; exact hv)).reads
  have s1 := hs.now v (by rw [hN]; exact hv)
  have s2 := hs.low v u (by rw [hN]; exact hv) hh
  have C := vcmp_any (w := w.drew) (r1.below (Below.refl _ _).drew) (r2.below (Below.refl _ _).drew) (r3.below (Below.refl _ _).drew) (r4.below (Below.refl _ _).drew) (Sz.mono s1.1 (by omega)) (Sz.mono s1.2 (by omega)) (Sz.mono s2.1 (by omega)) (Sz.mono s2.2 (by omega))
  rw [hz] at C
  have C := Lib.hid C
  have KP := Lib.hid (fun (W : World) (hB : Below w.heap.size w W) => (show W.cell? ⟨L.p, 1, none⟩ = some (.slice (some ⟨L.low, 0, none⟩) N N) ∧ W.cell? ⟨L.p, 3, none⟩ = some (.slice (some ⟨L.now, 0, none⟩) N N) ∧ W.cell? ⟨L.low, v * 7, none⟩ = some (.bool true) ∧ W.cell? ⟨L.low, v * 7 + 1, none⟩ = some (.bool M'.s) ∧ W.cell? ⟨L.low, v * 7 + 2, none⟩ = some (.slice M'.a M'.n M'.c) ∧ W.cell? ⟨L.low, v * 7 + 3, none⟩ = some (.slice M'.b M'.m M'.d) ∧ W.cell? ⟨L.low, v * 7 + 4, none⟩ = some (.bool S'.s) ∧ W.cell? ⟨L.low, v * 7 + 5, none⟩ = some (.slice S'.a S'.n S'.c) ∧ W.cell? ⟨L.low, v * 7 + 6, none⟩ = some (.slice S'.b S'.m S'.d) ∧ W.cell? ⟨L.now, v * 6, none⟩ = some (.bool M.s) ∧ W.cell? ⟨L.now, v * 6 + 1, none⟩ = some (.slice M.a M.n M.c) ∧ W.cell? ⟨L.now, v * 6 + 2, none⟩ = some (.slice M.b M.m M.d) ∧ W.cell? ⟨L.now, v * 6 + 3, none⟩ = some (.bool S.s) ∧ W.cell? ⟨L.now, v * 6 + 4, none⟩ = some (.slice S.a S.n S.c) ∧ W.cell? ⟨L.now, v * 6 + 5, none⟩ = some (.slice S.b S.m S.d) from ⟨cell_later hB (Nat.le_refl _) q1, cell_later hB (Nat.le_refl _) q3, cell_later hB (Nat.le_refl _) b0, cell_later hB (Nat.le_refl _) b1, cell_later hB (Nat.le_refl _) b2, cell_later hB (Nat.le_refl _) b3, cell_later hB (Nat.le_refl _) b4, cell_later hB (Nat.le_refl _) b5, cell_later hB (Nat.le_refl _) b6, cell_later hB (Nat.le_refl _) c0, cell_later hB (Nat.le_refl _) c1, cell_later hB (Nat.le_refl _) c2, cell_later hB (Nat.le_refl _) c3, cell_later hB (Nat.le_refl _) c4, cell_later hB (Nat.le_refl _) c5⟩))
  clear h bh hs hh r1 r2 r3 r4 s1 s2 hz
  go_enter Try.func65, Try.ntmps65
  go_upto_region 1 with fail
  go_region_held3 (fun W => W.cell? ⟨L.p, 1, none⟩ = some (.slice (some ⟨L.low, 0, none⟩) N N) ∧ W.cell? ⟨L.p, 3, none⟩ = some (.slice (some ⟨L.now, 0, none⟩) N N) ∧ W.cell? ⟨L.low, v * 7, none⟩ = some (.bool true) ∧ W.cell? ⟨L.low, v * 7 + 1, none⟩ = some (.bool M'.s) ∧ W.cell? ⟨L.low, v * 7 + 2, none⟩ = some (.slice M'.a M'.n M'.c) ∧ W.cell? ⟨L.low, v * 7 + 3, none⟩ = some (.slice M'.b M'.m M'.d) ∧ W.cell? ⟨L.low, v * 7 + 4, none⟩ = some (.bool S'.s) ∧ W.cell? ⟨L.low, v * 7 + 5, none⟩ = some (.slice S'.a S'.n S'.c) ∧ W.cell? ⟨L.low, v * 7 + 6, none⟩ = some (.slice S'.b S'.m S'.d) ∧ W.cell? ⟨L.now, v * 6, none⟩ = some (.bool M.s) ∧ W.cell? ⟨L.now, v * 6 + 1, none⟩ = some (.slice M.a M.n M.c) ∧ W.cell? ⟨L.now, v * 6 + 2, none⟩ = some (.slice M.b M.m M.d) ∧ W.cell? ⟨L.now, v * 6 + 3, none⟩ = some (.bool S.s) ∧ W.cell? ⟨L.now, v * 6 + 4, none⟩ = some (.slice S.a S.n S.c) ∧ W.cell? ⟨L.now, v * 6 + 5, none⟩ = some (.slice S.b S.m S.d))
   (first
    | with_reducible exact ⟨q1, q3, b0, b1, b2, b3, b4, b5, b6, c0, c1, c2, c3, c4, c5⟩
    | with_reducible exact KS
    | go_keep)
   ((go_at_call 63; ((with_reducible refine C.out.mono ?_)); go_loud (rintro e w2 ⟨rfl, B2⟩; have KS := KP.out w2 (undrew B2); have B2 := Lib.hid (undrew B2))))
  go_wp2_with fail
  go_ret
  exact ⟨by rw [E.out]; rfl, B2.out⟩
end Go.Proofs.Ytijdglogadnbcaa
