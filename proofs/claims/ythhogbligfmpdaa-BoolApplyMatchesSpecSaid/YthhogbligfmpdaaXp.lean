/- The law BoolApplyMatchesSpec: its walk. -/
import Derived.Test.YthhogbligfmpdaaXg
import Derived.Test.YthhogbligfmpdaaXo
set_option linter.unusedVariables false
set_option linter.unusedSimpArgs false
namespace Go.Proofs.Ythhogbligfmpdaa
open Go.RowKit Bd

theorem de_len (e : Int) (T : List Bool) : (deN e T).length ≤ 1000000 := by
  unfold deN
  split
  · simp
  · exact out_len T

set_option maxRecDepth 100000 in
set_option maxHeartbeats 1000000 in
theorem law5_any {w : World} {op : Int} {da db : List Nd} {aa ab : Option Addr} {n m ca cb : Nat} {ra rb : Int} (hda : DAt w da aa) (hdb : DAt w db ab) (hn : da.length = n) (hm : db.length = m) (hl : n ≤ 9223372036854775807) (hl2 : m ≤ 9223372036854775807) :
    Calls Try.prog 5 #[.int .i64 op, .agg #[.slice aa n ca, .int .i64 ra], .agg #[.slice ab m cb, .int .i64 rb]] w fun e w' => e = .returned (.bool true) ∧ Below w.heap.size w w' := by
  obtain ⟨x1, x2, x3, x4⟩ := two_new w (.cells #[.slice aa n ca, .int .i64 ra] 27) (.cells #[.slice ab m cb, .int .i64 rb] 27) _ rfl
  have X1 := Lib.hid x1; clear x1
  have X2 := Lib.hid x2; clear x2
  have X3 := Lib.hid x3; clear x3
  have X4 := Lib.hid x4; clear x4
  have CA := Lib.hid (fun (W : World) (h : Below w.heap.size w W) => apply_any (op := op) (ca := ca) (cb := cb) (ra := ra) (rb := rb) (hda.below h) (hdb.below h) hn hm hl hl2)
  have CR := Lib.hid (fun (W : World) (h : Below w.heap.size w W) => applied_any (op := op) (ca := ca) (cb := cb) (ra := ra) (rb := rb) (hda.below h) (hdb.below h) hn hm hl hl2)
  have CN := Lib.hid (fun (W : World) (h : Below w.heap.size w W) => Not_any (cap := ca) (root := ra) (hda.below h) hn hl)
  have CG := Lib.hid (fun (W : World) (h : Below w.heap.size w W) => negated_any (cap := ca) (root := ra) (hda.below h) hn hl)
  clear hda hdb hn hm
  have L1 := Lib.hid (de_len (apPre op da ra db rb) (opT op (tb da 16 ra) (tb db 16 rb)))
  have L2 := Lib.hid (de_len (chk da ra) (tl fun x => !fnT (tb da 16 ra) x))
  unfold DePost at CA CR CN CG
  generalize deN (apPre op da ra db rb) (opT op (tb da 16 ra) (tb db 16 rb)) = O1 at *
  generalize deR (apPre op da ra db rb) (opT op (tb da 16 ra) (tb db 16 rb)) = r1 at *
  generalize deE (apPre op da ra db rb) (opT op (tb da 16 ra) (tb db 16 rb)) = e1 at *
  generalize deN (chk da ra) (tl fun x => !fnT (tb da 16 ra) x) = O2 at *
  generalize deR (chk da ra) (tl fun x => !fnT (tb da 16 ra) x) = r2 at *
  generalize deE (chk da ra) (tl fun x => !fnT (tb da 16 ra) x) = e2 at *
  go_enter Try.func5, Try.ntmps5
  go_wp2_with fail
  generalize (w.alloc (.cells #[.slice aa n ca, .int .i64 ra] 27)).alloc (.cells #[.slice ab m cb, .int .i64 rb] 27) = w1 at *
  have lt0 : w.heap.size < w1.heap.size := by rw [X3.out]; omega
  have lt1 : w.heap.size + 1 < w1.heap.size := by rw [X3.out]; omega
  have BB1 := X4
  have P1 := X1
  have Q1 := X2
  refine (CA.out w1 BB1.out).mono ?_
  rintro e v1 ⟨a1, k1, rfl, dn1, bl1⟩
  have D1 := Lib.hid dn1.dAt; clear dn1
  have V1 := Lib.hid bl1; clear bl1
  have vz1 : w1.heap.size ≤ v1.heap.size := V1.out.size
  have A1 : Hid (Below v1.heap.size v1 (v1.alloc (.cells #[.slice a1 O1.length k1, .int .i64 r1] 27))) := (Below.refl _ _).alloc (Nat.le_refl _) _
  have N2 := Lib.hid (heap_alloc_new v1 (.cells #[.slice a1 O1.length k1, .int .i64 r1] 27))
  have S2 : Hid ((v1.alloc (.cells #[.slice a1 O1.length k1, .int .i64 r1] 27)).heap.size = v1.heap.size + 1) := by show _ = _; simp
  have W1 := Lib.hid (Below.over V1.out V1.out.size A1.out)
  have BB2 := Lib.hid (Below.over BB1.out BB1.out.size W1.out)
  have PV1 := Lib.hid ((V1.out.block w.heap.size (by omega)).trans P1.out)
  have QV1 := Lib.hid ((V1.out.block (w.heap.size + 1) (by omega)).trans Q1.out)
  have P2 := Lib.hid ((A1.out.block w.heap.size (by omega)).trans PV1.out)
  have Q2 := Lib.hid ((A1.out.block (w.heap.size + 1) (by omega)).trans QV1.out)
  have g0 : w.heap.size < v1.heap.size := by omega
  have g1 : w.heap.size + 1 < v1.heap.size := by omega
  obtain ⟨y0, y1, _⟩ := cells2 PV1.out
  obtain ⟨y2, y3, _⟩ := cells2 QV1.out
  go_wp2_with fail
  clear g0 g1 y0 y1 y2 y3
  generalize v1.alloc (.cells #[.slice a1 O1.length k1, .int .i64 r1] 27) = w2 at *
  have sz2 : w2.heap.size = v1.heap.size + 1 := S2.out
  refine (CR.out w2 BB2.out).mono ?_
  rintro e v2 ⟨a2, k2, rfl, dn2, bl2⟩
  have D2 := Lib.hid dn2.dAt; clear dn2
  have V2 := Lib.hid bl2; clear bl2
  have vz2 : w2.heap.size ≤ v2.heap.size := V2.out.size
  have A2 : Hid (Below v2.heap.size v2 (v2.alloc (.cells #[.slice a2 O1.length k2, .int .i64 r1] 27))) := (Below.refl _ _).alloc (Nat.le_refl _) _
  have N3 := Lib.hid (heap_alloc_new v2 (.cells #[.slice a2 O1.length k2, .int .i64 r1] 27))
  have S3 : Hid ((v2.alloc (.cells #[.slice a2 O1.length k2, .int .i64 r1] 27)).heap.size = v2.heap.size + 1) := by show _ = _; simp
  have W2 := Lib.hid (Below.over V2.out V2.out.size A2.out)
  have BB3 := Lib.hid (Below.over BB2.out BB2.out.size W2.out)
  have PV2 := Lib.hid ((V2.out.block w.heap.size (by omega)).trans P2.out)
  have QV2 := Lib.hid ((V2.out.block (w.heap.size + 1) (by omega)).trans Q2.out)
  have P3 := Lib.hid ((A2.out.block w.heap.size (by omega)).trans PV2.out)
  have Q3 := Lib.hid ((A2.out.block (w.heap.size + 1) (by omega)).trans QV2.out)
  have g0 : w.heap.size < v2.heap.size := by omega
  have g1 : w.heap.size + 1 < v2.heap.size := by omega
  obtain ⟨y0, y1, _⟩ := cells2 PV2.out
  go_wp2_with fail
  clear g0 g1 y0 y1
  generalize v2.alloc (.cells #[.slice a2 O1.length k2, .int .i64 r1] 27) = w3 at *
  have sz3 : w3.heap.size = v2.heap.size + 1 := S3.out
  refine (CN.out w3 BB3.out).mono ?_
  rintro e v3 ⟨a3, k3, rfl, dn3, bl3⟩
  have D3 := Lib.hid dn3.dAt; clear dn3
  have V3 := Lib.hid bl3; clear bl3
  have vz3 : w3.heap.size ≤ v3.heap.size := V3.out.size
  have A3 : Hid (Below v3.heap.size v3 (v3.alloc (.cells #[.slice a3 O2.length k3, .int .i64 r2] 27))) := (Below.refl _ _).alloc (Nat.le_refl _) _
  have N4 := Lib.hid (heap_alloc_new v3 (.cells #[.slice a3 O2.length k3, .int .i64 r2] 27))
  have S4 : Hid ((v3.alloc (.cells #[.slice a3 O2.length k3, .int .i64 r2] 27)).heap.size = v3.heap.size + 1) := by show _ = _; simp
  have W3 := Lib.hid (Below.over V3.out V3.out.size A3.out)
  have BB4 := Lib.hid (Below.over BB3.out BB3.out.size W3.out)
  have PV3 := Lib.hid ((V3.out.block w.heap.size (by omega)).trans P3.out)
  have QV3 := Lib.hid ((V3.out.block (w.heap.size + 1) (by omega)).trans Q3.out)
  have P4 := Lib.hid ((A3.out.block w.heap.size (by omega)).trans PV3.out)
  have Q4 := Lib.hid ((A3.out.block (w.heap.size + 1) (by omega)).trans QV3.out)
  have g0 : w.heap.size < v3.heap.size := by omega
  have g1 : w.heap.size + 1 < v3.heap.size := by omega
  obtain ⟨y0, y1, _⟩ := cells2 PV3.out
  go_wp2_with fail
  clear g0 g1 y0 y1
  generalize v3.alloc (.cells #[.slice a3 O2.length k3, .int .i64 r2] 27) = w4 at *
  have sz4 : w4.heap.size = v3.heap.size + 1 := S4.out
  refine (CG.out w4 BB4.out).mono ?_
  rintro e v4 ⟨a4, k4, rfl, dn4, bl4⟩
  have D4 := Lib.hid dn4.dAt; clear dn4
  have V4 := Lib.hid bl4; clear bl4
  have vz4 : w4.heap.size ≤ v4.heap.size := V4.out.size
  have A4 : Hid (Below v4.heap.size v4 (v4.alloc (.cells #[.slice a4 O2.length k4, .int .i64 r2] 27))) := (Below.refl _ _).alloc (Nat.le_refl _) _
  have N5 := Lib.hid (heap_alloc_new v4 (.cells #[.slice a4 O2.length k4, .int .i64 r2] 27))
  have S5 : Hid ((v4.alloc (.cells #[.slice a4 O2.length k4, .int .i64 r2] 27)).heap.size = v4.heap.size + 1) := by show _ = _; simp
  have W4 := Lib.hid (Below.over V4.out V4.out.size A4.out)
  have BB5 := Lib.hid (Below.over BB4.out BB4.out.size W4.out)
  have PV4 := Lib.hid ((V4.out.block w.heap.size (by omega)).trans P4.out)
  have QV4 := Lib.hid ((V4.out.block (w.heap.size + 1) (by omega)).trans Q4.out)
  have P5 := Lib.hid ((A4.out.block w.heap.size (by omega)).trans PV4.out)
  have Q5 := Lib.hid ((A4.out.block (w.heap.size + 1) (by omega)).trans QV4.out)
  have g0 : w.heap.size < v4.heap.size := by omega
  have g1 : w.heap.size + 1 < v4.heap.size := by omega
  have bn2 := Lib.hid ((V4.out.block v1.heap.size (by omega)).trans ((W3.out.block v1.heap.size (by omega)).trans ((W2.out.block v1.heap.size (by omega)).trans N2.out)))
  have bn3 := Lib.hid ((V4.out.block v2.heap.size (by omega)).trans ((W3.out.block v2.heap.size (by omega)).trans N3.out))
  have bn4 := Lib.hid ((V4.out.block v3.heap.size (by omega)).trans N4.out)
  have E1 := Lib.hid ((D1.out.below (Below.over A1.out A1.out.size (Below.over W2.out W2.out.size (Below.over W3.out W3.out.size W4.out)))))
  have E2 := Lib.hid ((D2.out.below (Below.over A2.out A2.out.size (Below.over W3.out W3.out.size W4.out))))
  have E3 := Lib.hid ((D3.out.below (Below.over A3.out A3.out.size W4.out)))
  have E4 := Lib.hid (D4.out.below A4.out)
  have h2 : v1.heap.size < v4.heap.size := by omega
  have h3 : v2.heap.size < v4.heap.size := by omega
  have h4 : v3.heap.size < v4.heap.size := by omega
  have ST1 := Lib.hid (same_true (c1 := k1) (c2 := k2) (r := r1) E1.out E2.out rfl L1.out)
  obtain ⟨y0, y1, _⟩ := cells2 bn2.out
  obtain ⟨y2, y3, _⟩ := cells2 bn3.out
  go_wp2_with fail
  clear g0 g1 y0 y1 y2 y3
  generalize v4.alloc (.cells #[.slice a4 O2.length k4, .int .i64 r2] 27) = w5 at *
  refine ST1.out.mono ?_
  rintro e w6 ⟨rfl, bl6⟩
  have B6 := Lib.hid bl6; clear bl6
  have ST2 := Lib.hid (same_true (c1 := k3) (c2 := k4) (r := r2) (E3.out.below B6.out) (E4.out.below B6.out) rfl L2.out)
  obtain ⟨y0, y1, _⟩ := cells2 ((B6.out.block v3.heap.size (by rw [S5.out]; omega)).trans ((A4.out.block v3.heap.size (by omega)).trans bn4.out))
  obtain ⟨y2, y3, _⟩ := cells2 ((B6.out.block v4.heap.size (by rw [S5.out]; omega)).trans N5.out)
  go_wp2_with fail
  clear y0 y1 y2 y3
  refine ST2.out.mono ?_
  rintro e w7 ⟨rfl, bl7⟩
  have B7 := Lib.hid (Below.over BB5.out BB5.out.size (Below.over B6.out B6.out.size bl7)); clear bl7
  go_wp2_with fail
  refine (built_any w7).mono ?_
  rintro e w8 ⟨rfl, bl8⟩
  have B8 := Lib.hid (Below.over B7.out B7.out.size bl8); clear bl8
  go_wp2_with fail
  go_ret
  exact ⟨rfl, B8.out⟩

end Go.Proofs.Ythhogbligfmpdaa
