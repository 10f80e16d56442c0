/- fetterlocklaw6.SolvePostsCommute returns true. -/
import Derived.Test.YtijdglogadnbcaaKb
import Derived.Test.YtijdglogadnbcaaKc
import Derived.Test.YtijdglogadnbcaaKd
set_option linter.unusedVariables false
set_option linter.unusedSimpArgs false
set_option maxRecDepth 100000
set_option maxHeartbeats 40000000
namespace Go.Proofs.Ytijdglogadnbcaa
open Go.RowKit Nt Bl
theorem law3_any {w : World} {l : List Rw} {ra : Option Addr} {k cc : Nat} {u : Int} {cl : List Cf} {ca : Option Addr} {nc c2 : Nat} (h : RwsAt w l ra) (hk : l.length = k) (hc : k ≤ cc) (hc2 : cc ≤ 9223372036854775807) (hs : k ≤ 1048576)
    (hl : CfAt w cl ca) (hln : cl.length = nc) (hlc : nc ≤ c2) (hlc2 : c2 ≤ 9223372036854775807) :
    Calls Try.prog 3 #[.slice ra k cc, .int .i64 u, .slice ca nc c2] w fun e w' => e = .returned (.bool true) ∧ Below w.heap.size w w' := by
  have H0 := Lib.hid h
  have HK := Lib.hid hk
  have CF := Lib.hid hl
  have HLN := Lib.hid hln
  obtain ⟨i28, hi28, hz280, hz281, hz282⟩ := info_parts info27
  clear h hk hl hln
  go_enter Try.func3, Try.ntmps3
  go_wp2_with fail
  go_loopw [7, 8] (fun v7 v8 wr => BckL w l v7 v8 wr) (fun _ v _ => (intOf v + 1).toNat)
  case atStart => exact ⟨0, [], Nat.zero_le _, by rw [HK.out]; go_num, World.ownsRow_nil _ _ _ _, RwV.nil w, Below.refl _ _⟩
  case round =>
    obtain ⟨j, xs, hj, rfl, hO, hV, hB⟩ := hrel
    have OJ := Lib.hid hO
    have VJ := Lib.hid hV
    have BJ := Lib.hid hB
    rw [HK.out] at hj ⊢
    clear hO hV hB
    by_cases hlt : j < k
    · obtain ⟨i, hi⟩ : ∃ i, k - 1 - j = i := ⟨_, rfl⟩
      have ev : (k : Int) - 1 - (j : Int) = (i : Int) := by omega
      rw [ev]
      obtain ⟨g, o, ra', n5, N, rfl, q5, p0, p1, p2, p3, p4⟩ := H0.out.row (i := i) (by rw [HK.out]; omega)
      have p0 := cell_later BJ.out (Nat.le_refl _) p0
      have p1 := cell_later BJ.out (Nat.le_refl _) p1
      have p2 := cell_later BJ.out (Nat.le_refl _) p2
      have p3 := cell_later BJ.out (Nat.le_refl _) p3
      have p4 := cell_later BJ.out (Nat.le_refl _) p4
      have VN := Lib.hid (VJ.out.push q5)
      rw [show rwAt l i = rwAt l (l.length - 1 - j) from by rw [HK.out, hi], ← rev_next (by rw [HK.out]; exact hlt), show l.length - 1 - j = i from by rw [HK.out, hi]] at VN
      clear q5
      obtain ⟨R, hRR⟩ : ∃ R, rwAt l i = R := ⟨_, rfl⟩
      rw [hRR] at p0 p1 p2 VN
      clear hRR
      have i0 : (0 : Int) ≤ (i : Int) := by omega
      have i1 : (i : Int) < (k : Int) := by omega
      have NBk := Lib.hid (below_new wr (.cells #[.slice ra' R.l.length n5, .int .i64 R.rel, .bool R.B.neg, .slice N.a N.n N.c, .slice N.b N.m N.d] 28))
      have FG : Hid ((wr.alloc (.cells #[.slice ra' R.l.length n5, .int .i64 R.rel, .bool R.B.neg, .slice N.a N.n N.c, .slice N.b N.m N.d] 28)).heap[wr.heap.size]? = some (.cells #[.slice ra' R.l.length n5, .int .i64 R.rel, .bool R.B.neg, .slice N.a N.n N.c, .slice N.b N.m N.d] 28 (0, 0))) := heap_alloc_new _ _
      have OA := Lib.hid (World.ownsRow.alloc OJ.out (.cells #[.slice ra' R.l.length n5, .int .i64 R.rel, .bool R.B.neg, .slice N.a N.n N.c, .slice N.b N.m N.d] 28))
      go_wp2_with (at_builtin; refine wpList_append_own _ rfl _ _ 22 rfl w.heap.size 28 i28 _ 5 88 Try.underlying22 hi28 hz280 hz281 hz282 rfl (by omega) _ j xs rfl OA.out ⟨wr.heap.size, 0, none⟩ 1 1 [.slice ra' R.l.length n5, .int .i64 R.rel, .bool R.B.neg, .slice N.a N.n N.c, .slice N.b N.m N.d] rfl rfl (World.news_of_block FG.out) (by intro u hu; simp at hu; rcases hu with rfl | rfl | rfl | rfl | rfl <;> rfl) (by unfold maxLen; omega) (by omega) (Nat.le_trans BJ.out.size (below_new wr _).size) ?_; intro v5 w5 ho5 hg5 hn5; have O5 := Lib.hid ho5; have B5 := Lib.hid (below_own (Below.over BJ.out BJ.out.size NBk.out) OA.out (Nat.le_trans BJ.out.size NBk.out.size) hg5); clear ho5 hg5 hn5 p0 p1 p2 p3 p4 NBk FG OA)
      go_roundw
      case rel => exact ⟨j + 1, _, by rw [HK.out]; omega, by rw [HK.out]; congr 1; omega, O5.out, VN.out, B5.out⟩
      case measure => (simp [intOf] <;> omega)
    · have ev : (k : Int) - 1 - (j : Int) = -1 := by omega
      rw [ev]
      obtain rfl : k = j := by omega
      have LR : l.reverse.length = k := by rw [List.length_reverse]; exact HK.out
      have VV := VJ.out
      rw [List.take_of_length_le (by rw [LR]; exact Nat.le_refl _)] at VV
      obtain ⟨rb, cb, rfl, hb1, hb2, hb⟩ := own_rws OJ.out (VV.below BJ.out) LR
      have HB := Lib.hid hb
      have HLR := Lib.hid LR
      clear VV hb OJ VJ LR
      have M1 := Lib.hid (mades_any (u := u) (H0.out.below BJ.out) HK.out hc hc2)
      go_upto_region 7 with (go_at_call 4; refine M1.out.mono ?_; rintro e w1 ⟨p1, a1, r1, m1, c1, q1, rfl, hS, hA, hR, hB1⟩; have S1 := Lib.hid hS; have A1 := Lib.hid hA; have R1 := Lib.hid hR; have B1 := Lib.hid (Below.over BJ.out BJ.out.size hB1); have M2 := Lib.hid (mades_any (u := u) (HB.out.below hB1) HLR.out hb1 hb2); clear hS hA hR hB1 M1 HB)
      go_upto_region 8 with (go_at_call 4; refine M2.out.mono ?_; rintro e w2 ⟨p2, a2, r2, m2, c3, q2, rfl, hS, hA, hR, hB2⟩; have S2 := Lib.hid hS; have A2 := Lib.hid hA; have R2 := Lib.hid hR; have B2 := Lib.hid (Below.over B1.out B1.out.size hB2); have S1' := Lib.hid (S1.out.below hB2); clear hS hA hR hB2 M2 S1)
      obtain rfl : a2 = a1 := Bool.eq_iff_iff.2 (by rw [A1.out, A2.out, Adm.rev])
      have C1 := Lib.hid (range2_any S1'.out (CF.out.below B2.out) HLN.out hlc hlc2)
      have CF2 := Lib.hid (CF.out.below B2.out)
      obtain ⟨z, hz⟩ : ∃ z, rowN ((min u.toNat 24 : Nat) : Int) 3 cl ⟨false, [], [1]⟩ = z := ⟨_, rfl⟩
      have HZ := Lib.hid hz
      rw [hz] at C1
      clear hz A2 S1'
      cases a2
      all_goals
        go_upto_region 11 with (go_at_call 5; refine C1.out.mono ?_; rintro e w3 ⟨hi3, lo3, Lo3, Hi3, rfl, hU, eL, eH, hB3⟩; have U3 := Lib.hid hU; have EL3 := Lib.hid eL; have EH3 := Lib.hid eH; have B3 := Lib.hid (Below.over B2.out B2.out.size hB3); have S3 := Lib.hid (S2.out.below hB3); have CF3 := Lib.hid (CF2.out.below hB3); unfold rgV; clear hU eL eH hB3 C1 S2 CF2 B2)
        have NB4 := below_new w3 (.cells #[.int .i64 (kindV lo3), .int .i64 (kindV hi3), .bool Lo3.s, .slice Lo3.a Lo3.n Lo3.c, .slice Lo3.b Lo3.m Lo3.d, .bool Hi3.s, .slice Hi3.a Hi3.n Hi3.c, .slice Hi3.b Hi3.m Hi3.d] 33)
        have X4 : Hid (RgB (w3.alloc (.cells #[.int .i64 (kindV lo3), .int .i64 (kindV hi3), .bool Lo3.s, .slice Lo3.a Lo3.n Lo3.c, .slice Lo3.b Lo3.m Lo3.d, .bool Hi3.s, .slice Hi3.a Hi3.n Hi3.c, .slice Hi3.b Hi3.m Hi3.d] 33)) w3.heap.size (kindV lo3) (kindV hi3) Lo3 Hi3) := heap_alloc_new w3 _
        have B4 := Lib.hid (Below.over B3.out B3.out.size NB4)
        have EL4 := Lib.hid (EL3.out.below NB4)
        have EH4 := Lib.hid (EH3.out.below NB4)
        have C2 := Lib.hid (range2_any (S3.out.below NB4) (CF3.out.below NB4) HLN.out hlc hlc2)
        rw [HZ.out] at C2
        clear NB4 S3 CF3 EL3 EH3 B3
        generalize w3.alloc (.cells #[.int .i64 (kindV lo3), .int .i64 (kindV hi3), .bool Lo3.s, .slice Lo3.a Lo3.n Lo3.c, .slice Lo3.b Lo3.m Lo3.d, .bool Hi3.s, .slice Hi3.a Hi3.n Hi3.c, .slice Hi3.b Hi3.m Hi3.d] 33) = w4 at *
        obtain ⟨g4, hg4⟩ : ∃ g, w3.heap.size = g := ⟨_, rfl⟩
        rw [hg4] at X4 ⊢
        clear hg4
        go_upto_region 12 with (go_at_call 5; refine C2.out.mono ?_; rintro e w5 ⟨hi5, lo5, Lo5, Hi5, rfl, hU, eL, eH, hB5⟩; have U5 := Lib.hid hU; have EL5 := Lib.hid eL; have EH5 := Lib.hid eH; have B5 := Lib.hid (Below.over B4.out B4.out.size hB5); have X5 := Lib.hid (X4.out.below hB5); have EL6 := Lib.hid (EL4.out.below hB5); have EH6 := Lib.hid (EH4.out.below hB5); unfold rgV; clear hU eL eH hB5 C2 B4 X4 EL4 EH4)
        have NB6 := below_new w5 (.cells #[.int .i64 (kindV lo5), .int .i64 (kindV hi5), .bool Lo5.s, .slice Lo5.a Lo5.n Lo5.c, .slice Lo5.b Lo5.m Lo5.d, .bool Hi5.s, .slice Hi5.a Hi5.n Hi5.c, .slice Hi5.b Hi5.m Hi5.d] 33)
        have X6 : Hid (RgB (w5.alloc (.cells #[.int .i64 (kindV lo5), .int .i64 (kindV hi5), .bool Lo5.s, .slice Lo5.a Lo5.n Lo5.c, .slice Lo5.b Lo5.m Lo5.d, .bool Hi5.s, .slice Hi5.a Hi5.n Hi5.c, .slice Hi5.b Hi5.m Hi5.d] 33)) w5.heap.size (kindV lo5) (kindV hi5) Lo5 Hi5) := heap_alloc_new w5 _
        have X7 := Lib.hid (X5.out.below NB6)
        have B6 := Lib.hid (Below.over B5.out B5.out.size NB6)
        have EL7 := Lib.hid (EL6.out.below NB6)
        have EH7 := Lib.hid (EH6.out.below NB6)
        have EL8 := Lib.hid (EL5.out.below NB6)
        have EH8 := Lib.hid (EH5.out.below NB6)
        clear NB6 EL5 EH5 EL6 EH6 B5 X5
        generalize w5.alloc (.cells #[.int .i64 (kindV lo5), .int .i64 (kindV hi5), .bool Lo5.s, .slice Lo5.a Lo5.n Lo5.c, .slice Lo5.b Lo5.m Lo5.d, .bool Hi5.s, .slice Hi5.a Hi5.n Hi5.c, .slice Hi5.b Hi5.m Hi5.d] 33) = w6 at *
        obtain ⟨g6, hg6⟩ : ∃ g, w5.heap.size = g := ⟨_, rfl⟩
        rw [hg6] at X6 ⊢
        clear hg6
      · go_wp2_with (go_at_call 7; refine (ranged_any _).mono ?_; rintro e w9 ⟨rfl, B9⟩; have BW9 := Lib.hid (Below.over B6.out B6.out.size B9); clear B9)
        go_ret
        exact ⟨rfl, BW9.out⟩
      · have eS : Sol (lns r2) (min u.toNat 24) = Sol (lns r1) (min u.toNat 24) := by rw [R2.out (by trivial), R1.out (by trivial)]; exact sol_rev
        obtain ⟨rfl, rfl⟩ := U3.out.unique U5.out eS
        have C6 := sameR_any (l := kindV lo5) (h := kindV hi5) EL7.out EL8.out EH7.out EH8.out
        unfold rgV at C6
        have C6 := Lib.hid C6
        obtain ⟨x0, x1, x2, x3, x4, x5, x6, x7⟩ := X7.out.reads
        obtain ⟨y0, y1, y2, y3, y4, y5, y6, y7⟩ := X6.out.reads
        go_wp2_with (first
          | (go_at_call 6; refine C6.out.mono ?_; rintro e w7 ⟨rfl, B7⟩; have BW7 := Lib.hid (Below.over B6.out B6.out.size B7); clear B7 C6 x0 x1 x2 x3 x4 x5 x6 x7 y0 y1 y2 y3 y4 y5 y6 y7)
          | (go_at_call 7; refine (ranged_any _).mono ?_; rintro e w9 ⟨rfl, B9⟩; have BW9 := Lib.hid (Below.over BW7.out BW7.out.size B9); clear B9))
        go_ret
        exact ⟨rfl, BW9.out⟩
end Go.Proofs.Ytijdglogadnbcaa
