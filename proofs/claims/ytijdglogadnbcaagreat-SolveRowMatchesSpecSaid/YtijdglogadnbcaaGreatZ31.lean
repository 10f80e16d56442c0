/- slices.Repeat at []Value and []Number. Printed by genRq.py. -/
import Derived.Test.YtijdglogadnbcaaGreatZ27
import Derived.Test.YtijdglogadnbcaaGreatZ30
import Derived.Test.YtijdglogadnbcaaGreatZ20
import Derived.Deep.RegionLaw
import Derived.Test.YtijdglogadnbcaaGreatZ15
set_option linter.unusedVariables false
set_option linter.unusedSimpArgs false
set_option maxRecDepth 100000
set_option maxHeartbeats 40000000
namespace Go.Proofs.YtijdglogadnbcaaGreat
open Go.RowKit
theorem info174 : (Tryz.prog.info? 174).map (fun i => (i.zero, i.size, i.bytes)) = some (some (.agg #[.bool false, .slice none 0 0, .slice none 0 0, .bool false, .slice none 0 0, .slice none 0 0]), 6, 112) := by kernel_rfl
theorem hsz174 : (Tryz.prog.info? 174).map (·.size) = some 6 := by kernel_rfl
theorem repV_any {w : World} {g n : Nat} {M S : Nw} (h : VB w g M S) (hn : n ≤ 200) :
  Calls Tryz.prog 153 #[.slice (some ⟨g, 0, none⟩) 1 1, .int .i64 (n : Int)] w fun e w' => ∃ g2, e = .returned (.slice (some ⟨g2, 0, none⟩) n n) ∧ Laid w' g2 174 (M.cs ++ S.cs) n n ∧ w.heap.size ≤ g2 ∧ Below w.heap.size w w' := by
 obtain ⟨cs, hcs⟩ : ∃ cs : List Value, cs = M.cs ++ S.cs := ⟨_, rfl⟩
 have CL : Hid (cs.length = 6) := by show _ = _; rw [hcs]; rfl
 have CO : Hid (∀ v ∈ cs, v.oneCell' = true) := by
  show ∀ v ∈ cs, _
  rw [hcs]
  intro v hv
  simp [Nw.cs] at hv
  rcases hv with rfl | rfl | rfl | rfl | rfl | rfl <;> rfl
 have SRC : Hid (Laid w g 174 cs 1 1) := ⟨cs, by rw [hcs]; exact h, by rw [Nat.one_mul], by rw [Nat.one_mul, List.take_length]; simp [flat]⟩
 have GL : Hid (g < w.heap.size) := (Array.getElem?_eq_some_iff.1 h).1
 rw [← hcs]
 clear hcs h
 obtain ⟨i0, hi0, hz0, hz1, hz2⟩ := info_parts info174
 have n1 : (1 * n / 18446744073709551616 : Nat) = 0 := by omega
 have n2 : (1 * n % 18446744073709551616 : Nat) = n := by omega
 have BM := Tryz.bits_Mul 1 n (by omega) (by omega) w
 rw [n1, n2] at BM
 have BM := Lib.hid BM
 clear n1 n2
 have c1 : IntKind.u64.wrap (1 : Int) = 1 := by rw [IntKind.wrap_u64]; omega
 have c2 : IntKind.u64.wrap ((n : Nat) : Int) = (n : Int) := by rw [IntKind.wrap_u64]; omega
 have c3 : IntKind.i64.wrap ((n : Nat) : Int) = (n : Int) := by rw [IntKind.wrap_i64]; omega
 go_enter Tryz.func153, Tryz.ntmps153
 go_upto_region 6 with (go_at_call 182; refine BM.out.mono ?_; rintro e w9 ⟨rfl, hw⟩; rw [hw])
 go_upto_region 7 with (at_make; refine wpList_make_full _ rfl _ _ 214 rfl 0 174 i0 (.agg #[.bool false, .slice none 0 0, .slice none 0 0, .bool false, .slice none 0 0, .slice none 0 0]) 6 Tryz.underlying214 hi0 hz0 hz1 .i64 .i64 _ _ n rfl rfl (by omega) (by omega) (by rw [hz2]; omega) (by unfold maxLen; omega) (Nat.zero_le _) ?_; intro w1 hown1 hg1; have OW := Lib.hid hown1; have B1 := Lib.hid (below_grown hg1); clear hown1 hg1)
 obtain ⟨g2, hg2⟩ : ∃ g2, w.heap.size = g2 := ⟨_, rfl⟩
 have L0 : Hid (Laid w1 g2 174 cs n 0) := by
  obtain ⟨hl, hv⟩ := OW.out
  rcases hv with ⟨hv, _⟩ | ⟨g', cap, cur, hv, _, hgg, _, _, hcs, ht⟩
  ·simp at hv
  ·simp only [Value.slice.injEq, Option.some.injEq, Addr.mk.injEq] at hv
   obtain ⟨⟨e1, _⟩, _, e2⟩ := hv
   subst e2
   refine ⟨cur.toList, by rw [← hg2, e1]; exact hgg, by rw [CL.out]; simpa using hcs, by simp [flat]⟩
 have S1 := Lib.hid (SRC.out.later B1.out GL.out)
 have GE : Hid (w.heap.size ≤ g2) := Nat.le_of_eq hg2
 clear OW
 rw [hg2]
 obtain ⟨m0, hm0⟩ : ∃ m0, Nat.min 1 n = m0 := ⟨_, rfl⟩
 have m0n : m0 ≤ n := by rw [← hm0]; exact Nat.min_le_right _ _
 have m01 : m0 ≤ 1 := by rw [← hm0]; exact Nat.min_le_left _ _
 have mpos : 0 < n → 0 < m0 := fun h => by rw [← hm0]; exact Nat.lt_min.2 ⟨by omega, h⟩
 obtain ⟨cur, c1', c2', c3'⟩ := L0.out
 have C1 := Lib.hid c1'; have C2 := Lib.hid c2'; have C3 := Lib.hid c3'; have GR := Lib.hid (Below.refl w.heap.size w)
 have F0 : Hid (0 + (flat cs m0).length ≤ cur.length) := by show _ ≤ _; rw [flat_len, C2.out, Nat.zero_add]; exact Nat.mul_le_mul_right _ m0n
 have FO := Lib.hid (flat_one cs CO.out m0)
 have FL : Hid ((flat cs m0).length = m0 * 6) := by show _ = _; rw [flat_len, CL.out]
 have SR := Lib.hid (S1.out.src m01)
 clear c1' c2' c3' hg2
 go_upto_region 8 with (refine wpList_copy_wide rfl (.tmp 31) (.tmp 32) 214 214 rfl 174 6 Tryz.underlying214 hsz174 g2 0 n n ⟨g, 0, none⟩ 1 1 m0 rfl rfl hm0 cur 174 C1.out (flat cs m0) FL.out SR.out F0.out FO.out w.heap.size w B1.out GE.out ?_; intro w2 hg2' hb2 hs2; have HG2 := hg2'; have B2 := Lib.hid hb2; clear hg2' hb2 hs2)
 have L2 : Hid (Laid w2 g2 174 cs n m0) := by
  have e := laid_next (k := 0) (m := m0) C2.out C3.out (by omega)
  rw [Nat.zero_mul, Nat.zero_add] at e
  exact ⟨_, HG2.out, e⟩
 clear HG2 F0 FO FL SR C1 C2 C3 L0 S1 B1 GR hm0
 go_loopw [8] (fun v wr => ∃ k : Nat, k ≤ n ∧ (0 < n → 0 < k) ∧ v = .int .i64 (k : Int) ∧ Laid wr g2 174 cs n k ∧ Below w.heap.size w wr) (fun v _ => n - (intOf v).toNat)
 case atStart => exact ⟨m0, m0n, mpos, rfl, L2.out, B2.out⟩
 case round =>
  obtain ⟨k, hk, kpos, rfl, hL, hB⟩ := hrel
  have L3 := Lib.hid hL; have B3 := Lib.hid hB
  clear L2 B2 hL hB mpos m0n m01
  by_cases hlt : k < n
  ·have kp := kpos (by omega)
   obtain ⟨m, hm⟩ : ∃ m, Nat.min k (n - k) = m := ⟨_, rfl⟩
   have mk : m ≤ k := by rw [← hm]; exact Nat.min_le_left _ _
   have mn : k + m ≤ n := by have : m ≤ n - k := (by rw [← hm]; exact Nat.min_le_right _ _); omega
   have mp : 0 < m := by rw [← hm]; exact Nat.lt_min.2 ⟨kp, by omega⟩
   obtain ⟨cur, c1', c2', c3'⟩ := L3.out
   have C1 := Lib.hid c1'; have C2 := Lib.hid c2'; have C3 := Lib.hid c3'
   have F0 : Hid (k * 6 + (flat cs m).length ≤ cur.length) := by
    show _ ≤ _
    rw [flat_len, C2.out, CL.out, ← Nat.add_mul]; exact Nat.mul_le_mul_right _ mn
   have FO := Lib.hid (flat_one cs CO.out m)
   have FL : Hid ((flat cs m).length = m * 6) := by show _ = _; rw [flat_len, CL.out]
   have SR := Lib.hid (L3.out.src mk)
   clear c1' c2' c3'
   have k0 : (0 : Int) ≤ (k : Int) := by omega
   have k1 : (k : Int) ≤ (n : Int) := by omega
   go_upto_region 9 with fail
   have ne : ¬ (n = k) := by omega
   have wk : IntKind.i64.wrap ((k : Int) + (m : Int)) = ((k + m : Nat) : Int) := by rw [IntKind.wrap_i64]; omega
   go_region_law (refine step_copy_wide (by rfl) (.tmp 41) (.tmp 44) 214 214 (by rfl) 174 6 Tryz.underlying214 hsz174 g2 (k * 6) (n - k) (n - k) ⟨g2, 0, none⟩ k n m (by go_simp) (by go_simp) hm cur 174 C1.out (flat cs m) FL.out SR.out F0.out FO.out w.heap.size w B3.out.drew GE.out ?_; intro w4 hg4 hb4 hs4; have HG4 := hg4; have B4 := Lib.hid hb4; clear hg4 hb4 hs4)
   have L4 : Hid (Laid w4 g2 174 cs n (k + m)) := by
    have e := laid_next (k := k) (m := m) C2.out C3.out mn
    rw [CL.out] at e
    exact ⟨_, HG4.out, by rw [CL.out]; exact e.1, by rw [CL.out]; exact e.2⟩
   simp only [Act.put, List.getElem_toArray, List.getElem_cons_zero, List.getElem_cons_succ, List.setIfInBounds_toArray, List.set_cons_zero, List.set_cons_succ, wk]
   go_roundw
   case rel => exact ⟨_, _, _, _, _, _, _, _, _, _, _, _, _, _, ⟨k + m, mn, fun _ => by omega, by rw [Int.natCast_add], L4.out, B4.out⟩, rfl⟩
   case measure => simp [intOf]; omega
  ·obtain rfl : n = k := by omega
   go_wp2_with fail
   go_ret
   exact ⟨g2, rfl, L3.out, GE.out, B3.out⟩
theorem info25 : (Tryz.prog.info? 25).map (fun i => (i.zero, i.size, i.bytes)) = some (some (.agg #[.bool false, .slice none 0 0, .slice none 0 0]), 3, 56) := by kernel_rfl
theorem hsz25 : (Tryz.prog.info? 25).map (·.size) = some 3 := by kernel_rfl
theorem repN_any {w : World} {g n : Nat} {M : Nw} (h : NQ w g M) (hn : n ≤ 200) :
  Calls Tryz.prog 155 #[.slice (some ⟨g, 0, none⟩) 1 1, .int .i64 (n : Int)] w fun e w' => ∃ g2, e = .returned (.slice (some ⟨g2, 0, none⟩) n n) ∧ Laid w' g2 25 (M.cs) n n ∧ w.heap.size ≤ g2 ∧ Below w.heap.size w w' := by
 obtain ⟨cs, hcs⟩ : ∃ cs : List Value, cs = M.cs := ⟨_, rfl⟩
 have CL : Hid (cs.length = 3) := by show _ = _; rw [hcs]; rfl
 have CO : Hid (∀ v ∈ cs, v.oneCell' = true) := by
  show ∀ v ∈ cs, _
  rw [hcs]
  intro v hv
  simp [Nw.cs] at hv
  rcases hv with rfl | rfl | rfl <;> rfl
 have SRC : Hid (Laid w g 25 cs 1 1) := ⟨cs, by rw [hcs]; exact h, by rw [Nat.one_mul], by rw [Nat.one_mul, List.take_length]; simp [flat]⟩
 have GL : Hid (g < w.heap.size) := (Array.getElem?_eq_some_iff.1 h).1
 rw [← hcs]
 clear hcs h
 obtain ⟨i0, hi0, hz0, hz1, hz2⟩ := info_parts info25
 have n1 : (1 * n / 18446744073709551616 : Nat) = 0 := by omega
 have n2 : (1 * n % 18446744073709551616 : Nat) = n := by omega
 have BM := Tryz.bits_Mul 1 n (by omega) (by omega) w
 rw [n1, n2] at BM
 have BM := Lib.hid BM
 clear n1 n2
 have c1 : IntKind.u64.wrap (1 : Int) = 1 := by rw [IntKind.wrap_u64]; omega
 have c2 : IntKind.u64.wrap ((n : Nat) : Int) = (n : Int) := by rw [IntKind.wrap_u64]; omega
 have c3 : IntKind.i64.wrap ((n : Nat) : Int) = (n : Int) := by rw [IntKind.wrap_i64]; omega
 go_enter Tryz.func155, Tryz.ntmps155
 go_upto_region 6 with (go_at_call 182; refine BM.out.mono ?_; rintro e w9 ⟨rfl, hw⟩; rw [hw])
 go_upto_region 7 with (at_make; refine wpList_make_full _ rfl _ _ 83 rfl 0 25 i0 (.agg #[.bool false, .slice none 0 0, .slice none 0 0]) 3 Tryz.underlying83 hi0 hz0 hz1 .i64 .i64 _ _ n rfl rfl (by omega) (by omega) (by rw [hz2]; omega) (by unfold maxLen; omega) (Nat.zero_le _) ?_; intro w1 hown1 hg1; have OW := Lib.hid hown1; have B1 := Lib.hid (below_grown hg1); clear hown1 hg1)
 obtain ⟨g2, hg2⟩ : ∃ g2, w.heap.size = g2 := ⟨_, rfl⟩
 have L0 : Hid (Laid w1 g2 25 cs n 0) := by
  obtain ⟨hl, hv⟩ := OW.out
  rcases hv with ⟨hv, _⟩ | ⟨g', cap, cur, hv, _, hgg, _, _, hcs, ht⟩
  ·simp at hv
  ·simp only [Value.slice.injEq, Option.some.injEq, Addr.mk.injEq] at hv
   obtain ⟨⟨e1, _⟩, _, e2⟩ := hv
   subst e2
   refine ⟨cur.toList, by rw [← hg2, e1]; exact hgg, by rw [CL.out]; simpa using hcs, by simp [flat]⟩
 have S1 := Lib.hid (SRC.out.later B1.out GL.out)
 have GE : Hid (w.heap.size ≤ g2) := Nat.le_of_eq hg2
 clear OW
 rw [hg2]
 obtain ⟨m0, hm0⟩ : ∃ m0, Nat.min 1 n = m0 := ⟨_, rfl⟩
 have m0n : m0 ≤ n := by rw [← hm0]; exact Nat.min_le_right _ _
 have m01 : m0 ≤ 1 := by rw [← hm0]; exact Nat.min_le_left _ _
 have mpos : 0 < n → 0 < m0 := fun h => by rw [← hm0]; exact Nat.lt_min.2 ⟨by omega, h⟩
 obtain ⟨cur, c1', c2', c3'⟩ := L0.out
 have C1 := Lib.hid c1'; have C2 := Lib.hid c2'; have C3 := Lib.hid c3'; have GR := Lib.hid (Below.refl w.heap.size w)
 have F0 : Hid (0 + (flat cs m0).length ≤ cur.length) := by show _ ≤ _; rw [flat_len, C2.out, Nat.zero_add]; exact Nat.mul_le_mul_right _ m0n
 have FO := Lib.hid (flat_one cs CO.out m0)
 have FL : Hid ((flat cs m0).length = m0 * 3) := by show _ = _; rw [flat_len, CL.out]
 have SR := Lib.hid (S1.out.src m01)
 clear c1' c2' c3' hg2
 go_upto_region 8 with (refine wpList_copy_wide rfl (.tmp 31) (.tmp 32) 83 83 rfl 25 3 Tryz.underlying83 hsz25 g2 0 n n ⟨g, 0, none⟩ 1 1 m0 rfl rfl hm0 cur 25 C1.out (flat cs m0) FL.out SR.out F0.out FO.out w.heap.size w B1.out GE.out ?_; intro w2 hg2' hb2 hs2; have HG2 := hg2'; have B2 := Lib.hid hb2; clear hg2' hb2 hs2)
 have L2 : Hid (Laid w2 g2 25 cs n m0) := by
  have e := laid_next (k := 0) (m := m0) C2.out C3.out (by omega)
  rw [Nat.zero_mul, Nat.zero_add] at e
  exact ⟨_, HG2.out, e⟩
 clear HG2 F0 FO FL SR C1 C2 C3 L0 S1 B1 GR hm0
 go_loopw [8] (fun v wr => ∃ k : Nat, k ≤ n ∧ (0 < n → 0 < k) ∧ v = .int .i64 (k : Int) ∧ Laid wr g2 25 cs n k ∧ Below w.heap.size w wr) (fun v _ => n - (intOf v).toNat)
 case atStart => exact ⟨m0, m0n, mpos, rfl, L2.out, B2.out⟩
 case round =>
  obtain ⟨k, hk, kpos, rfl, hL, hB⟩ := hrel
  have L3 := Lib.hid hL; have B3 := Lib.hid hB
  clear L2 B2 hL hB mpos m0n m01
  by_cases hlt : k < n
  ·have kp := kpos (by omega)
   obtain ⟨m, hm⟩ : ∃ m, Nat.min k (n - k) = m := ⟨_, rfl⟩
   have mk : m ≤ k := by rw [← hm]; exact Nat.min_le_left _ _
   have mn : k + m ≤ n := by have : m ≤ n - k := (by rw [← hm]; exact Nat.min_le_right _ _); omega
   have mp : 0 < m := by rw [← hm]; exact Nat.lt_min.2 ⟨kp, by omega⟩
   obtain ⟨cur, c1', c2', c3'⟩ := L3.out
   have C1 := Lib.hid c1'; have C2 := Lib.hid c2'; have C3 := Lib.hid c3'
   have F0 : Hid (k * 3 + (flat cs m).length ≤ cur.length) := by
    show _ ≤ _
    rw [flat_len, C2.out, CL.out, ← Nat.add_mul]; exact Nat.mul_le_mul_right _ mn
   have FO := Lib.hid (flat_one cs CO.out m)
   have FL : Hid ((flat cs m).length = m * 3) := by show _ = _; rw [flat_len, CL.out]
   have SR := Lib.hid (L3.out.src mk)
   clear c1' c2' c3'
   have k0 : (0 : Int) ≤ (k : Int) := by omega
   have k1 : (k : Int) ≤ (n : Int) := by omega
   go_upto_region 9 with fail
   have ne : ¬ (n = k) := by omega
   have wk : IntKind.i64.wrap ((k : Int) + (m : Int)) = ((k + m : Nat) : Int) := by rw [IntKind.wrap_i64]; omega
   go_region_law (refine step_copy_wide (by rfl) (.tmp 41) (.tmp 44) 83 83 (by rfl) 25 3 Tryz.underlying83 hsz25 g2 (k * 3) (n - k) (n - k) ⟨g2, 0, none⟩ k n m (by go_simp) (by go_simp) hm cur 25 C1.out (flat cs m) FL.out SR.out F0.out FO.out w.heap.size w B3.out.drew GE.out ?_; intro w4 hg4 hb4 hs4; have HG4 := hg4; have B4 := Lib.hid hb4; clear hg4 hb4 hs4)
   have L4 : Hid (Laid w4 g2 25 cs n (k + m)) := by
    have e := laid_next (k := k) (m := m) C2.out C3.out mn
    rw [CL.out] at e
    exact ⟨_, HG4.out, by rw [CL.out]; exact e.1, by rw [CL.out]; exact e.2⟩
   simp only [Act.put, List.getElem_toArray, List.getElem_cons_zero, List.getElem_cons_succ, List.setIfInBounds_toArray, List.set_cons_zero, List.set_cons_succ, wk]
   go_roundw
   case rel => exact ⟨_, _, _, _, _, _, _, _, _, _, _, _, _, _, ⟨k + m, mn, fun _ => by omega, by rw [Int.natCast_add], L4.out, B4.out⟩, rfl⟩
   case measure => simp [intOf]; omega
  ·obtain rfl : n = k := by omega
   go_wp2_with fail
   go_ret
   exact ⟨g2, rfl, L3.out, GE.out, B3.out⟩
end Go.Proofs.YtijdglogadnbcaaGreat
namespace Go.Proofs.YtijdglogadnbcaaGreat
open Go.RowKit Nt
theorem vplain_raw (w : World) (M : Nw) : Calls Tryz.prog 154 #[.agg #[.bool M.s, .slice M.a M.n M.c, .slice M.b M.m M.d]] w fun e w' => ∃ S : Nw, e = .returned (.agg #[.bool M.s, .slice M.a M.n M.c, .slice M.b M.m M.d, .bool S.s, .slice S.a S.n S.c, .slice S.b S.m S.d]) ∧ RA w' 0 S ∧ Below w.heap.size w w' := by
 have B0 : Hid (Below w.heap.size w ((w.alloc (.cells #[.bool M.s, .slice M.a M.n M.c, .slice M.b M.m M.d] 25)).alloc (.cells #[.bool false, .slice none 0 0, .slice none 0 0, .bool false, .slice none 0 0, .slice none 0 0] 174))) := (below_new _ _).alloc (by simp) _
 have X1 : Hid (NQ ((w.alloc (.cells #[.bool M.s, .slice M.a M.n M.c, .slice M.b M.m M.d] 25)).alloc (.cells #[.bool false, .slice none 0 0, .slice none 0 0, .bool false, .slice none 0 0, .slice none 0 0] 174)) w.heap.size M) := by
  show NQ _ _ _
  unfold NQ
  rw [Below.heap_alloc _ _ _ (by simp)]; exact heap_alloc_new w _
 have X3 : Hid (VB ((w.alloc (.cells #[.bool M.s, .slice M.a M.n M.c, .slice M.b M.m M.d] 25)).alloc (.cells #[.bool false, .slice none 0 0, .slice none 0 0, .bool false, .slice none 0 0, .slice none 0 0] 174)) (w.heap.size + 1) Nw.zero Nw.zero) := by
  have := heap_alloc_new (w.alloc (.cells #[.bool M.s, .slice M.a M.n M.c, .slice M.b M.m M.d] 25)) (.cells #[.bool false, .slice none 0 0, .slice none 0 0, .bool false, .slice none 0 0, .slice none 0 0] 174)
  rwa [show (w.alloc (.cells #[.bool M.s, .slice M.a M.n M.c, .slice M.b M.m M.d] 25)).heap.size = w.heap.size + 1 from by simp] at this
 go_enter Tryz.func154, Tryz.ntmps154
 go_upto_region 1 with fail
 generalize (w.alloc (.cells #[.bool M.s, .slice M.a M.n M.c, .slice M.b M.m M.d] 25)).alloc (.cells #[.bool false, .slice none 0 0, .slice none 0 0, .bool false, .slice none 0 0, .slice none 0 0] 174) = W0 at *
 obtain ⟨u0, u1, u2, _⟩ := X1.out.reads
 have N1 := Lib.hid (rint_any 0 (by omega) (by omega) W0.drew)
 go_region_held3 (fun W => W.cell? ⟨w.heap.size, 0, none⟩ = some (.bool M.s) ∧ W.cell? ⟨w.heap.size, 1, none⟩ = some (.slice M.a M.n M.c) ∧ W.cell? ⟨w.heap.size, 2, none⟩ = some (.slice M.b M.m M.d))
  (first
   | with_reducible exact ⟨u0, u1, u2⟩
   | with_reducible exact ⟨y0, y1, y2⟩
   | exact nq3 (H1.out.k6 (by omega) _ _ _ _ _ _)
   | go_keep)
  ((go_at_call 72; ((with_reducible refine N1.out.mono ?_)); go_loud (rintro e w6 ⟨s6, a6, n6, c6, b6, m6, d6, rfl, L6, B6⟩; have B6 := undrew B6; have K1 : NQ w6 w.heap.size M := X1.out.later B6 X1.out.lt; have K3 : VB w6 (w.heap.size + 1) Nw.zero Nw.zero := X3.out.later B6 X3.out.lt; obtain ⟨y0, y1, y2, _⟩ := K1.reads; obtain ⟨z0, z1, z2, z3, z4, z5, f⟩ := K3.reads; have f0 := f 0; have f1 := f 1; have f2 := f 2; have f3 := f 3; have f4 := f 4; have f5 := f 5; have lt6 := K3.lt; clear f; have K3 := Lib.hid K3; have L6 := Lib.hid L6; have B06 := Lib.hid (Below.over B0.out B0.out.size B6); have H1 := Lib.hid K1; clear B6)))
 go_wp2_with fail
 exact bodyPost_ret (v := .agg #[.bool M.s, .slice M.a M.n M.c, .slice M.b M.m M.d, .bool s6, .slice a6 n6 c6, .slice b6 m6 d6]) (by simp [results, Tryz.results154, go_sem, z0, z1, z2, z3, z4, z5]) rfl ⟨⟨s6, a6, n6, c6, b6, m6, d6⟩, rfl, RA.limb (N := ⟨s6, a6, n6, c6, b6, m6, d6⟩) L6.out (K3.out.limb (K3.out.wr (M := M) (S := ⟨s6, a6, n6, c6, b6, m6, d6⟩))), (K3.out.wr (M := M) (S := ⟨s6, a6, n6, c6, b6, m6, d6⟩)).bel _ _ (by omega) B06.out⟩
end Go.Proofs.YtijdglogadnbcaaGreat
namespace Go.Proofs.YtijdglogadnbcaaGreat
open Go.RowKit Nt Bl
def FreshB (n0 : Nat) (w : World) (N g : Nat) : Prop := BndR 222 w g N (fun _ => none) ∧ n0 ≤ g
theorem FreshB.below {n0 : Nat} {w w' : World} {N g : Nat} (h : FreshB n0 w N g) (hb : Below w.heap.size w w') : FreshB n0 w' N g := ⟨h.1.keep (hb.block _ h.1.blk.lt) (Limb.of_below hb), h.2⟩
theorem Pt.newLine' {n0 : Nat} {w w1 : World} {Z : PtL} {g : Nat} (h : Pt n0 w Z) (hb : Below w.heap.size w w1) (hg : w.heap.size ≤ g) (hl : LineR w1 g Z.n (Z.T Z.nl)) (hn : n0 ≤ w.heap.size) (hit : Z.it ≤ Z.nl) : Pt n0 w1 { Z with nl := Z.nl + 1, line := fun k => if k = Z.nl then g else Z.line k } := by
 have k := h.newLine hb hg hl hn hit
 have e : (fun k => if k = Z.nl then Z.T Z.nl else Z.T k) = Z.T := by
  funext j
  by_cases q : j = Z.nl
  ·rw [if_pos q, q]
  ·rw [if_neg q]
 rw [e] at k
 exact k
theorem info83 : (Tryz.prog.info? 83).map (fun i => (i.zero, i.size, i.bytes)) = some (some (.slice none 0 0), 1, 24) := by kernel_rfl
theorem limb_set {w : World} {g i : Nat} {v old : Value} (h : w.cell? ⟨g, i, none⟩ = some old) (hn : Nu old) : Limb w (w.setCell ⟨g, i, none⟩ v) := by
 have hw := wr_cells w g i [v] fun j hj => by
  obtain rfl : j = 0 := by simpa using hj
  rw [Nat.add_zero, h]; rfl
 exact hw.limb fun j x hj => by
  obtain rfl : j = 0 := by simpa using hj
  rw [Nat.add_zero, h]
  exact fun e => hn x (Option.some.inj e)
theorem Ow.nuv {w : World} {base e size n : Nat} {v : Value} {xs : List Value} (h : Ow w base e size v n xs) : Nu v := by
 rcases h.own.2 with ⟨rfl, _⟩ | ⟨g, cap, cur, rfl, _⟩ <;> intro x hx <;> simp at hx
theorem nu_int (x : Int) : Nu (.int .i64 x) := fun y h => by simp at h
theorem nu_slice (a : Option Addr) (n c : Nat) : Nu (.slice a n c) := fun y h => by simp at h
variable {n0 : Nat} {w W : World} {Z : PtL}
theorem Pt.setB {v : Value} (h : Pt n0 w Z) (hn : Nu Z.hb) : Pt n0 (w.setCell ⟨Z.p, 4, none⟩ v) { Z with hb := v } := by
 refine h.hold (fun b hb => heap_setCell_other _ _ _ _ hb) (limb_set h.head.2.2.2.2.1 hn) rfl ?_ (by simp) ⟨rfl, rfl, rfl⟩
 have := heap_setCell_same w Z.p 4 _ _ v h.hd
 simpa using this
theorem Pt.setF {v : Value} (h : Pt n0 w Z) (hn : Nu Z.hf) : Pt n0 (w.setCell ⟨Z.p, 5, none⟩ v) { Z with hf := v } := by
 refine h.hold (fun b hb => heap_setCell_other _ _ _ _ hb) (limb_set h.head.2.2.2.2.2.1 hn) rfl ?_ (by simp) ⟨rfl, rfl, rfl⟩
 have := heap_setCell_same w Z.p 5 _ _ v h.hd
 simpa using this
theorem Pt.setT {v : Value} (h : Pt n0 w Z) (hn : Nu Z.ht) : Pt n0 (w.setCell ⟨Z.p, 6, none⟩ v) { Z with ht := v } := by
 refine h.hold (fun b hb => heap_setCell_other _ _ _ _ hb) (limb_set h.head.2.2.2.2.2.2.1 hn) rfl ?_ (by simp) ⟨rfl, rfl, rfl⟩
 have := heap_setCell_same w Z.p 6 _ _ v h.hd
 simpa using this
/-- From W on, the problem has been built on; other blocks than the two rows' stay. -/
structure S19 (n0 : Nat) (W cur : World) (Z : PtL) : Prop where
 pt : Pt n0 cur Z
 bl : Below n0 W cur
 sz : W.heap.size ≤ cur.heap.size
 ot : ∀ b ty, Blk W b ty → ty ≠ 3 → ty ≠ 83 → cur.heap[b]? = W.heap[b]?
theorem S19.later {cur nxt : World} (h : S19 n0 W cur Z) (hn : n0 ≤ W.heap.size) (hb : Below cur.heap.size cur nxt) : S19 n0 W nxt Z :=
 ⟨h.pt.below hb, Below.trans h.bl (hb.mono (Nat.le_trans hn h.sz)), Nat.le_trans h.sz hb.size, fun b ty q h1 h2 => (hb.block b (Nat.lt_of_lt_of_le q.lt h.sz)).trans (h.ot b ty q h1 h2)⟩
theorem S19.appB {cur nxt : World} {bv' : Value} (h : S19 n0 W cur Z) (hn : n0 ≤ W.heap.size) (O : Ow nxt n0 3 1 bv' (Z.ib + 1) (ints Z.n (Z.ib + 1))) (G : cur.grownBy nxt Z.bv.ownBlock) (far : ∀ g, bv'.ownBlock = some g → Z.bv.ownBlock = some g ∨ cur.heap.size ≤ g) : S19 n0 W nxt { Z with bv := bv', ib := Z.ib + 1 } := by
 refine ⟨h.pt.appB O G fun g q e => ?_, below_own h.bl h.pt.bo.own (Nat.le_trans hn h.sz) G, Nat.le_trans h.sz G.size, fun b ty q h1 h2 => ?_⟩
 ·rcases far g q with r | r
  ·exact h.pt.bf g r e
  ·have := (h.pt.fo.blk e).lt; omega
 ·have qc : Blk cur b ty := q.keep (h.ot b ty q h1 h2)
  exact (Pt.oth h.pt.bo G qc h1).trans (h.ot b ty q h1 h2)
theorem S19.appT {cur nxt : World} {tv' : Value} (h : S19 n0 W cur Z) (hn : n0 ≤ W.heap.size) (O : Ow nxt n0 83 1 tv' (Z.it + 1) (lnV Z.line Z.n (Z.it + 1))) (G : cur.grownBy nxt Z.tv.ownBlock) : S19 n0 W nxt { Z with tv := tv', it := Z.it + 1 } := by
 refine ⟨h.pt.appT O G, below_own h.bl h.pt.to_.own (Nat.le_trans hn h.sz) G, Nat.le_trans h.sz G.size, fun b ty q h1 h2 => ?_⟩
 have qc : Blk cur b ty := q.keep (h.ot b ty q h1 h2)
 exact (Pt.oth h.pt.to_ G qc h2).trans (h.ot b ty q h1 h2)
theorem BndR.wr {w : World} {g N v : Nat} {f : Nat → Option V} (h : BndR 222 w g N f) (hv : v < N) (M S : Nw) : Wr w (w.setCells g (v * 7) (.bool true :: (M.cs ++ S.cs))) g (v * 7) (.bool true :: (M.cs ++ S.cs)) := by
 obtain ⟨is, M', S', _, a0, a1, a2, a3, a4, a5, a6⟩ := (h.at_ v hv).r7
 refine wr_cells w g _ _ fun j hj => ?_
 have hj : j < 7 := by simpa [Nw.cs] using hj
 rcases j with _ | _ | _ | _ | _ | _ | _ | j
 ·rw [Nat.add_zero, a0]; rfl
 ·rw [show v * 7 + (0 + 1) = v * 7 + 1 from rfl, a1]; rfl
 ·rw [show v * 7 + (0 + 1 + 1) = v * 7 + 2 from rfl, a2]; rfl
 ·rw [show v * 7 + (0 + 1 + 1 + 1) = v * 7 + 3 from rfl, a3]; rfl
 ·rw [show v * 7 + (0 + 1 + 1 + 1 + 1) = v * 7 + 4 from rfl, a4]; rfl
 ·rw [show v * 7 + (0 + 1 + 1 + 1 + 1 + 1) = v * 7 + 5 from rfl, a5]; rfl
 ·rw [show v * 7 + (0 + 1 + 1 + 1 + 1 + 1 + 1) = v * 7 + 6 from rfl, a6]; rfl
 ·omega
theorem setCells_frame {g : Nat} : ∀ (vs : List Value) (o : Nat) (w : World), w.heap.size = (w.setCells g o vs).heap.size ∧ (w.setCells g o vs).os = w.os ∧ (w.setCells g o vs).tape = w.tape ∧ (w.setCells g o vs).output = w.output
 | [], _, _ => ⟨rfl, rfl, rfl, rfl⟩
 | v :: vs, o, w => by
  obtain ⟨a, b, c, d⟩ := setCells_frame (g := g) vs (o + 1) (w.setCell ⟨g, o, none⟩ v)
  exact ⟨by rw [show w.setCells g o (v :: vs) = (w.setCell ⟨g, o, none⟩ v).setCells g (o + 1) vs from rfl, ← a]; simp, b, c, d⟩
end Go.Proofs.YtijdglogadnbcaaGreat
