/- fetterlocklaw6.ranged returns true. -/
import Derived.Test.YtijdglogadnbcaaZ47
import Derived.Test.YtijdglogadnbcaaZ43
import Derived.Test.YtijdglogadnbcaaZ40
import Derived.Test.YtijdglogadnbcaaZ41
set_option linter.unusedVariables false
set_option linter.unusedSimpArgs false
set_option maxRecDepth 100000
set_option maxHeartbeats 40000000
namespace Go.Proofs.Ytijdglogadnbcaa
open Go.RowKit Nt Bl
theorem ex_row : rowN (1 : Nat) 2 [⟨0, ⟨false, [2], [1]⟩⟩] ⟨false, [5], [1]⟩ = 0 := by decide
theorem ex_sum : rowN (1 : Nat) 3 [⟨0, ⟨false, [1], [1]⟩⟩] ⟨false, [], [1]⟩ = 0 := by decide
theorem raw2 : rawQ ⟨false, [2], [1]⟩ = 2 := by decide
theorem raw5 : rawQ ⟨false, [5], [1]⟩ = 5 := by decide
theorem raw1 : rawQ ⟨false, [1], [1]⟩ = 1 := by decide
theorem ex_rowQ : rowQ 2 [⟨0, ⟨false, [2], [1]⟩⟩] ⟨false, [5], [1]⟩ = ⟨[(0, 2)], 2, 5⟩ := by
 show (⟨[((0 : Int).toNat, rawQ ⟨false, [2], [1]⟩)], 2, rawQ ⟨false, [5], [1]⟩⟩ : Rl) = _
 rw [raw2, raw5]; rfl
theorem ex_cfq : cfq [⟨0, ⟨false, [1], [1]⟩⟩] = [(0, 1)] := by
 show [((0 : Int).toNat, rawQ ⟨false, [1], [1]⟩)] = _
 rw [raw1]; rfl
theorem raw_nat {w : World} {x : Nat} {s : Bool} {a b : Option Addr} {n c m d : Nat} (h0 : 0 < x) (h1 : x < 4294967296) (h : RAt w (((x : Nat) : Int) : Rat) s a n c b m d) : s = false ∧ RwAt w ⟨false, [x], [1]⟩ a n c b m d := by
 refine ⟨?_, ?_, ?_⟩
 ·rw [h.sg]
  rw [show (((x : Nat) : Int) : Rat).num = (x : Int) from rfl]
  simp
 ·have := h.num
  rwa [show (((x : Nat) : Int) : Rat).num.natAbs = x from rfl, toL_pos (by omega), show x % 4294967296 = x from Nat.mod_eq_of_lt h1, show x / 4294967296 = 0 from Nat.div_eq_of_lt h1, Nt.toL_zero] at this
 ·have := h.den
  rwa [show (((x : Nat) : Int) : Rat).den = 1 from rfl, show toL 1 = [1] from by rw [toL_pos (by omega)]; simp [Nt.toL_zero]] at this
/-- One coefficient in memory. -/
theorem one_cf {w : World} {g : Nat} {R : Raw} {a b : Option Addr} {n c m d : Nat} (hb : w.heap[g]? = some (.cells #[.int .i64 0, .bool R.neg, .slice a n c, .slice b m d] 54 (0, 0))) (r : RwAt w R a n c b m d) : CfAt w [⟨0, R⟩] (some ⟨g, 0, none⟩) := by
 intro _
 refine ⟨g, 0, rfl, fun i hi => ?_⟩
 obtain rfl : i = 0 := by simpa using hi
 refine ⟨a, n, c, b, m, d, ?_, ?_, ?_, ?_, r⟩
 ·rw [cell_of_row w g _ _ _ _ hb]; rfl
 ·rw [cell_of_row w g _ _ _ _ hb]; rfl
 ·rw [cell_of_row w g _ _ _ _ hb]; rfl
 ·rw [cell_of_row w g _ _ _ _ hb]; rfl
/-! Beside a system's block. -/
section
variable {w w' : World} {p n m c m' c' : Nat} {a a' : Option Addr}
theorem SyB.cellv (h : SyB w p n (.slice a m c) (.slice a' m' c')) {o : Nat} {v : Value} (e : w.cell? ⟨p, o, none⟩ = some v) : (∃ x, v = .int .i64 x) ∨ ∃ a m c, v = .slice a m c := by
 rw [cell_of_row w p o _ _ _ h] at e
 rcases o with _ | _ | _ | o
 ·left; simp at e; exact ⟨_, e.symm⟩
 ·right; simp at e; exact ⟨_, _, _, e.symm⟩
 ·right; simp at e; exact ⟨_, _, _, e.symm⟩
 ·simp at e
theorem SyB.limb (h : SyB w p n (.slice a m c) (.slice a' m' c')) (hw : ∀ b, b ≠ p → w'.heap[b]? = w.heap[b]?) : Limb w w' :=
 limb_oth hw fun o x e => by rcases h.cellv e with ⟨y, q⟩ | ⟨_, _, _, q⟩ <;> simp at q
theorem SyB.nobool (h : SyB w p n (.slice a m c) (.slice a' m' c')) {g o : Nat} {x : Bool} (e : w.cell? ⟨g, o, none⟩ = some (.bool x)) : g ≠ p := fun q => by
 subst q
 rcases h.cellv e with ⟨y, q⟩ | ⟨_, _, _, q⟩ <;> simp at q
theorem QfAt.beside {l : List (Nat × Rat)} {ca : Option Addr} (x : QfAt w l ca) (h : SyB w p n (.slice a m c) (.slice a' m' c')) (hw : ∀ b, b ≠ p → w'.heap[b]? = w.heap[b]?) : QfAt w' l ca := by
 intro hne
 obtain ⟨g, o, e, k⟩ := x hne
 refine ⟨g, o, e, fun i hi => ?_⟩
 obtain ⟨N, c0, c1, c2, c3, r⟩ := k i hi
 have gp := h.nobool c1
 exact ⟨N, (cells_same (hw g gp) _).trans c0, (cells_same (hw g gp) _).trans c1, (cells_same (hw g gp) _).trans c2, (cells_same (hw g gp) _).trans c3, RA.limb r (h.limb hw)⟩
theorem RlsAt.beside {l : List Rl} {ra : Option Addr} (x : RlsAt w l ra) (h : SyB w p n (.slice a m c) (.slice a' m' c')) (hw : ∀ b, b ≠ p → w'.heap[b]? = w.heap[b]?) : RlsAt w' l ra := by
 obtain ⟨vs, ⟨v1, v2⟩, k⟩ := x
 refine ⟨vs, ⟨v1, fun i hi => ?_⟩, fun hne => ?_⟩
 ·obtain ⟨ca, cc, N, q, r⟩ := v2 i hi
  exact ⟨ca, cc, N, q, r.co.beside h hw, r.le, r.cap, RA.limb r.bd (h.limb hw)⟩
 ·obtain ⟨g, o, e, j⟩ := k hne
  have hl : 0 < l.length := List.length_pos_iff.2 hne
  obtain ⟨ca, cc, N, q, r⟩ := v2 0 hl
  have q2 := q 2 (by omega)
  have c2 := j (0 * 5 + 2) (.bool N.s) q2
  have gp := h.nobool c2
  exact ⟨g, o, e, fun i u hu => (cells_same (hw g gp) _).trans (j i u hu)⟩
end
theorem five_half : (5 / 2 : Rat) = mkRat 5 2 := by rw [Rat.mkRat_eq_div]; rfl
theorem lit_ra {w : World} {a b : Option Addr} (h : LAt w [5] a 1 1) (k : LAt w [2] b 1 1) : RA w (5 / 2) ⟨false, a, 1, 1, b, 1, 1⟩ := by
 rw [five_half]
 refine ⟨?_, ?_, ?_⟩
 ·show false = decide ((mkRat 5 2).num < 0); decide
 ·rw [show (mkRat 5 2).num.natAbs = 5 from by decide, show toL 5 = [5] from by rw [toL_pos (by omega)]; simp [Nt.toL_zero]]; exact h
 ·rw [show (mkRat 5 2).den = 2 from by decide, show toL 2 = [2] from by rw [toL_pos (by omega)]; simp [Nt.toL_zero]]; exact k
theorem oneL {w : World} {g ty x : Nat} (h : w.heap[g]? = some (.cells #[.int .u32 (x : Int)] ty (0, 0))) (hx : x < 4294967296) : LAt w [x] (some ⟨g, 0, none⟩) 1 1 := by
 refine ⟨fun _ => ⟨g, 0, rfl, fun i hi => ?_⟩, rfl, Nat.le_refl _, by omega, fun y hy => by simp at hy; omega⟩
 obtain rfl : i = 0 := by simpa using hi
 rw [cell_of_row w g _ _ _ _ h]; rfl
theorem ex_good : ∀ i, i < exS.length → (rq exS i).Good 1 := fun i hi => by
 obtain rfl : i = 0 := by simpa [exS] using hi
 refine ⟨⟨by simp [exS, rq], fun j hj => ?_⟩, ?_⟩
 ·obtain rfl : j = 0 := by simpa [exS, rq] using hj
  exact ⟨by simp [exS, rq, cq], by show SmQ 2; unfold SmQ; decide⟩
 ·show SmQ 5; unfold SmQ; decide
theorem ex_post {w : World} {p g : Nat} {a5 b5 : Option Addr} {n5 c5 m5 d5 : Nat} (hS : SyB w p 1 (.slice none 0 0) (.slice none 0 0)) (hl : CfAt w [⟨0, ⟨false, [2], [1]⟩⟩] (some ⟨g, 0, none⟩)) (hB : RwAt w ⟨false, [5], [1]⟩ a5 n5 c5 b5 m5 d5) :
  Calls Try.prog 10 #[.pointer (some ⟨p, 0, none⟩), .agg #[.slice (some ⟨g, 0, none⟩) 1 1, .int .i64 2, .bool false, .slice a5 n5 c5, .slice b5 m5 d5]] w fun e w' => e = .returned (.int .i64 0) ∧ (∃ ra rc, SyR w' p 1 1 rc ra (.slice none 0 0) exS) ∧ ∀ k, k ≤ p → k ≤ w.heap.size → Below k w w' := by
 refine (post_gen (okb := true) (nc := 1) (cc := 1) (rows := []) (m := 0) (rc := 0) (ra := none) (mv := .slice none 0 0) (rel := 2) hS ⟨[], RlV.nil w, fun h => absurd rfl h⟩ rfl (by omega) (by omega) (by omega) (by omega) hl hB rfl (by omega) (by omega) ?_).mono ?_
 ·intro _ _ W ra' rc' hR
  rw [ex_rowQ] at hR
  refine (lpf_yes (n := 1) (m := 1) (rc := rc') (rows := exS) ⟨hR, rfl, QfAt.nil _ _, ⟨Nat.le_refl _, by omega⟩, by omega, by omega, ex_good, GoodC.nil 1⟩ ex_sol).mono ?_
  rintro e w' ⟨rfl, hb⟩
  exact ⟨_, rfl, hb⟩
 ·rintro e w' (⟨h, _⟩ | ⟨_, h, _⟩ | ⟨_, _, h, _⟩ | ⟨_, _, _, rfl, w1, ra', rc', B1, RL1, h1, h2, rfl⟩)
  ·exact absurd ex_row h
  ·omega
  ·simp at h
  ·rw [ex_rowQ] at RL1
   have S1 := hS.below B1
   have O1 := fun c (hc : c ≠ p) => heap_setCell_other w1 ⟨p, 1, none⟩ c (.slice ra' (0 + 1) rc') hc
   exact ⟨rfl, ⟨ra', rc', S1.set1 _, RL1.beside S1 O1, rfl, by omega, h2, by omega, by omega, ex_good, ex_sol⟩, fun k hk hk2 => (B1.mono hk2).setCell hk _⟩
theorem ex_range {w : World} {p rc g : Nat} {ra : Option Addr} {mv : Value} (h : SyR w p 1 1 rc ra mv exS) (hl : CfAt w [⟨0, ⟨false, [1], [1]⟩⟩] (some ⟨g, 0, none⟩)) :
  Calls Try.prog 5 #[.pointer (some ⟨p, 0, none⟩), .slice (some ⟨g, 0, none⟩) 1 1] w fun e w' => ∃ Hi Lo : Nw, e = .returned (.tuple #[.agg #[.int .i64 0, .int .i64 2, .bool Lo.s, .slice Lo.a Lo.n Lo.c, .slice Lo.b Lo.m Lo.d, .bool Hi.s, .slice Hi.a Hi.n Hi.c, .slice Hi.b Hi.m Hi.d], .int .i64 0]) ∧ RA w' (5 / 2) Hi ∧ Below w.heap.size w w' := by
 refine (range_any (nc := 1) (cc := 1) h hl rfl (by omega) (by omega)).mono ?_
 rintro e w' (⟨h, _⟩ | ⟨_, u, v, Hi, Lo, hu, hv, rfl, eL, eH, hb⟩)
 ·exact absurd ex_sum h
 ·rw [ex_cfq] at hu hv
  obtain rfl := hu.unique ex_high
  obtain rfl := hv.unique ex_low
  exact ⟨Hi, Lo, rfl, eH, hb⟩
theorem ranged_any (w : World) : Calls Try.prog 7 #[] w fun e w' => e = .returned (.bool true) ∧ Below w.heap.size w w' := by
 go_enter Try.func7, Try.ntmps7
 go_upto_region 2 with (go_at_call 8; refine (snew_any _).mono ?_; rintro e w1 ⟨p, rfl, pge, sy1, B1⟩; have SY1 := Lib.hid sy1; have BW1 := Lib.hid B1; have PG := Lib.hid pge; clear sy1 B1 pge)
 go_upto_region 3 with (go_at_call 9; refine (var_any SY1.out (by omega)).mono ?_; rintro e w2 (⟨h, _⟩ | ⟨_, rfl, rfl⟩); omega)
 have SY2 : Hid (SyB (w1.setCell ⟨p, 0, none⟩ (.int .i64 1)) p 1 (.slice none 0 0) (.slice none 0 0)) := SY1.out.set0
 have BW2 : Hid (Below w.heap.size w (w1.setCell ⟨p, 0, none⟩ (.int .i64 1))) := BW1.out.setCell (p := ⟨p, 0, none⟩) PG.out (.int .i64 1)
 clear SY1 BW1
 generalize w1.setCell ⟨p, 0, none⟩ (.int .i64 1) = W2 at *
 go_upto_region 4 with (first
  | (go_at_call 14; refine (whole_any 2 (by omega) _).mono ?_; rintro e w3 ⟨s3, a3, n3, c3, b3, m3, d3, rfl, L3, B3⟩; obtain ⟨rfl, R3⟩ := raw_nat (x := 2) (by omega) (by omega) L3; have NB := below_new w3 (.cells #[.int .i64 0, .bool false, .slice a3 n3 c3, .slice b3 m3 d3] 54); have X4 : Hid ((w3.alloc (.cells #[.int .i64 0, .bool false, .slice a3 n3 c3, .slice b3 m3 d3] 54)).heap[w3.heap.size]? = some (.cells #[.int .i64 0, .bool false, .slice a3 n3 c3, .slice b3 m3 d3] 54 (0, 0))) := heap_alloc_new w3 _; have R4 := Lib.hid (R3.below NB); have BW4 := Lib.hid (Below.over BW2.out BW2.out.size (Below.over B3 B3.size NB)); have SY4 := Lib.hid ((SY2.out.below B3).below NB); clear L3 R3 NB B3)
  | (go_at_call 14; go_loud (refine (whole_any 5 (by omega) _).mono ?_; rintro e w5 ⟨s5, a5, n5, c5, b5, m5, d5, rfl, L5, B5⟩; obtain ⟨rfl, R5⟩ := raw_nat (x := 5) (by omega) (by omega) L5; have C21 := Lib.hid (ex_post (SY4.out.below B5) (one_cf ((B5.block _ (Array.getElem?_eq_some_iff.1 X4.out).1).trans X4.out) (R4.out.below B5)) R5); have BW5 := Lib.hid (Below.over BW4.out BW4.out.size B5); clear L5 R5 B5 X4 R4 BW4 SY4))
  | (go_at_call 10; refine C21.out.mono ?_; rintro e w6 ⟨rfl, ⟨ra, rc, hSR⟩, hB⟩; have SR6 := Lib.hid hSR; have BW6 := Lib.hid (Below.trans BW5.out (hB w.heap.size PG.out BW5.out.size)); clear hSR hB C21 BW5))
 go_upto_region 5 with (first
  | (go_at_call 14; refine (whole_any 1 (by omega) _).mono ?_; rintro e w7 ⟨s7, a7, n7, c7, b7, m7, d7, rfl, L7, B7⟩; obtain ⟨rfl, R7⟩ := raw_nat (x := 1) (by omega) (by omega) L7; have NB := below_new w7 (.cells #[.int .i64 0, .bool false, .slice a7 n7 c7, .slice b7 m7 d7] 54); have X8 : (w7.alloc (.cells #[.int .i64 0, .bool false, .slice a7 n7 c7, .slice b7 m7 d7] 54)).heap[w7.heap.size]? = some (.cells #[.int .i64 0, .bool false, .slice a7 n7 c7, .slice b7 m7 d7] 54 (0, 0)) := heap_alloc_new w7 _; have C18 := Lib.hid (ex_range ((SR6.out.below B7).below NB) (one_cf X8 (R7.below NB))); have BW8 := Lib.hid (Below.over BW6.out BW6.out.size (Below.over B7 B7.size NB)); clear L7 R7 NB B7 X8)
  | (go_at_call 5; refine C18.out.mono ?_; rintro e w9 ⟨Hi, Lo, rfl, hH, hB⟩; have H9 := Lib.hid hH; have BW9 := Lib.hid (Below.over BW8.out BW8.out.size hB); clear hH hB C18 BW8))
 have X10 : RgB (w9.alloc (.cells #[.int .i64 0, .int .i64 2, .bool Lo.s, .slice Lo.a Lo.n Lo.c, .slice Lo.b Lo.m Lo.d, .bool Hi.s, .slice Hi.a Hi.n Hi.c, .slice Hi.b Hi.m Hi.d] 33)) w9.heap.size 0 2 Lo Hi := heap_alloc_new w9 _
 have NB10 := below_new w9 (.cells #[.int .i64 0, .int .i64 2, .bool Lo.s, .slice Lo.a Lo.n Lo.c, .slice Lo.b Lo.m Lo.d, .bool Hi.s, .slice Hi.a Hi.n Hi.c, .slice Hi.b Hi.m Hi.d] 33)
 have H10 := Lib.hid (RAt.below H9.out NB10)
 have BW10 := Lib.hid (Below.over BW9.out BW9.out.size NB10)
 clear H9 BW9 NB10
 generalize w9.alloc (.cells #[.int .i64 0, .int .i64 2, .bool Lo.s, .slice Lo.a Lo.n Lo.c, .slice Lo.b Lo.m Lo.d, .bool Hi.s, .slice Hi.a Hi.n Hi.c, .slice Hi.b Hi.m Hi.d] 33) = W10 at *
 obtain ⟨g10, hg10⟩ : ∃ g, w9.heap.size = g := ⟨_, rfl⟩
 rw [hg10] at X10 ⊢
 clear hg10
 obtain ⟨q0, q1, _, _, _, q5, q6, q7⟩ := X10.reads
 go_upto_region 7 with fail
 have B1 := below_new W10 (.cells #[.int .u32 5] 55)
 have Y1 : (W10.alloc (.cells #[.int .u32 5] 55)).heap[W10.heap.size]? = some (.cells #[.int .u32 ((5 : Nat) : Int)] 55 (0, 0)) := heap_alloc_new W10 _
 have B2 := below_new (W10.alloc (.cells #[.int .u32 5] 55)) (.cells #[.int .u32 2] 55)
 have Y2 : ((W10.alloc (.cells #[.int .u32 5] 55)).alloc (.cells #[.int .u32 2] 55)).heap[(W10.alloc (.cells #[.int .u32 5] 55)).heap.size]? = some (.cells #[.int .u32 ((2 : Nat) : Int)] 55 (0, 0)) := heap_alloc_new _ _
 rw [show (W10.alloc (.cells #[.int .u32 5] 55)).heap.size = W10.heap.size + 1 from by simp] at Y2
 have R := lit_ra ((oneL Y1 (by omega)).below B2) (oneL Y2 (by omega))
 have C := Lib.hid (same_eq (RAt.below (RAt.below H10.out B1) B2) R)
 have BW12 := Lib.hid (Below.over (Below.over BW10.out BW10.out.size B1) (Nat.le_trans BW10.out.size B1.size) B2)
 clear B1 B2 Y1 Y2 R X10
 go_wp2_with (go_at_call 13; refine C.out.mono ?_; rintro e w13 ⟨rfl, B13⟩; have BW13 := Lib.hid (Below.over BW12.out BW12.out.size B13); clear B13)
 go_ret
 exact ⟨rfl, BW13.out⟩
theorem Bl.Fes.endsz {K : Nat} {x : Option (Nat × Bool)} : ∀ {k : Nat} {P Q : Pb}, Fes K k P Q x → PSz Q K
  | 0, P, Q, h => by
    obtain ⟨h, rfl, _⟩ := h
    exact h
  | k + 1, P, Q, h => by
    obtain ⟨_, r, up, c, b, _, _, _, _, h⟩ := h
    exact Bl.Fes.endsz h
/-- What conflict wants of a stuck state. -/
theorem stuck_in {rows : List Rl} {n r : Nat} {gl : List (Nat × Rat)} {up : Bool} {Q : Pb} (h : Mid (Pb0 (lns rows) n (cof gl)) rows.length Q) (hb : Q.brk = some (r, up)) (hh : Q.hlp r up = none) :
    r < Q.m ∧ (Q.n ≤ Q.basic r ∧ Q.basic r < Q.n + Q.m - 1) ∧ ∀ k, k < Q.n → Q.T r k ≠ 0 → Q.n ≤ Q.free k ∧ Q.free k < Q.n + Q.m - 1 := by
  have en : Q.n = n := h.kin.n
  have em : Q.m = rows.length + 1 := by
    have := h.kin.m
    rw [this]; show (lns rows).length + 1 = _; rw [lns_len]
  have bd : ∀ v u, Q.low v = some u ∨ Q.high v = some u → n ≤ v ∧ v < n + rows.length := by
    intro v u hv
    rw [h.kin.low, h.kin.high] at hv
    refine Classical.byContradiction fun q => ?_
    have q : v < n ∨ n + rows.length ≤ v := by omega
    rw [low_end q, high_end q] at hv
    rcases hv with hv | hv <;> simp at hv
  have bp := Q.brkT_prop Q.m
  unfold Pb.brk at hb; rw [hb] at bp
  have hp := Q.hlpT_prop r up Q.n
  unfold Pb.hlp at hh; rw [hh] at hp
  obtain ⟨hr, hv, _⟩ := bp
  refine ⟨hr, ?_, fun k hk hT => ?_⟩
  · rw [en, em]
    cases up with
    | true =>
      simp only [if_true] at hv
      obtain ⟨l, hl, _⟩ := Pb.lo_iff.1 hv
      have := bd _ l (Or.inl hl); omega
    | false =>
      simp only [Bool.false_eq_true, if_false] at hv
      obtain ⟨l, hl, _⟩ := Pb.hi_iff.1 hv
      have := bd _ l (Or.inr hl); omega
  · rw [en, em]
    have nh := hp k hk
    have nh : ¬ Q.helps r k up = true := by rw [nh]; simp
    rw [Pb.helps_iff] at nh
    have e : ∃ u, Q.low (Q.free k) = some u ∨ Q.high (Q.free k) = some u := by
      by_cases p : 0 < (if up then 1 else -1 : Rat) * Q.T r k
      · obtain ⟨u, hu, _⟩ := not_rise fun q => nh (Or.inl ⟨p, q⟩)
        exact ⟨u, Or.inr hu⟩
      · have p2 : (if up then 1 else -1 : Rat) * Q.T r k < 0 := by
          cases up with
          | true => simp only [if_true] at p ⊢; grind
          | false => simp only [Bool.false_eq_true, if_false] at p ⊢; grind
        obtain ⟨u, hu, _⟩ := not_fall fun q => nh (Or.inr ⟨p2, q⟩)
        exact ⟨u, Or.inl hu⟩
    obtain ⟨u, hu⟩ := e
    have := bd _ u hu; omega
/-- lp.Feasible where there is no solution. -/
theorem lpf_no {w : World} {rows : List Rl} {ra : Option Addr} {rc n m : Nat} (h : LpIn w rows ra n m [] none 0) (hx : ¬ ∃ x, Sol (lns rows) n x) :
    ∃ Q r up, Mid (Pb0 (lns rows) n (cof [])) rows.length Q ∧ Q.brk = some (r, up) ∧ Q.hlp r up = none ∧ PSz Q 1048576 ∧
    Calls Try.prog 18 #[.slice ra m rc, .int .i64 (n : Int)] w fun e w' => ∃ g, e = .returned (.tuple #[.slice (some ⟨g, 0, none⟩) m m, .bool false]) ∧ LineR w' g m (cfT Q r (if up then -1 else 1) Q.n) ∧ Below w.heap.size w w' := by
  obtain ⟨D, a, F⟩ := rows_fm h.good (GoodC.nil n) h.hn
  obtain ⟨k, Q, x, h1, h2, h3, h4⟩ := fes_total (Pb0.mid (lns rows) n (cof [])) F (bigK (K := 1048576) h.hn (by omega))
  have h2 : Mid (Pb0 (lns rows) n (cof [])) rows.length Q := by rw [← lns_len]; exact h2
  cases x with
  | none => exact absurd (feas_yes h2 (h3 rfl)) hx
  | some y =>
    obtain ⟨r, up⟩ := y
    obtain ⟨b1, b2, _⟩ := h4 r up rfl
    obtain ⟨s1, s2, s3⟩ := stuck_in h2 b1 b2
    have sz := h1.endsz
    have em : Q.m - 1 = m := by
      have := h2.kin.m
      rw [this]; show (lns rows).length + 1 - 1 = _; rw [lns_len, h.hm]; omega
    refine ⟨Q, r, up, h2, b1, b2, sz, (lpf_any (R := fun v w' => ∃ g, v = .slice (some ⟨g, 0, none⟩) m m ∧ LineR w' g m (cfT Q r (if up then -1 else 1) Q.n)) h.new h1 ?_).mono ?_⟩
    · intro L W r' up' e hA
      simp only [Option.some.injEq, Prod.mk.injEq] at e
      obtain ⟨rfl, rfl⟩ := e
      refine (conflict_any hA h2.ok.pl sz s1 s2 s3).mono ?_
      rintro e w' ⟨g, rfl, hL, _, hB⟩
      rw [em] at hL ⊢
      exact ⟨_, rfl, ⟨g, rfl, hL⟩, hB⟩
    · rintro e w' ⟨v, rfl, _, hR, hB⟩
      obtain ⟨g, rfl, hL⟩ := hR (by simp)
      exact ⟨g, rfl, hL, hB⟩
/-- lp.Feasible, whether there is a solution or not. -/
theorem lpf_all {rows : List Rl} {n : Nat} : ∃ okb : Bool, (okb = true ↔ ∃ x, Sol (lns rows) n x) ∧ ∀ {w : World} {ra : Option Addr} {rc m : Nat}, LpIn w rows ra n m [] none 0 →
    Calls Try.prog 18 #[.slice ra m rc, .int .i64 (n : Int)] w fun e w' => ∃ v, e = .returned (.tuple #[v, .bool okb]) ∧ Below w.heap.size w w' := by
  by_cases hx : ∃ x, Sol (lns rows) n x
  · refine ⟨true, by simp [hx], fun h => (lpf_yes h hx).mono ?_⟩
    rintro e w' ⟨rfl, hb⟩
    exact ⟨_, rfl, hb⟩
  · refine ⟨false, by simp [hx], fun h => ?_⟩
    obtain ⟨Q, r, up, _, _, _, _, C⟩ := lpf_no h hx
    refine C.mono ?_
    rintro e w' ⟨g, rfl, _, hb⟩
    exact ⟨_, rfl, hb⟩
theorem rq_all {rows : List Rl} {R : Rl} {n : Nat} (h : ∀ i, i < rows.length → (rq rows i).Good n) (g : R.Good n) : ∀ i, i < (rows ++ [R]).length → (rq (rows ++ [R]) i).Good n := fun i hi => by
  rw [List.length_append, List.length_singleton] at hi
  by_cases e : i < rows.length
  · rw [rq_append e]; exact h i e
  · obtain rfl : i = rows.length := by omega
    rw [rq_last]; exact g
/-- System.Post: the error, or the row is added. -/
theorem post_any {w : World} {p n m rc nc cc nn c mm d : Nat} {ra ca a b : Option Addr} {a' : Option Addr} {k' c' : Nat} {rows : List Rl} {rel : Int} {l : List Cf} {B : Raw}
    (h : SyR w p n m rc ra (.slice a' k' c') rows) (hl : CfAt w l ca) (hB : RwAt w B a nn c b mm d) (hln : l.length = nc) (hc : nc ≤ cc) (hc2 : cc ≤ 9223372036854775807) :
    Calls Try.prog 10 #[.pointer (some ⟨p, 0, none⟩), .agg #[.slice ca nc cc, .int .i64 rel, .bool B.neg, .slice a nn c, .slice b mm d]] w fun e w' =>
      ∃ z : Int, e = .returned (.int .i64 z) ∧
      ((z ≠ 0 ∧ Below w.heap.size w w' ∧ (z = 0 ↔ rowN (n : Int) rel l B = 0 ∧ m < 40 ∧ ∃ x, Sol (lns (rows ++ [rowQ rel l B])) n x)) ∨
       (z = 0 ∧ rowN (n : Int) rel l B = 0 ∧ m < 40 ∧ (∃ ra rc, SyR w' p n (m + 1) rc ra (.slice a' k' c') (rows ++ [rowQ rel l B])) ∧ (∃ w1 v, Below w.heap.size w w1 ∧ w' = w1.setCell ⟨p, 1, none⟩ v))) := by
  obtain ⟨okb, hok, C⟩ := lpf_all (rows := rows ++ [rowQ rel l B]) (n := n)
  refine (post_gen (okb := okb) h.sy h.rl h.len h.m40 h.le h.cap h.n24 hl hB hln hc hc2 ?_).mono ?_
  · intro h0 hm W ra' rc' hR
    refine C ⟨hR, by rw [List.length_append, h.len]; rfl, QfAt.nil _ _, ⟨Nat.le_refl _, by omega⟩, by have := h.n24; omega, by omega, rq_all h.good (rowN_good hl hB h0).2.1, GoodC.nil n⟩
  · rintro e w' (⟨h1, rfl, hb⟩ | ⟨h1, h2, rfl, hb⟩ | ⟨h1, h2, rfl, rfl, hb⟩ | ⟨h1, h2, rfl, rfl, w1, ra', rc', B1, RL1, h3, h4, rfl⟩)
    · exact ⟨_, rfl, Or.inl ⟨h1, hb, by simp [h1]⟩⟩
    · exact ⟨_, rfl, Or.inl ⟨by omega, hb, by constructor <;> intro q <;> omega⟩⟩
    · refine ⟨_, rfl, Or.inl ⟨by omega, hb, by constructor <;> intro q; omega; have := hok.2 q.2.2; simp at this⟩⟩
    · have S1 := h.sy.below B1
      have O1 := fun c (hc : c ≠ p) => heap_setCell_other w1 ⟨p, 1, none⟩ c (.slice ra' (m + 1) rc') hc
      refine ⟨_, rfl, Or.inr ⟨rfl, h1, h2, ⟨ra', rc', S1.set1 _, RL1.beside S1 O1, by rw [List.length_append, h.len]; rfl, h3, h4, h.n24, by omega, rq_all h.good (rowN_good hl hB h1).2.1, hok.1 rfl⟩, w1, _, B1, rfl⟩⟩
end Go.Proofs.Ytijdglogadnbcaa
