/- The reference's ShlNat. -/
import Derived.Test.YtijdglogadnbcaaGreatZ43
import Derived.Test.YtijdglogadnbcaaGreatZ03
import Derived.Deep.LoopGhost
set_option linter.unusedVariables false
set_option linter.unusedSimpArgs false
set_option maxRecDepth 100000
set_option maxHeartbeats 40000000
namespace Go.Proofs.YtijdglogadnbcaaGreat
open Go.RowKit
/-- Shifting to the left by q digits and s bits, on the way. -/
structure ShH (la : List Nat) (q s k : Nat) (out : List Nat) (cc : Nat) : Prop where
 len : out.length = q + k
 lm : Nh.Lm out
 cb : cc < 2 ^ s
 eq : Nh.vl out + cc * 65536 ^ (q + k) = 65536 ^ q * (2 ^ s * Nh.vl (la.take k))
theorem ShH.nil (la : List Nat) (q s : Nat) : ShH la q s 0 (List.replicate q 0) 0 := by
 have z : ∀ m, Nh.vl (List.replicate m 0) = 0 := fun m => by induction m with | zero => rfl | succ m ih => simp [List.replicate_succ, Nh.vl, ih]
 exact ⟨by simp, fun x hx => by rw [List.mem_replicate] at hx; omega, Nat.two_pow_pos s, by rw [z]; simp [Nh.vl]⟩
theorem ShH.step {la : List Nat} (h : Nh.Lm la) {q s k cc t : Nat} {out : List Nat} (I : ShH la q s k out cc) (ht : t = la.getD k 0 * 2 ^ s + cc) : ShH la q s (k + 1) (out ++ [t % 65536]) (t / 65536) := by
 have hx := Nh.lm_getD h k
 have hc := I.cb
 refine ⟨by rw [List.length_append, I.len]; rfl, Nh.lm_snoc I.lm (Nat.mod_lt _ (by omega)), ?_, ?_⟩
 ·refine Nat.div_lt_of_lt_mul ?_
  have : (la.getD k 0 + 1) * 2 ^ s ≤ 65536 * 2 ^ s := Nat.mul_le_mul_right _ hx
  rw [Nat.add_mul] at this
  omega
 ·rw [Nh.vl_snoc, I.len, Nh.vl_take_succ, show q + (k + 1) = (q + k) + 1 from by omega, Nat.pow_succ]
  have e := Nh.carry_eq (65536 ^ (q + k)) t
  have e1 := I.eq
  have e2 : 65536 ^ q * (2 ^ s * (Nh.vl (la.take k) + 65536 ^ k * la.getD k 0)) = 65536 ^ q * (2 ^ s * Nh.vl (la.take k)) + 65536 ^ (q + k) * (la.getD k 0 * 2 ^ s) := by
   rw [Nat.mul_add, Nat.mul_add, Nat.pow_add]
   congr 1
   simp only [Nat.mul_assoc, Nat.mul_left_comm, Nat.mul_comm]
  have e3 : 65536 ^ (q + k) * t = 65536 ^ (q + k) * (la.getD k 0 * 2 ^ s) + cc * 65536 ^ (q + k) := by rw [ht, Nat.mul_add, Nat.mul_comm cc]
  rw [e2, ← e1]
  omega
theorem ShH.done {la : List Nat} {q s cc : Nat} {out : List Nat} (I : ShH la q s la.length out cc) : Nh.vl (out ++ [cc]) = Nh.vl la * 2 ^ (16 * q + s) := by
 have e := I.eq
 rw [List.take_of_length_le (Nat.le_refl _)] at e
 rw [Nh.vl_snoc, I.len, Nat.mul_comm (65536 ^ (q + la.length)), e, Nat.pow_add, Nat.pow_mul, show (2 : Nat) ^ 16 = 65536 from by decide]
 simp only [Nat.mul_assoc, Nat.mul_left_comm, Nat.mul_comm]
theorem shl_arith {x cc s : Nat} (hx : x < 65536) (hs : s < 16) (hc : cc < 2 ^ s) : bits .or .i64 (wrap64 ((x : Int) * 2 ^ s)) (cc : Int) = ((x * 2 ^ s + cc : Nat) : Int) ∧ x * 2 ^ s + cc < 4294967296 := by
 have a1 : 2 ^ s ≤ 2 ^ 15 := Nat.pow_le_pow_right (by omega) (by omega)
 have a2 : x * 2 ^ s ≤ 65535 * 2 ^ 15 := Nat.mul_le_mul (by omega) a1
 have e0 : wrap64 ((x : Int) * 2 ^ s) = ((x * 2 ^ s : Nat) : Int) := by
  rw [show (x : Int) * 2 ^ s = ((x * 2 ^ s : Nat) : Int) from by rw [Int.natCast_mul, Int.natCast_pow]; rfl]
  generalize x * 2 ^ s = y at *
  simp only [wrap64]; omega
 refine ⟨?_, by omega⟩
 rw [e0, (bits_nat .i64 63 (by decide) i64_id (x * 2 ^ s) cc (by omega) (by omega)).2]
 congr 1
 have := Nt.or_low (s := s) (x := cc) (m := x) hc
 rw [Nat.or_comm, Nat.mul_comm x, this, Nat.add_comm]
def ShO (w : World) (la : List Nat) (q s n : Nat) (v ca i : Value) (wr : World) : Prop :=
 ∃ (k : Nat) (out : List Nat) (cc : Nat), k ≤ n ∧ i = .int .i64 (k : Int) ∧ ca = .int .i64 (cc : Int) ∧ ShH la q s k out cc ∧ wr.ownsRow w.heap.size 3 1 v (q + k) (i64s out) ∧ Below w.heap.size w wr
theorem below_append {w wd w1 : World} {v : Value} {k : Nat} {xs : List Value} (o : Obj) (B : Below w.heap.size w wd) (O : wd.ownsRow w.heap.size 3 1 v k xs) (G : (wd.alloc o).grownBy w1 v.ownBlock) : Below w.heap.size w w1 := by
 have BA : Below wd.heap.size wd (wd.alloc o) := (Below.refl _ _).alloc (Nat.le_refl _) _
 refine ⟨G.os.trans (BA.os.trans B.os), G.tape.trans (BA.tape.trans B.tape), G.output.trans (BA.output.trans B.output), Nat.le_trans B.size (Nat.le_trans BA.size G.size), fun q hq => ?_⟩
 rw [G.block q (Nat.lt_of_lt_of_le hq (Nat.le_trans B.size BA.size)) (fun e => by have := (O.lt q e.symm).1; omega)]
 exact (BA.block q (Nat.lt_of_lt_of_le hq B.size)).trans (B.block q hq)
theorem i64s_snoc (l : List Nat) (d : Nat) : i64s l ++ [Value.int .i64 (d : Int)] = i64s (l ++ [d]) := by simp [i64s]
theorem made_i64 (n : Nat) : (madeCells (Value.int .i64 0).cells (n * 1)).toList = i64s (List.replicate n 0) := by
 simp only [madeCells, i64s, Value.cells, Nat.mul_one]
 refine List.ext_getElem (by simp) fun i h1 h2 => ?_
 simp [Nat.mod_one]
theorem hshl_some {w : World} {la : List Nat} {a : Option Addr} {n c nn q s : Nat} (ha : HAt w la a n c) (h0 : 0 < n) (hsz : n ≤ 1073741824) (hnn : nn ≤ 1073741824) (hq : nn / 16 = q) (hs : nn % 16 = s) :
  Calls Tryz.prog 168 #[.slice a n c, .int .i64 (nn : Int)] w (HPost w (Nh.vl la * 2 ^ nn)) := by
 have A := Lib.hid ha
 have hn := Lib.hid ha.len
 have h1 := ha.cap; have h2 := ha.le
 have nz : ((n : Int) == 0) = false := by simp; omega
 have NN : Hid (nn = 16 * q + s) := by show _ = _; omega
 have q1 : (nn : Int) / 16 = (q : Int) := by omega
 have q2 : (nn : Int) % 16 = (s : Int) := by omega
 have sb : s < 16 := by omega
 have qb : q ≤ 1073741824 := by omega
 clear ha hq hs
 obtain ⟨i0, hi0, hz0, hz1, hz2⟩ := info_parts info3
 go_enter Tryz.func168, Tryz.ntmps168
 go_wp2_with (at_make; refine wpList_make_full _ rfl _ _ 76 rfl w.heap.size 3 i0 (.int .i64 0) 1 Tryz.underlying76 hi0 hz0 hz1 .i64 .i64 _ _ q rfl rfl (by omega) (by omega) (by rw [hz2]; omega) (by unfold maxLen; omega) (Nat.le_refl _) ?_; intro w1 hown1 hg1; rw [made_i64] at hown1; have U1 := Lib.hid hown1; have B1 := Lib.hid (below_grown hg1); clear hown1 hg1)
 go_loopw [5, 6, 18] (fun v ca i wr => ShO w la q s n v ca i wr) (fun _ _ i _ => n - (intOf i).toNat)
 case atStart => exact ⟨0, _, 0, Nat.zero_le _, rfl, rfl, ShH.nil la q s, U1.out, B1.out⟩
 case round =>
  obtain ⟨k, out, cc, hk, rfl, rfl, hI, hO, hB⟩ := hrel
  have I := Lib.hid hI; have O := Lib.hid hO; have BR := Lib.hid hB
  have cb := hI.cb
  clear hI hO hB
  by_cases hlt : k < n
  ·obtain ⟨b1, o1, rfl, dd⟩ := A.out.at_ (by intro e; have := hn.out; rw [e] at this; simp at this; omega)
   have p := cell_later BR.out (Nat.le_refl _) (dd k (by rw [hn.out]; exact hlt))
   obtain ⟨x, hx⟩ : ∃ x, la.getD k 0 = x := ⟨_, rfl⟩
   have xb : x < 65536 := by rw [← hx]; exact Nh.lm_getD A.out.lm k
   rw [hx] at p
   have HX := Lib.hid hx
   have CB := Lib.hid cb
   clear hx cb
   obtain ⟨SF0, tb⟩ := shl_arith xb sb CB.out
   obtain ⟨t, ht⟩ : ∃ t, x * 2 ^ s + cc = t := ⟨_, rfl⟩
   rw [ht] at SF0 tb
   have SF := Lib.hid SF0
   clear SF0
   obtain ⟨e, he⟩ : ∃ e, t % 65536 = e := ⟨_, rfl⟩
   obtain ⟨f, hf⟩ : ∃ f, t / 65536 = f := ⟨_, rfl⟩
   have d1 := Lib.hid (show (t : Int) % 65536 = (e : Int) by omega)
   have d2 := Lib.hid (show (t : Int) / 65536 = (f : Int) by omega)
   have NX := Lib.hid (I.out.step A.out.lm (t := t) (by rw [HX.out, ht]))
   rw [he, hf] at NX
   have O2 := Lib.hid (O.out.alloc (.cells #[.int .i64 (e : Int)] 3))
   have LB : Hid (q + k + 1 ≤ maxLen ∧ (q + k + 1) * 8 ≤ 140737488355328) := ⟨by unfold maxLen; omega, by omega⟩
   have LS : Hid (w.heap.size ≤ (wr.alloc (.cells #[.int .i64 (e : Int)] 3)).heap.size) := by have := BR.out.size; show _ ≤ _; simp; omega
   have t0 : (0 : Int) ≤ (t : Int) := by omega
   have t1 : (t : Int) ≤ 9223372036854775807 := by omega
   clear ht he hf tb
   go_upto_region 8 with fail
   clear p dd
   go_cut [9] (fun v W => v = .int .i64 (t : Int) ∧ W = wr)
   case first =>
    go_wp2_with fail
    go_meet
    case rel => exact ⟨by rw [SF.out], rfl⟩
   case rest =>
   obtain ⟨rfl, rfl⟩ := hcut
   clear SF q2
   have d1 := d1.out
   go_wp2_with (at_builtin; refine wpList_append_own _ rfl _ _ 76 rfl w.heap.size 3 i0 (.int .i64 0) 1 8 Tryz.underlying76 hi0 hz0 hz1 hz2 rfl (by omega) u5 (q + k) _ rfl O2.out ⟨wc.heap.size, 0, none⟩ 1 1 [.int .i64 (e : Int)] rfl rfl (one_cell_new wc e) (by intro u hu; simp at hu; rw [hu]; rfl) LB.out.1 LB.out.2 LS.out ?_; intro v' w1 hown1 hgrow1 hnil1; rw [i64s_snoc] at hown1; have OW := Lib.hid hown1; have GR := Lib.hid hgrow1; clear hown1 hgrow1 hnil1)
   go_roundw
   case rel => exact ⟨k + 1, out ++ [e], f, by omega, by go_num, by rw [d2.out], NX.out, OW.out, below_append _ BR.out O.out GR.out⟩
   case measure => simp [intOf]; omega
  ·obtain rfl : n = k := by omega
   have I2 : Hid (ShH la q s la.length out cc) := by show ShH _ _ _ _ _ _; rw [hn.out]; exact I.out
   have DN : Hid (Nh.vl (out ++ [cc]) = Nh.vl la * 2 ^ nn) := by show _ = _; rw [I2.out.done, NN.out]
   have ccb : cc < 65536 := Nat.lt_of_lt_of_le cb (Nat.le_trans (Nat.pow_le_pow_right (by omega) (show s ≤ 16 by omega)) (by decide))
   have O2 := Lib.hid (O.out.alloc (.cells #[.int .i64 (cc : Int)] 3))
   have LL : Hid ((out ++ [cc]).length = q + n + 1) := by show _ = _; rw [List.length_append, I.out.len]; rfl
   have LM := Lib.hid (Nh.lm_snoc I.out.lm ccb)
   clear cb
   go_wp2_with (at_builtin; refine wpList_append_own _ rfl _ _ 76 rfl w.heap.size 3 i0 (.int .i64 0) 1 8 Tryz.underlying76 hi0 hz0 hz1 hz2 rfl (by omega) u5 (q + n) _ rfl O2.out ⟨wr.heap.size, 0, none⟩ 1 1 [.int .i64 (cc : Int)] rfl rfl (one_cell_new wr cc) (by intro u hu; simp at hu; rw [hu]; rfl) (by unfold maxLen; omega) (by omega) (by have := BR.out.size; simp; omega) ?_; intro v' w1 hown1 hgrow1 hnil1; rw [i64s_snoc] at hown1; have OW := Lib.hid hown1; have GR := Lib.hid hgrow1; clear hown1 hgrow1 hnil1)
   have BF := Lib.hid (below_append _ BR.out O.out GR.out)
   obtain ⟨a2, c2, rfl, L2⟩ := own_hat LM.out LL.out OW.out
   have L2 := Lib.hid L2
   refine (htrim_any L2.out).mono ?_
   rintro e w' ⟨rfl, rfl⟩
   go_wp2_with fail
   go_ret
   exact HPost.of_trim L2.out BF.out DN.out
theorem and1_i64 {y : Nat} (hy : y < 65536) : bits .and .i64 (y : Int) 1 = ((y % 2 : Nat) : Int) := by
 have e1 := (bits_nat .i64 63 (by decide) i64_id y 1 (by omega) (by decide)).1
 rw [Nat.and_one_is_mod] at e1
 exact e1
theorem bit0_any {w : World} {l : List Nat} {a : Option Addr} {n c : Nat} (h : HAt w l a n c) :
  Calls Tryz.prog 165 #[.slice a n c, .int .i64 0] w fun e w' => e = .returned (.int .i64 ((Nh.vl l % 2 : Nat) : Int)) ∧ w = w' := by
 have D := hdigit_any h 0 (by omega)
 obtain ⟨x, hx⟩ : ∃ x, l.getD 0 0 = x := ⟨_, rfl⟩
 have xb : x < 65536 := by rw [← hx]; exact Nh.lm_getD h.lm 0
 have E : Hid (Nh.vl l % 2 = x % 2) := by show _ = _; rw [← Nh.low_bit, hx]
 rw [hx] at D
 have D := Lib.hid D
 have A1 := Lib.hid (and1_i64 xb)
 clear h hx
 go_enter Tryz.func165, Tryz.ntmps165
 go_wp2_with fail
 refine D.out.mono ?_
 rintro e w' ⟨rfl, rfl⟩
 go_wp2_with fail
 go_ret
 exact ⟨by rw [E.out, ← A1.out]; rfl, rfl⟩
structure GdI (w : World) (G N p q t : Nat) (a : Option Addr) (n c : Nat) (b : Option Addr) (m d : Nat) (wr : World) : Prop where
 A : HAt wr (Nh.toL p) a n c
 B : HAt wr (Nh.toL q) b m d
 g : Nat.gcd p q * 2 ^ t = G
 p0 : 0 < p
 q0 : 0 < q
 n1 : n ≤ N
 m1 : m ≤ N
 t1 : t ≤ 16 * N
 gb : G < 2 ^ (16 * N)
 bl : Below w.heap.size w wr
theorem GdI.both {w wr w1 w2 : World} {G N p q t n c m d n' c' m' d' : Nat} {a b a' b' : Option Addr} (I : GdI w G N p q t a n c b m d wr) (e1 : p % 2 = 0) (e2 : q % 2 = 0)
  (h1 : HAt w1 (Nh.toL (p / 2)) a' n' c') (b1 : Below wr.heap.size wr w1) (h2 : HAt w2 (Nh.toL (q / 2)) b' m' d') (b2 : Below w1.heap.size w1 w2) : GdI w G N (p / 2) (q / 2) (t + 1) a' n' c' b' m' d' w2 := by
 have p0 := I.p0; have q0 := I.q0
 have l1 := Nh.toL_len_le (Nat.div_le_self p 2)
 have l2 := Nh.toL_len_le (Nat.div_le_self q 2)
 rw [h1.len, I.A.len] at l1
 rw [h2.len, I.B.len] at l2
 have g2 : Nat.gcd (p / 2) (q / 2) * 2 ^ (t + 1) = G := by
  rw [← I.g]
  have : Nat.gcd p q = 2 * Nat.gcd (p / 2) (q / 2) := by rw [← Nh.gcd_half_both]; congr 1 <;> omega
  rw [this, Nat.pow_succ]
  simp only [Nat.mul_assoc, Nat.mul_left_comm, Nat.mul_comm]
 have t2 : t + 1 ≤ 16 * N := by
  have gp : 0 < Nat.gcd (p / 2) (q / 2) := Nat.gcd_pos_of_pos_left _ (by omega)
  have h : 2 ^ (t + 1) ≤ G := by rw [← g2]; exact Nat.le_mul_of_pos_left _ gp
  exact Nat.le_of_lt ((Nat.pow_lt_pow_iff_right (by omega)).1 (Nat.lt_of_le_of_lt h I.gb))
 exact ⟨h1.below b2, h2, g2, by omega, by omega, Nat.le_trans l1 I.n1, Nat.le_trans l2 I.m1, t2, I.gb, Below.over (Below.over I.bl I.bl.size b1) (Nat.le_trans I.bl.size b1.size) b2⟩
theorem GdI.left {w wr w1 : World} {G N p q t n c m d n' c' : Nat} {a b a' : Option Addr} (I : GdI w G N p q t a n c b m d wr) (e1 : p % 2 = 0) (e2 : q % 2 = 1)
  (h1 : HAt w1 (Nh.toL (p / 2)) a' n' c') (b1 : Below wr.heap.size wr w1) : GdI w G N (p / 2) q t a' n' c' b m d w1 := by
 have p0 := I.p0
 have l1 := Nh.toL_len_le (Nat.div_le_self p 2)
 rw [h1.len, I.A.len] at l1
 have g2 : Nat.gcd (p / 2) q = Nat.gcd p q := by rw [← Nh.gcd_half_left e2]; congr 1; omega
 exact ⟨h1, I.B.below b1, by rw [g2]; exact I.g, by omega, I.q0, Nat.le_trans l1 I.n1, I.m1, I.t1, I.gb, Below.over I.bl I.bl.size b1⟩
theorem GdI.right {w wr w1 : World} {G N p q t n c m d m' d' : Nat} {a b b' : Option Addr} (I : GdI w G N p q t a n c b m d wr) (e1 : q % 2 = 0) (e2 : p % 2 = 1)
  (h1 : HAt w1 (Nh.toL (q / 2)) b' m' d') (b1 : Below wr.heap.size wr w1) : GdI w G N p (q / 2) t a n c b' m' d' w1 := by
 have q0 := I.q0
 have l1 := Nh.toL_len_le (Nat.div_le_self q 2)
 rw [h1.len, I.B.len] at l1
 have g2 : Nat.gcd p (q / 2) = Nat.gcd p q := by rw [← Nh.gcd_half_right e2]; congr 1; omega
 exact ⟨I.A.below b1, h1, by rw [g2]; exact I.g, I.p0, by omega, I.n1, Nat.le_trans l1 I.m1, I.t1, I.gb, Below.over I.bl I.bl.size b1⟩
theorem GdI.swap {w wr : World} {G N p q t n c m d : Nat} {a b : Option Addr} (I : GdI w G N p q t a n c b m d wr) : GdI w G N q p t b m d a n c wr :=
 ⟨I.B, I.A, by rw [Nat.gcd_comm]; exact I.g, I.q0, I.p0, I.m1, I.n1, I.t1, I.gb, I.bl⟩
theorem GdI.ends {w wr : World} {G N p q t n c m d : Nat} {a b : Option Addr} (I : GdI w G N p q t a n c b m d wr) (h : p = q) : q * 2 ^ t = G := by
 have := I.g; rw [h, Nat.gcd_self] at this; exact this
def GdA (w : World) (G N k : Nat) (v0 v1 v2 : Value) (wr : World) : Prop :=
 ∃ (p q t : Nat) (a : Option Addr) (n c : Nat) (b : Option Addr) (m d : Nat), v0 = .slice a n c ∧ v1 = .slice b m d ∧ v2 = .int .i64 (t : Int) ∧ p ≤ k ∧ GdI w G N p q t a n c b m d wr
/-- The outer loop: behind a difference, which may be 0. -/
def GdO (w : World) (G N k : Nat) (tw : Nat) (v0 v1 : Value) (wr : World) : Prop :=
 ∃ (p q : Nat) (a : Option Addr) (n c : Nat) (b : Option Addr) (m d : Nat), v0 = .slice a n c ∧ v1 = .slice b m d ∧ p + q ≤ k ∧ HAt wr (Nh.toL p) a n c ∧ (p = 0 → HAt wr (Nh.toL q) b m d ∧ q ≠ 0 ∧ q * 2 ^ tw = G ∧ m ≤ N ∧ Below w.heap.size w wr) ∧ (p ≠ 0 → (p % 2 = 0 → q % 2 = 1) ∧ GdI w G N p q tw a n c b m d wr)
def GdL (w : World) (G N k tw s : Nat) (b : Option Addr) (q m d : Nat) (v0 : Value) (wr : World) : Prop :=
 ∃ (p : Nat) (a : Option Addr) (n c : Nat), v0 = .slice a n c ∧ p ≤ k ∧ p + q ≤ s ∧ (p % 2 = 0 → q % 2 = 1) ∧ GdI w G N p q tw a n c b m d wr
def GdR (w : World) (G N k tw s : Nat) (a : Option Addr) (p n c : Nat) (v1 : Value) (wr : World) : Prop :=
 ∃ (q : Nat) (b : Option Addr) (m d : Nat), v1 = .slice b m d ∧ q ≤ k ∧ p + q ≤ s ∧ GdI w G N p q tw a n c b m d wr
theorem hbit_any {w : World} {x : Nat} {a : Option Addr} {n c : Nat} (h : HAt w (Nh.toL x) a n c) {z : Nat} (hz : x % 2 = z) :
  Calls Tryz.prog 165 #[.slice a n c, .int .i64 0] w fun e w' => e = .returned (.int .i64 (z : Int)) ∧ w = w' := by
 have := bit0_any h; rw [Nh.vl_toL, hz] at this; exact this
theorem hhalf_any {w : World} {x : Nat} {a : Option Addr} {n c : Nat} (h : HAt w (Nh.toL x) a n c) (hsz : n ≤ 1099511627776) : Calls Tryz.prog 166 #[.slice a n c] w (HPost w (x / 2)) := by
 have := half_any h hsz; rw [Nh.vl_toL] at this; exact this
theorem hcmp_at {w : World} {x y : Nat} {a b : Option Addr} {n c m d : Nat} (ha : HAt w (Nh.toL x) a n c) (hb : HAt w (Nh.toL y) b m d) {z : Int} (hz : cmpN x y = z) :
  Calls Tryz.prog 85 #[.slice a n c, .slice b m d] w fun e w' => e = .returned (.int .i64 z) ∧ w = w' := by
 have := hcmp_any ha hb; rw [Nh.vl_toL, Nh.vl_toL, hz] at this; exact this
theorem hsub_at {w : World} {x y : Nat} {a b : Option Addr} {n c m d : Nat} (ha : HAt w (Nh.toL x) a n c) (hb : HAt w (Nh.toL y) b m d) (hsz : n ≤ 1099511627776) (hle : y ≤ x) :
  Calls Tryz.prog 167 #[.slice a n c, .slice b m d] w (HPost w (x - y)) := by
 have := hsub_any ha hb (by have := Nh.toL_len_le hle; rw [ha.len, hb.len] at this; exact this) hsz (by rw [Nh.vl_toL, Nh.vl_toL]; exact hle)
 rw [Nh.vl_toL, Nh.vl_toL] at this; exact this
theorem hshl_at {w : World} {x t : Nat} {a : Option Addr} {n c : Nat} (ha : HAt w (Nh.toL x) a n c) (h0 : x ≠ 0) (hsz : n ≤ 1073741824) (ht : t ≤ 1073741824) :
  Calls Tryz.prog 168 #[.slice a n c, .int .i64 (t : Int)] w (HPost w (x * 2 ^ t)) := by
 have hn : 0 < n := by
  rw [← ha.len]
  rcases Nat.eq_zero_or_pos (Nh.toL x).length with e | e
  ·have := Nh.vl_toL x; rw [List.length_eq_zero_iff.1 e] at this; exact absurd this.symm h0
  ·exact e
 have := hshl_some ha hn hsz ht rfl rfl; rw [Nh.vl_toL] at this; exact this
theorem hlen_zero {w : World} {x : Nat} {a : Option Addr} {n c : Nat} (h : HAt w (Nh.toL x) a n c) : n = 0 ↔ x = 0 := by
 rw [← h.len]
 constructor
 ·intro e; have := Nh.vl_toL x; rw [List.length_eq_zero_iff.1 e] at this; exact this.symm
 ·rintro rfl; rw [Nh.toL_zero]; rfl
theorem GdI.sub {w wr w1 : World} {G N p q t n c m d n' c' : Nat} {a b a' : Option Addr} (I : GdI w G N p q t a n c b m d wr) (hle : q ≤ p) (oq : q % 2 = 1)
  (h1 : HAt w1 (Nh.toL (p - q)) a' n' c') (b1 : Below wr.heap.size wr w1) : GdO w G N p t (.slice a' n' c') (.slice b m d) w1 := by
 have l1 := Nh.toL_len_le (Nat.sub_le p q)
 rw [h1.len, I.A.len] at l1
 refine ⟨p - q, q, a', n', c', b, m, d, rfl, rfl, by omega, h1, fun e => ⟨I.B.below b1, by have := I.q0; omega, I.ends (by omega), I.m1, Below.over I.bl I.bl.size b1⟩, fun e => ⟨fun _ => oq, ?_⟩⟩
 exact ⟨h1, I.B.below b1, by rw [Nh.gcd_sub hle]; exact I.g, by omega, I.q0, Nat.le_trans l1 I.n1, I.m1, I.t1, I.gb, Below.over I.bl I.bl.size b1⟩
theorem hgcd_nz {w : World} {x y N : Nat} {a b : Option Addr} {n c m d : Nat} (ha : HAt w (Nh.toL x) a n c) (hb : HAt w (Nh.toL y) b m d) (x0 : 0 < x) (y0 : 0 < y) (hn : n ≤ N) (hm : m ≤ N) (hN : N ≤ 67108864) :
  Calls Tryz.prog 126 #[.slice a n c, .slice b m d] w (HPost w (Nat.gcd x y)) := by
 have nz : ((n : Int) == 0) = false := by simp; exact fun e => by have := (hlen_zero ha).1 e; omega
 have mz : ((m : Int) == 0) = false := by simp; exact fun e => by have := (hlen_zero hb).1 e; omega
 obtain ⟨G, hG⟩ : ∃ G, Nat.gcd x y = G := ⟨_, rfl⟩
 have S : Hid (GdA w G N x (.slice a n c) (.slice b m d) (.int .i64 0) w) := by
  refine ⟨x, y, 0, a, n, c, b, m, d, rfl, rfl, rfl, Nat.le_refl _, ha, hb, by rw [Nat.pow_zero, Nat.mul_one]; exact hG, x0, y0, hn, hm, by omega, ?_, Below.refl _ _⟩
  have h1 := Nh.vl_lt (Nh.toL_lm x)
  rw [Nh.vl_toL, ha.len] at h1
  have h2 : G ≤ x := by rw [← hG]; exact Nat.gcd_le_left y x0
  have h3 : 65536 ^ n ≤ 2 ^ (16 * N) := by rw [Nat.pow_mul]; exact Nat.pow_le_pow_right (by decide) hn
  exact Nat.lt_of_le_of_lt h2 (Nat.lt_of_lt_of_le h1 h3)
 rw [hG]
 clear ha hb x0 y0 hn hm hG
 go_enter Tryz.func126, Tryz.ntmps126
 go_wp2_with fail
 clear nz mz
 go_loopg [0, 1, 5] x (fun k v0 v1 v2 wr => GdA w G N k v0 v1 v2 wr)
 case atStart => exact S.out
 case round =>
  obtain ⟨p, q, t, a, n, c, b, m, d, rfl, rfl, rfl, hk, hI⟩ := hrel
  have I := Lib.hid hI
  have n1 := hI.n1; have m1 := hI.m1; have t1 := hI.t1; have p0 := hI.p0
  clear hI
  by_cases hb2 : p % 2 = 0 ∧ q % 2 = 0
  ·obtain ⟨e1, e2⟩ := hb2
   have C1 := Lib.hid (hbit_any I.out.A e1)
   have C2 := Lib.hid (hbit_any I.out.B e2)
   have C3 := Lib.hid (hhalf_any I.out.A (by omega))
   have E := Lib.hid e1; have E' := Lib.hid e2
   clear e1 e2
   obtain ⟨wo, rfl⟩ : ∃ wo : World, wo = wr := ⟨_, rfl⟩
   go_wp2_with fail
   refine C1.out.mono ?_
   rintro e w' ⟨rfl, rfl⟩
   go_wp2_with fail
   refine C2.out.mono ?_
   rintro e w' ⟨rfl, rfl⟩
   go_wp2_with fail
   refine C3.out.mono ?_
   rintro e w3 ⟨a3, n3, c3, rfl, L3, B3⟩
   have L3 := Lib.hid L3; have B3 := Lib.hid B3
   have C4 := Lib.hid (hhalf_any (I.out.B.below B3.out) (by omega))
   go_wp2_with fail
   refine C4.out.mono ?_
   rintro e w4 ⟨a4, n4, c4, rfl, L4, B4⟩
   have L4 := Lib.hid L4; have B4 := Lib.hid B4
   go_wp2_with fail
   go_roundg (p / 2)
   case rel => exact ⟨p / 2, q / 2, t + 1, a3, n3, c3, a4, n4, c4, rfl, rfl, by go_num, Nat.le_refl _, I.out.both E.out E'.out L3.out B3.out L4.out B4.out⟩
   case measure => omega
  ·have ODD : Hid (p % 2 = 0 → q % 2 = 1) := fun e => by omega
   obtain ⟨z1, hz1⟩ : ∃ z, p % 2 = z := ⟨_, rfl⟩
   obtain ⟨z2, hz2⟩ : ∃ z, q % 2 = z := ⟨_, rfl⟩
   have C1 := Lib.hid (hbit_any I.out.A hz1)
   have C2 := Lib.hid (hbit_any I.out.B hz2)
   have zz : ¬ (z1 = 0 ∧ z2 = 0) := by omega
   clear hb2 hz1 hz2
   obtain ⟨wo, hwo⟩ : ∃ wo : World, wo = wr := ⟨_, rfl⟩
   go_upto_region 6 with fail
   go_cut [22] (fun v W => v = .bool false ∧ W = wr)
   case first =>
    by_cases q1 : z1 = 0
    ·have q2 : ((z2 : Int) == 0) = false := by simp; omega
     subst q1
     clear zz
     go_wp2_with fail
     refine C1.out.mono ?_
     rintro e w' ⟨rfl, rfl⟩
     go_wp2_with fail
     refine C2.out.mono ?_
     rintro e w' ⟨rfl, rfl⟩
     go_wp2_with fail
     go_meet
     case rel => exact ⟨rfl, rfl⟩
    ·have q2 : ((z1 : Int) == 0) = false := by simp; omega
     clear zz
     go_wp2_with fail
     refine C1.out.mono ?_
     rintro e w' ⟨rfl, rfl⟩
     go_wp2_with fail
     go_meet
     case rel => exact ⟨rfl, rfl⟩
   case rest =>
    obtain ⟨rfl, rfl⟩ := hcut
    clear C1 C2 zz hwo
    have SO : Hid (GdO w G N (p + q) t (.slice a n c) (.slice b m d) wc) := ⟨p, q, a, n, c, b, m, d, rfl, rfl, Nat.le_refl _, I.out.A, fun e => by omega, fun _ => ⟨ODD.out, I.out⟩⟩
    have tb : t ≤ 1073741824 := by omega
    clear I ODD n1 m1 t1 p0 hk S
    go_wp2_with fail
    go_loopg [0, 1] (p + q) (fun k v0 v1 wr => GdO w G N k t v0 v1 wr)
    case atStart => exact SO.out
    case round =>
     clear SO
     obtain ⟨p, q, a, n, c, b, m, d, rfl, rfl, hk, hA, hz, hnz⟩ := hrel
     by_cases p0 : p = 0
     ·obtain ⟨hB, q0, hG, hm, hbl⟩ := hz p0
      have n0 : n = 0 := (hlen_zero hA).2 p0
      have BL := Lib.hid hbl; have HG := Lib.hid hG
      ·have C := Lib.hid (hshl_at hB q0 (by omega) tb)
       subst n0
       clear hA hz hnz hB hG hbl p0
       go_wp2_with fail
       refine C.out.mono ?_
       rintro e w2 ⟨a2, n2, c2, rfl, L2, B2⟩
       have L2 := Lib.hid L2; have B2 := Lib.hid B2
       go_wp2_with fail
       go_ret
       exact ⟨a2, n2, c2, rfl, by rw [← HG.out]; exact L2.out, Below.over BL.out BL.out.size B2.out⟩
     ·obtain ⟨hodd, hI⟩ := hnz p0
      have n0 : 0 < n := by have := (hlen_zero hA).1; omega
      have n0' : decide (0 < n) = true := decide_eq_true n0
      have SL : Hid (GdL w G N p t (p + q) b q m d (.slice a n c) wr) := ⟨p, a, n, c, rfl, Nat.le_refl _, Nat.le_refl _, hodd, hI⟩
      clear hA hz hnz hodd hI p0
      go_wp2_with fail
      go_loopg [0] p (fun k v0 wr => GdL w G N k t (p + q) b q m d v0 wr)
      case atStart => exact SL.out
      case round =>
       clear SL n0 n0'
       obtain ⟨p1, a, n, c, rfl, hk1, hs, hodd, hI⟩ := hrel
       have I := Lib.hid hI; have ODD := Lib.hid hodd
       have n1 := hI.n1; have m1 := hI.m1; have p0 := hI.p0
       clear hI hodd
       by_cases e1 : p1 % 2 = 0
       ·have e2 := ODD.out e1
        have C1 := Lib.hid (hbit_any I.out.A e1)
        have C3 := Lib.hid (hhalf_any I.out.A (by omega))
        have E := Lib.hid e1; have E' := Lib.hid e2
        clear e1 e2
        go_wp2_with fail
        refine C1.out.mono ?_
        rintro e w' ⟨rfl, rfl⟩
        go_wp2_with fail
        refine C3.out.mono ?_
        rintro e w3 ⟨a3, n3, c3, rfl, L3, B3⟩
        have L3 := Lib.hid L3; have B3 := Lib.hid B3
        go_wp2_with fail
        go_roundg (p1 / 2)
        case rel => exact ⟨p1 / 2, a3, n3, c3, rfl, Nat.le_refl _, by omega, fun _ => E'.out, I.out.left E.out E'.out L3.out B3.out⟩
        case measure => omega
       ·have e1 : p1 % 2 = 1 := by omega
        have C1 := Lib.hid (hbit_any I.out.A e1)
        have SR : Hid (GdR w G N q t (p + q) a p1 n c (.slice b m d) wr) := ⟨q, b, m, d, rfl, Nat.le_refl _, hs, I.out⟩
        have OP := Lib.hid e1
        clear e1 I ODD hs
        go_wp2_with fail
        refine C1.out.mono ?_
        rintro e w' ⟨rfl, rfl⟩
        clear C1
        go_wp2_with fail
        go_loopg [1] q (fun k v1 wr => GdR w G N k t (p + q) a p1 n c v1 wr)
        case atStart => exact SR.out
        case round =>
         clear SR
         obtain ⟨q1, b, m, d, rfl, hk2, hs, hI⟩ := hrel
         have I := Lib.hid hI
         have m1 := hI.m1; have q0 := hI.q0
         clear hI
         by_cases e1 : q1 % 2 = 0
         ·have C1 := Lib.hid (hbit_any I.out.B e1)
          have C3 := Lib.hid (hhalf_any I.out.B (by omega))
          have E := Lib.hid e1
          clear e1
          go_wp2_with fail
          refine C1.out.mono ?_
          rintro e w' ⟨rfl, rfl⟩
          go_wp2_with fail
          refine C3.out.mono ?_
          rintro e w3 ⟨a3, n3, c3, rfl, L3, B3⟩
          have L3 := Lib.hid L3; have B3 := Lib.hid B3
          go_wp2_with fail
          go_roundg (q1 / 2)
          case rel => exact ⟨q1 / 2, a3, n3, c3, rfl, Nat.le_refl _, by omega, I.out.right E.out OP.out L3.out B3.out⟩
          case measure => omega
         ·have e1 : q1 % 2 = 1 := by omega
          have C1 := Lib.hid (hbit_any I.out.B e1)
          have OQ := Lib.hid e1
          clear e1
          by_cases hlt : p1 < q1
          ·have C2 := Lib.hid (hcmp_at I.out.A I.out.B (z := -1) (by unfold cmpN; rw [if_pos hlt]))
           have C3 := Lib.hid (hsub_at I.out.B I.out.A (by omega) (Nat.le_of_lt hlt))
           go_wp2_with fail
           refine C1.out.mono ?_
           rintro e w' ⟨rfl, rfl⟩
           go_wp2_with fail
           refine C2.out.mono ?_
           rintro e w' ⟨rfl, rfl⟩
           go_wp2_with fail
           refine C3.out.mono ?_
           rintro e w3 ⟨a3, n3, c3, rfl, L3, B3⟩
           have L3 := Lib.hid L3; have B3 := Lib.hid B3
           go_wp2_with fail
           go_roundg q1
           case rel => exact I.out.swap.sub (Nat.le_of_lt hlt) OP.out L3.out B3.out
           case measure => omega
          ·obtain ⟨z, hz, hz0⟩ : ∃ z : Int, cmpN p1 q1 = z ∧ 0 ≤ z := ⟨_, rfl, by unfold cmpN; rw [if_neg hlt]; split <;> omega⟩
           have C2 := Lib.hid (hcmp_at I.out.A I.out.B hz)
           have C3 := Lib.hid (hsub_at I.out.A I.out.B (by omega) (by omega))
           clear hz
           go_wp2_with fail
           refine C1.out.mono ?_
           rintro e w' ⟨rfl, rfl⟩
           go_wp2_with fail
           refine C2.out.mono ?_
           rintro e w' ⟨rfl, rfl⟩
           go_wp2_with fail
           refine C3.out.mono ?_
           rintro e w3 ⟨a3, n3, c3, rfl, L3, B3⟩
           have L3 := Lib.hid L3; have B3 := Lib.hid B3
           go_wp2_with fail
           go_roundg p1
           case rel => exact I.out.sub (by omega) OQ.out L3.out B3.out
           case measure => omega
theorem top_blen {x k : Nat} (hl : (Nh.toL x).length = k + 1) : Nh.blen x = 16 * k + Nh.blen ((Nh.toL x).getD k 0) := by
 have e := Nh.vh_at (Nh.toL x) k
 rw [Nh.vl_toL, List.drop_of_length_le (by omega)] at e
 have t0 : (Nh.toL x).getD k 0 ≠ 0 := by
  rcases Nh.toL_last x with q | q
  ·rw [q] at hl; simp at hl
  ·intro h; apply q
   rw [List.getLast?_eq_getElem?, hl, Nat.add_sub_cancel, List.getElem?_eq_getElem (by omega)]
   rw [List.getD_eq_getElem?_getD, List.getElem?_eq_getElem (by omega)] at h
   simpa using h
 have lo := Nh.vh_take_lt (Nh.toL_lm x) k
 have pw : 65536 ^ k = 2 ^ (16 * k) := by rw [Nat.pow_mul]
 rw [pw] at e lo
 generalize Nh.vl ((Nh.toL x).take k) = l at *
 generalize (Nh.toL x).getD k 0 = t at *
 have : x = l + 2 ^ (16 * k) * t := by rw [e]; simp [Nh.vl]
 rw [this]; exact Nh.blen_top t0 lo
def LnL (B : Nat) (v i : Value) : Prop := ∃ (x n : Nat), v = .int .i64 (n : Int) ∧ i = .int .i64 (x : Int) ∧ n + Nh.blen x = B ∧ x < 65536
theorem hlen_any {w : World} {x : Nat} {a : Option Addr} {n c : Nat} (h : HAt w (Nh.toL x) a n c) (hsz : n ≤ 1099511627776) :
  Calls Tryz.prog 95 #[.slice a n c] w fun e w' => e = .returned (.int .i64 ((Nh.blen x : Nat) : Int)) ∧ w = w' := by
 have hc := h.cap; have hle := h.le
 by_cases h0 : n = 0
 ·have E : Hid (Nh.blen x = 0) := by show _ = _; rw [(hlen_zero h).1 h0]; rfl
  clear h
  subst h0
  go_enter Tryz.func95, Tryz.ntmps95
  go_wp2_with fail
  go_ret
  exact ⟨by rw [E.out]; rfl, rfl⟩
 ·obtain ⟨k, rfl⟩ : ∃ k, n = k + 1 := ⟨n - 1, by omega⟩
  obtain ⟨b, o, rfl, d⟩ := h.at_ (by intro e; have := h.len; rw [e] at this; simp at this)
  have p := d k (by rw [h.len]; omega)
  have tb := top_blen h.len
  obtain ⟨t, ht⟩ : ∃ t, (Nh.toL x).getD k 0 = t := ⟨_, rfl⟩
  have t1 : t < 65536 := by rw [← ht]; exact Nh.lm_getD (Nh.toL_lm x) k
  rw [ht] at p tb
  obtain ⟨B, hB⟩ : ∃ B, Nh.blen x = B := ⟨_, rfl⟩
  have bt : Nh.blen t ≤ 16 := Nh.blen_le.2 (by omega)
  have Bb : B ≤ 17592186044432 := by omega
  have TB : Hid (16 * k + Nh.blen t = B) := by show _ = _; rw [← hB, tb]
  rw [hB]
  clear h d h0 ht hB tb bt
  have wm : IntKind.i64.wrap (16 * (k : Int)) = 16 * (k : Int) := IntWalk.i64_in _ (by omega)
  go_enter Tryz.func95, Tryz.ntmps95
  go_wp2_with fail
  go_loop [3, 4] (fun v i => LnL B v i) (fun _ i => (intOf i).toNat)
  case atStart => exact ⟨t, 16 * k, by go_num, rfl, TB.out, t1⟩
  case round =>
   obtain ⟨y, m, rfl, rfl, hb, hy⟩ := hrel
   have HB := Lib.hid hb
   have mB : m ≤ B := by omega
   clear hb
   by_cases y0 : y = 0
   ·have E : Hid (m = B) := by show _ = _; have := HB.out; rw [y0] at this; exact this
    subst y0
    go_wp2_with fail
    go_ret
    exact ⟨by rw [E.out]; rfl, rfl⟩
   ·have H2 : Hid (m + 1 + Nh.blen (y / 2) = B) := by show _ = _; have := HB.out; rw [Nh.blen_half y0] at this; omega
    go_wp2_with fail
    go_round
    case rel => exact ⟨y / 2, m + 1, by go_num, by go_num, H2.out, by omega⟩
    case measure => simp [intOf]; omega
end Go.Proofs.YtijdglogadnbcaaGreat
