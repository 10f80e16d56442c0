/- slices.Clone of limbs, nat.plus, nat.Add, nat.Sub. -/
import Derived.Test.YtijdglogadnbcaaZ01
set_option linter.unusedVariables false
set_option linter.unusedSimpArgs false
set_option maxRecDepth 100000
set_option maxHeartbeats 40000000
namespace Go.Proofs.Ytijdglogadnbcaa
open Go.RowKit Nt
theorem trm_take {l : List Nat} (h : Lm l) : trm l = l.take (trm l).length := by
 induction l with
 | nil => unfold trm; rw [show vl [] = 0 from rfl, toL_zero]; rfl
 | cons x l ih =>
  have h2 : Lm l := fun y hy => h y (List.mem_cons_of_mem _ hy)
  rw [trm_cons (h x List.mem_cons_self)]
  split
  ·rfl
  ·rw [List.length_cons, List.take_succ_cons, ← ih h2]
theorem trm_len_le {l : List Nat} (h : Lm l) : (trm l).length ≤ l.length := by
 have := congrArg List.length (trm_take h)
 rw [List.length_take] at this
 omega
theorem LAt.trim {w : World} {l : List Nat} {a : Option Addr} {n c : Nat} (h : LAt w l a n c) : LAt w (toL (vl l)) a (trm l).length c := by
 have e := trm_take h.lm
 have le := trm_len_le h.lm
 refine ⟨fun hne => ?_, rfl, ?_, h.cap, toL_lm _⟩
 ·have hl : l ≠ [] := by
   intro q; apply hne
   rw [q]; exact toL_zero
  obtain ⟨b, o, rfl, d⟩ := h.at_ hl
  refine ⟨b, o, rfl, fun i hi => ?_⟩
  have hi : i < (trm l).length := hi
  rw [d i (by omega)]
  show _ = some (Value.int .u32 (((trm l).getD i 0 : Nat) : Int))
  rw [e]
  simp only [List.getD_eq_getElem?_getD, List.getElem?_take, if_pos hi]
 ·have := h.len; have := h.le; omega
theorem trim_at {w : World} {l : List Nat} {a : Option Addr} {n c : Nat} (h : LAt w l a n c) :
  Calls Try.prog 55 #[.slice a n c] w fun e w' => e = .returned (.slice a (trm l).length c) ∧ w = w' :=
 trim_any h.at_ h.len h.le h.cap h.lm
/-- A number in new memory. -/
def NPost (w : World) (x : Nat) (e : Ending) (w' : World) : Prop := ∃ a n c, e = .returned (.slice a n c) ∧ LAt w' (toL x) a n c ∧ Below w.heap.size w w'
def PlL (w : World) (g : Nat) (la lb : List Nat) (n : Nat) (c k : Value) (wr : World) : Prop :=
 ∃ (j : Nat) (ds : List Nat) (cc : Nat), j ≤ n ∧ k = .int .i64 (j : Int) ∧ c = .int .u64 (cc : Int) ∧ AddI la lb j ds cc ∧ UB wr g (ds ++ (la ++ [0]).drop j) ∧ Below w.heap.size w wr
theorem set_mid {ds l : List Nat} {j v : Nat} (h : ds.length = j) (hl : j < l.length) : (ds ++ l.drop j).set j v = (ds ++ [v]) ++ l.drop (j + 1) := by
 subst h
 rw [List.set_append_right _ _ (Nat.le_refl _), Nat.sub_self, List.drop_eq_getElem_cons hl, List.set_cons_zero, List.append_assoc]
 rfl
theorem getD_mid {ds l : List Nat} {j : Nat} (h : ds.length = j) (hl : j < l.length) : (ds ++ l.drop j).getD j 0 = l.getD j 0 := by
 subst h
 rw [List.getD_eq_getElem?_getD, List.getElem?_append_right (Nat.le_refl _), Nat.sub_self, List.getElem?_drop, Nat.add_zero, ← List.getD_eq_getElem?_getD]
theorem getD_snoc0 (l : List Nat) (j : Nat) : (l ++ [0]).getD j 0 = l.getD j 0 := by
 simp only [List.getD_eq_getElem?_getD]
 by_cases h : j < l.length
 ·rw [List.getElem?_append_left h]
 ·rw [List.getElem?_append_right (by omega), List.getElem?_eq_none (l := l) (by omega)]
  by_cases e : j - l.length = 0
  ·rw [e]; rfl
  ·rw [List.getElem?_eq_none (by simp; omega)]
theorem splice_copy (la : List Nat) : splice (u32s (List.replicate (la.length + 1) 0)) 0 (u32s la) = u32s (la ++ [0]) := by
 unfold splice u32s
 simp
theorem hsz111 : (Try.prog.info? 55).map (·.size) = some 1 := by kernel_rfl
theorem u32s_one (l : List Nat) : ∀ v ∈ u32s l, v.oneCell' = true := by
 intro v hv
 obtain ⟨x, _, rfl⟩ := List.mem_map.1 hv
 rfl
theorem below_grown {w w1 : World} (h : w.grownBy w1 none) : Below w.heap.size w w1 := ⟨h.os, h.tape, h.output, h.size, fun k hk => h.block k hk (by simp)⟩
theorem ub_made {w1 : World} {g n : Nat} (h : w1.ownsRow 0 55 1 (.slice (some ⟨g, 0, none⟩) n n) n (madeCells (Value.int .u32 0).cells (n * 1)).toList) : UB w1 g (List.replicate n 0) := by
 rw [made_u32] at h; exact UB.of_own (c := 0) h
theorem LAt.src {w : World} {l : List Nat} {a : Option Addr} {n c : Nat} (h : LAt w l a n c) {w1 : World} (hb : Below w.heap.size w w1) (h0 : 0 < (u32s l).length) :
  ∃ ad, a = some ad ∧ ∀ j v, (u32s l)[j]? = some v → w1.cell? (ad.add j) = some v := by
 rw [u32s_length] at h0
 obtain ⟨b0, o0, rfl, d⟩ := h.at_ (by intro e; rw [e] at h0; simp at h0)
 refine ⟨_, rfl, fun j v hj => ?_⟩
 have hj2 : j < l.length := by
  have := (List.getElem?_eq_some_iff.1 hj).1
  rwa [u32s_length] at this
 rw [u32s_get l hj2] at hj
 rw [Addr.add_lit, ← hj]
 exact cell_later hb (Nat.le_refl _) (d j hj2)
theorem PlL.step {w wr : World} {g n j cc s : Nat} {la lb ds : List Nat} (hla : Lm la) (hlb : Lm lb) (hn : (la ++ [0]).length = n) (hj : j < n) (I : AddI la lb j ds cc) (U : UB wr g (ds ++ (la ++ [0]).drop j)) (B : Below w.heap.size w wr) (hg : w.heap.size ≤ g) (hs : s = cc + la.getD j 0 + lb.getD j 0) :
  PlL w g la lb n (.int .u64 ((s : Int) / 4294967296)) (.int .i64 ((j : Int) + 1)) (wr.setCell ⟨g, j, none⟩ (.int .u32 ((s : Int) % 4294967296))) := by
 refine ⟨j + 1, ds ++ [s % 4294967296], s / 4294967296, by omega, by go_num, by go_num, by rw [hs]; exact I.step hla hlb, ?_, B.setCell hg _⟩
 have := U.set j (s % 4294967296)
 rw [set_mid I.len (by omega)] at this
 rw [show ((s : Int) % 4294967296) = ((s % 4294967296 : Nat) : Int) from by omega]
 exact this
theorem NPost.of_trim {w wr : World} {l : List Nat} {a : Option Addr} {n c x : Nat} (h : LAt wr l a n c) (hb : Below w.heap.size w wr) (hx : vl l = x) : NPost w x (.returned (.slice a (trm l).length c)) wr :=
 ⟨a, _, c, rfl, by rw [← hx]; exact h.trim, hb⟩
theorem plus_ge {w : World} {la lb : List Nat} {a b : Option Addr} {na nb ca cb : Nat} (ha : LAt w la a na ca) (hb : LAt w lb b nb cb) (hge : ¬ na < nb) (hsz : na ≤ 1099511627776) (hszb : nb ≤ 1099511627776) :
  Calls Try.prog 88 #[.slice a na ca, .slice b nb cb] w (NPost w (vl la + vl lb)) := by
 have A := Lib.hid ha; have B := Lib.hid hb
 clear ha hb
 obtain ⟨i0, hi0, hz0, hz1, hz2⟩ := info_parts info111
 have hge2 : (nb : Int) ≤ (na : Int) := by omega
 go_enter Try.func88, Try.ntmps88
 go_wp2_with (first
  | (at_make; refine wpList_make_full _ rfl _ _ 24 rfl 0 55 i0 (.int .u32 0) 1 Try.underlying24 hi0 hz0 hz1 .i64 .i64 _ _ (na + 1) rfl rfl (by omega) (by omega) (by rw [hz2]; omega) (by unfold maxLen; omega) (Nat.zero_le _) ?_; intro w1 hown1 hg1; have U1 := Lib.hid (ub_made hown1); have B1 := Lib.hid (below_grown hg1); clear hown1 hg1)
  | (refine wpList_copy_splice (o := ⟨some 21, _, _, _, _, _⟩) rfl (.tmp 19) (.tmp 20) 24 24 rfl 55 Try.underlying24 hsz111 (some ⟨w.heap.size, 0, none⟩) a (na + 1) (na + 1) na ca rfl rfl w.heap.size 0 (u32s (List.replicate (na + 1) 0)) 55 U1.out (u32s la) (by rw [u32s_length, A.out.len]; exact (Nat.min_eq_left (by omega)).symm) (fun h0 => ⟨rfl, A.out.src B1.out h0⟩) (by rw [u32s_length, u32s_length, List.length_replicate, A.out.len]; omega) (u32s_one la) w.heap.size w B1.out (Nat.le_refl _) ?_; intro w2 HG2 hb2; have B2 := Lib.hid hb2; clear hb2))
 have U2 : Hid (UB w2 w.heap.size (la ++ [0])) := by
  show UB _ _ _
  have := HG2.out
  rw [← A.out.len, splice_copy] at this
  exact this
 clear HG2 U1 B1
 have hlen : Hid ((la ++ [0]).length = na + 1) := by show _ = _; rw [List.length_append, A.out.len]; rfl
 go_loopw [6, 24] (fun c k wr => PlL w w.heap.size la lb (na + 1) c k wr) (fun _ k _ => na + 1 - (intOf k).toNat)
 case atStart => exact ⟨0, [], 0, Nat.zero_le _, rfl, rfl, AddI.nil la lb, U2.out, B2.out⟩
 case round =>
  obtain ⟨j, ds, cc, hj, rfl, rfl, hI, hU, hB⟩ := hrel
  have I := Lib.hid hI; have U := Lib.hid hU; have BR := Lib.hid hB
  clear hI hU hB
  by_cases hlt : j < na + 1
  ·have p1 := U.out.cell (i := j) (by rw [List.length_append, I.out.len, List.length_drop, hlen.out]; omega)
   rw [getD_mid I.out.len (by rw [hlen.out]; exact hlt), getD_snoc0] at p1
   have f1 := U.out.free j
   obtain ⟨x, hx⟩ : ∃ x, la.getD j 0 = x := ⟨_, rfl⟩
   obtain ⟨y, hy⟩ : ∃ y, lb.getD j 0 = y := ⟨_, rfl⟩
   have xb : x < 4294967296 := by rw [← hx]; exact lm_getD A.out.lm j
   have yb : y < 4294967296 := by rw [← hy]; exact lm_getD B.out.lm j
   have cb := I.out.c1
   rw [hx] at p1
   have HX := Lib.hid hx; have HY := Lib.hid hy
   clear hx hy
   by_cases hjb : j < nb
   ·obtain ⟨b2, o2, rfl, d2⟩ := B.out.at_ (by intro e; have := B.out.len; rw [e] at this; simp at this; omega)
    have p2 := cell_later BR.out (Nat.le_refl _) (d2 j (by rw [B.out.len]; exact hjb))
    rw [HY.out] at p2
    clear d2
    go_wp2_with fail
    go_roundw
    case rel =>
     rw [show (cc : Int) + (x : Int) + (y : Int) = ((cc + x + y : Nat) : Int) from by omega]
     exact PlL.step A.out.lm B.out.lm hlen.out hlt I.out U.out BR.out (Nat.le_refl _) (by rw [HX.out, HY.out])
    case measure => simp [intOf]; omega
   ·have Y0 : Hid (y = 0) := by
     show _ = _
     rw [← HY.out, List.getD_eq_getElem?_getD, List.getElem?_eq_none (by rw [B.out.len]; omega)]; rfl
    have hjb2 : (nb : Int) ≤ (j : Int) := by omega
    go_wp2_with fail
    go_roundw
    case rel =>
     rw [show (cc : Int) + (x : Int) = ((cc + x : Nat) : Int) from by omega]
     exact PlL.step A.out.lm B.out.lm hlen.out hlt I.out U.out BR.out (Nat.le_refl _) (by rw [HX.out, HY.out, Y0.out, Nat.add_zero])
    case measure => simp [intOf]; omega
  ·obtain rfl : j = na + 1 := by omega
   have D : Hid (ds ++ (la ++ [0]).drop (na + 1) = ds) := by show _ = _; rw [List.drop_of_length_le (by rw [hlen.out]; exact Nat.le_refl _), List.append_nil]
   have L : Hid (LAt wr ds (some ⟨w.heap.size, 0, none⟩) (na + 1) (na + 1)) := ⟨(D.out ▸ U.out).at_, I.out.len, Nat.le_refl _, by omega, I.out.lm⟩
   have V : Hid (vl ds = vl la + vl lb) := by
    show _ = _
    have := (I.out.done (by rw [A.out.len]; omega) (by rw [B.out.len]; omega) (by rw [← A.out.len]; exact add_fits A.out.lm B.out.lm (by rw [A.out.len, B.out.len]; omega))).2
    exact this
   go_wp2_with (go_at_call 55; refine (trim_at L.out).mono ?_; rintro e w' ⟨rfl, rfl⟩)
   go_ret
   exact NPost.of_trim L.out BR.out V.out
theorem plus_lt {w : World} {la lb : List Nat} {a b : Option Addr} {na nb ca cb : Nat} (ha : LAt w la a na ca) (hb : LAt w lb b nb cb) (hge : na < nb) (hsz : na ≤ 1099511627776) (hszb : nb ≤ 1099511627776) :
  Calls Try.prog 88 #[.slice a na ca, .slice b nb cb] w (NPost w (vl la + vl lb)) := by
 have A := Lib.hid ha; have B := Lib.hid hb
 clear ha hb
 obtain ⟨i0, hi0, hz0, hz1, hz2⟩ := info_parts info111
 have hge2 : (na : Int) < (nb : Int) := by omega
 go_enter Try.func88, Try.ntmps88
 go_wp2_with (first
  | (at_make; refine wpList_make_full _ rfl _ _ 24 rfl 0 55 i0 (.int .u32 0) 1 Try.underlying24 hi0 hz0 hz1 .i64 .i64 _ _ (nb + 1) rfl rfl (by omega) (by omega) (by rw [hz2]; omega) (by unfold maxLen; omega) (Nat.zero_le _) ?_; intro w1 hown1 hg1; have U1 := Lib.hid (ub_made hown1); have B1 := Lib.hid (below_grown hg1); clear hown1 hg1)
  | (refine wpList_copy_splice (o := ⟨some 21, _, _, _, _, _⟩) rfl (.tmp 19) (.tmp 20) 24 24 rfl 55 Try.underlying24 hsz111 (some ⟨w.heap.size, 0, none⟩) b (nb + 1) (nb + 1) nb cb rfl rfl w.heap.size 0 (u32s (List.replicate (nb + 1) 0)) 55 U1.out (u32s lb) (by rw [u32s_length, B.out.len]; exact (Nat.min_eq_left (by omega)).symm) (fun h0 => ⟨rfl, B.out.src B1.out h0⟩) (by rw [u32s_length, u32s_length, List.length_replicate, B.out.len]; omega) (u32s_one lb) w.heap.size w B1.out (Nat.le_refl _) ?_; intro w2 HG2 hb2; have B2 := Lib.hid hb2; clear hb2))
 have U2 : Hid (UB w2 w.heap.size (lb ++ [0])) := by
  show UB _ _ _
  have := HG2.out
  rw [← B.out.len, splice_copy] at this
  exact this
 clear HG2 U1 B1
 have hlen : Hid ((lb ++ [0]).length = nb + 1) := by show _ = _; rw [List.length_append, B.out.len]; rfl
 go_loopw [6, 24] (fun c k wr => PlL w w.heap.size lb la (nb + 1) c k wr) (fun _ k _ => nb + 1 - (intOf k).toNat)
 case atStart => exact ⟨0, [], 0, Nat.zero_le _, rfl, rfl, AddI.nil lb la, U2.out, B2.out⟩
 case round =>
  obtain ⟨j, ds, cc, hj, rfl, rfl, hI, hU, hB⟩ := hrel
  have I := Lib.hid hI; have U := Lib.hid hU; have BR := Lib.hid hB
  clear hI hU hB
  by_cases hlt : j < nb + 1
  ·have p1 := U.out.cell (i := j) (by rw [List.length_append, I.out.len, List.length_drop, hlen.out]; omega)
   rw [getD_mid I.out.len (by rw [hlen.out]; exact hlt), getD_snoc0] at p1
   have f1 := U.out.free j
   obtain ⟨x, hx⟩ : ∃ x, lb.getD j 0 = x := ⟨_, rfl⟩
   obtain ⟨y, hy⟩ : ∃ y, la.getD j 0 = y := ⟨_, rfl⟩
   have xb : x < 4294967296 := by rw [← hx]; exact lm_getD B.out.lm j
   have yb : y < 4294967296 := by rw [← hy]; exact lm_getD A.out.lm j
   have cb := I.out.c1
   rw [hx] at p1
   have HX := Lib.hid hx; have HY := Lib.hid hy
   clear hx hy
   by_cases hjb : j < na
   ·obtain ⟨b2, o2, rfl, d2⟩ := A.out.at_ (by intro e; have := A.out.len; rw [e] at this; simp at this; omega)
    have p2 := cell_later BR.out (Nat.le_refl _) (d2 j (by rw [A.out.len]; exact hjb))
    rw [HY.out] at p2
    clear d2
    go_wp2_with fail
    go_roundw
    case rel =>
     rw [show (cc : Int) + (x : Int) + (y : Int) = ((cc + x + y : Nat) : Int) from by omega]
     exact PlL.step B.out.lm A.out.lm hlen.out hlt I.out U.out BR.out (Nat.le_refl _) (by rw [HX.out, HY.out])
    case measure => simp [intOf]; omega
   ·have Y0 : Hid (y = 0) := by
     show _ = _
     rw [← HY.out, List.getD_eq_getElem?_getD, List.getElem?_eq_none (by rw [A.out.len]; omega)]; rfl
    have hjb2 : (na : Int) ≤ (j : Int) := by omega
    go_wp2_with fail
    go_roundw
    case rel =>
     rw [show (cc : Int) + (x : Int) = ((cc + x : Nat) : Int) from by omega]
     exact PlL.step B.out.lm A.out.lm hlen.out hlt I.out U.out BR.out (Nat.le_refl _) (by rw [HX.out, HY.out, Y0.out, Nat.add_zero])
    case measure => simp [intOf]; omega
  ·obtain rfl : j = nb + 1 := by omega
   have D : Hid (ds ++ (lb ++ [0]).drop (nb + 1) = ds) := by show _ = _; rw [List.drop_of_length_le (by rw [hlen.out]; exact Nat.le_refl _), List.append_nil]
   have L : Hid (LAt wr ds (some ⟨w.heap.size, 0, none⟩) (nb + 1) (nb + 1)) := ⟨(D.out ▸ U.out).at_, I.out.len, Nat.le_refl _, by omega, I.out.lm⟩
   have V : Hid (vl ds = vl la + vl lb) := by
    show _ = _
    have := (I.out.done (by rw [B.out.len]; omega) (by rw [A.out.len]; omega) (by rw [← B.out.len]; exact add_fits B.out.lm A.out.lm (by rw [B.out.len, A.out.len]; omega))).2
    rw [Nat.add_comm]; exact this
   go_wp2_with (go_at_call 55; refine (trim_at L.out).mono ?_; rintro e w' ⟨rfl, rfl⟩)
   go_ret
   exact NPost.of_trim L.out BR.out V.out
theorem plus_any {w : World} {la lb : List Nat} {a b : Option Addr} {na nb ca cb : Nat} (ha : LAt w la a na ca) (hb : LAt w lb b nb cb) (hsz : na ≤ 1099511627776) (hszb : nb ≤ 1099511627776) :
  Calls Try.prog 88 #[.slice a na ca, .slice b nb cb] w (NPost w (vl la + vl lb)) := by
 by_cases h : na < nb
 ·exact plus_lt ha hb h hsz hszb
 ·exact plus_ge ha hb h hsz hszb
def MuO (w : World) (g : Nat) (la lb : List Nat) (na n : Nat) (i : Value) (wr : World) : Prop :=
 ∃ (k : Nat) (out : List Nat), k ≤ na ∧ i = .int .i64 (k : Int) ∧ MulI la lb n k 0 out 0 ∧ UB wr g out ∧ Below w.heap.size w wr
def MuN (w : World) (g : Nat) (la lb : List Nat) (n i nb : Nat) (c k : Value) (wr : World) : Prop :=
 ∃ (j cc : Nat) (out : List Nat), j ≤ nb ∧ k = .int .i64 (j : Int) ∧ c = .int .u64 (cc : Int) ∧ MulI la lb n i j out cc ∧ UB wr g out ∧ Below w.heap.size w wr
theorem MuN.step {w wr : World} {g n i j nb cc s : Nat} {la lb out : List Nat} (hla : Lm la) (hlb : Lm lb) (hn : lb.length = nb) (hj : j < nb) (hin : i + j < n) (M : MulI la lb n i j out cc) (U : UB wr g out) (B : Below w.heap.size w wr) (hg : w.heap.size ≤ g)
  (hs : s = cc + la.getD i 0 * lb.getD j 0 + out.getD (i + j) 0) :
  MuN w g la lb n i nb (.int .u64 ((s : Int) / 4294967296)) (.int .i64 ((j : Int) + 1)) (wr.setCell ⟨g, i + j, none⟩ (.int .u32 ((s : Int) % 4294967296))) := by
 refine ⟨j + 1, s / 4294967296, out.set (i + j) (s % 4294967296), by omega, by go_num, by go_num, by rw [hs]; exact M.step hla hlb (by omega) hin, ?_, B.setCell hg _⟩
 have := U.set (i + j) (s % 4294967296)
 rw [show ((s : Int) % 4294967296) = ((s % 4294967296 : Nat) : Int) from by omega]
 exact this
theorem mul_any {w : World} {la lb : List Nat} {a b : Option Addr} {na nb ca cb : Nat} (ha : LAt w la a na ca) (hb : LAt w lb b nb cb) (hsz : na ≤ 1099511627776) (hszb : nb ≤ 1099511627776) :
  Calls Try.prog 69 #[.slice a na ca, .slice b nb cb] w (NPost w (vl la * vl lb)) := by
 have A := Lib.hid ha; have B := Lib.hid hb
 have hcb := hb.cap; have hlb := hb.le; have hca := ha.cap; have hlal := ha.le
 clear ha hb
 obtain ⟨i0, hi0, hz0, hz1, hz2⟩ := info_parts info111
 go_enter Try.func69, Try.ntmps69
 go_wp2_with (at_make; refine wpList_make_full _ rfl _ _ 24 rfl 0 55 i0 (.int .u32 0) 1 Try.underlying24 hi0 hz0 hz1 .i64 .i64 _ _ (na + nb) rfl rfl (by omega) (by omega) (by rw [hz2]; omega) (by unfold maxLen; omega) (Nat.zero_le _) ?_; intro w1 hown1 hg1; have U1 := Lib.hid (ub_made hown1); have B1 := Lib.hid (below_grown hg1); clear hown1 hg1)
 go_loopw [19] (fun i wr => MuO w w.heap.size la lb na (na + nb) i wr) (fun i _ => na - (intOf i).toNat)
 case atStart => exact ⟨0, _, Nat.zero_le _, rfl, MulI.nil, U1.out, B1.out⟩
 case round =>
  obtain ⟨i, out, hi, rfl, hM, hU, hB⟩ := hrel
  have M := Lib.hid hM; have U := Lib.hid hU; have BR := Lib.hid hB
  clear hM hU hB
  by_cases hlt : i < na
  ·obtain ⟨b1, o1, rfl, d1⟩ := A.out.at_ (by intro e; have := A.out.len; rw [e] at this; simp at this; omega)
   have p1 := cell_later BR.out (Nat.le_refl _) (d1 i (by rw [A.out.len]; exact hlt))
   clear d1
   obtain ⟨x, hx⟩ : ∃ x, la.getD i 0 = x := ⟨_, rfl⟩
   have xb : x < 4294967296 := by rw [← hx]; exact lm_getD A.out.lm i
   rw [hx] at p1
   have HX := Lib.hid hx; clear hx
   obtain ⟨wo, rfl⟩ : ∃ wo : World, wo = wr := ⟨_, rfl⟩
   go_wp2_with fail
   go_loopw [8, 26] (fun c k wr => MuN w w.heap.size la lb (na + nb) i nb c k wr) (fun _ k _ => nb - (intOf k).toNat)
   case atStart => exact ⟨0, 0, out, Nat.zero_le _, rfl, rfl, M.out, U.out, BR.out⟩
   case round =>
    obtain ⟨j, cc, out2, hj, rfl, rfl, hM2, hU2, hB2⟩ := hrel
    have M2 := Lib.hid hM2; have U2 := Lib.hid hU2; have B2 := Lib.hid hB2
    have c1 := hM2.c1
    clear hM2 hU2 hB2
    by_cases hjb : j < nb
    ·obtain ⟨b2, o2, rfl, d2⟩ := B.out.at_ (by intro e; have := B.out.len; rw [e] at this; simp at this; omega)
     have p2 := cell_later B2.out (Nat.le_refl _) (d2 j (by rw [B.out.len]; exact hjb))
     clear d2
     have p3 := U2.out.cell (i := i + j) (by rw [M2.out.len]; omega)
     have f3 := U2.out.free (i + j)
     obtain ⟨y, hy⟩ : ∃ y, lb.getD j 0 = y := ⟨_, rfl⟩
     obtain ⟨z, hz⟩ : ∃ z, out2.getD (i + j) 0 = z := ⟨_, rfl⟩
     have yb : y < 4294967296 := by rw [← hy]; exact lm_getD B.out.lm j
     have zb : z < 4294967296 := by rw [← hz]; exact lm_getD M2.out.lm (i + j)
     rw [hy] at p2
     rw [hz] at p3
     have HY := Lib.hid hy; have HZ := Lib.hid hz
     clear hy hz
     have cp := (mul_cap xb yb zb c1).1
     go_wp2_with fail
     go_roundw
     case rel =>
      rw [show (cc : Int) + ((x : Int) * (y : Int) + (z : Int)) = ((cc + x * y + z : Nat) : Int) from by rw [Int.natCast_add, Int.natCast_add, Int.natCast_mul, Int.add_assoc]]
      exact MuN.step A.out.lm B.out.lm B.out.len hjb (by omega) M2.out U2.out B2.out (Nat.le_refl _) (by rw [HX.out, HY.out, HZ.out])
     case measure => simp [intOf]; omega
    ·obtain rfl : j = nb := by omega
     have p3 := U2.out.cell (i := i + j) (by rw [M2.out.len]; omega)
     have f3 := U2.out.free (i + j)
     go_wp2_with fail
     go_roundw
     case rel => exact ⟨i + 1, out2.set (i + j) cc, by omega, by go_num, by have := M2.out; rw [← B.out.len] at this ⊢; exact this.next (by omega), U2.out.set (i + j) cc, B2.out.setCell (Nat.le_refl _) _⟩
     case measure => simp [intOf]; omega
  ·obtain rfl : i = na := by omega
   have L : Hid (LAt wr out (some ⟨w.heap.size, 0, none⟩) (i + nb) (i + nb)) := ⟨U.out.at_, M.out.len, Nat.le_refl _, by omega, M.out.lm⟩
   have V : Hid (vl out = vl la * vl lb) := by
    have := M.out
    rw [← A.out.len] at this
    exact this.done
   go_wp2_with (go_at_call 55; refine (trim_at L.out).mono ?_; rintro e w' ⟨rfl, rfl⟩)
   go_ret
   exact NPost.of_trim L.out BR.out V.out
/-- Limbs at the head of a block. -/
def UO (w : World) (g : Nat) (l : List Nat) : Prop := ∃ rest : List Value, w.heap[g]? = some (.cells (u32s l ++ rest).toArray 55 (0, 0))
theorem UB.open_ {w : World} {g : Nat} {l : List Nat} (h : UB w g l) : UO w g l := ⟨[], by rw [List.append_nil]; exact h⟩
theorem UO.cell {w : World} {g : Nat} {l : List Nat} (h : UO w g l) {i : Nat} (hi : i < l.length) : w.cell? ⟨g, i, none⟩ = some (.int .u32 ((l.getD i 0 : Nat) : Int)) := by
 obtain ⟨r, h⟩ := h
 rw [cell_of_row w g i _ _ _ h, List.getElem?_toArray, List.getElem?_append_left (by rw [u32s_length]; exact hi)]; exact u32s_get l hi
theorem UO.free {w : World} {g : Nat} {l : List Nat} (h : UO w g l) (i : Nat) : w.frozen? ⟨g, i, none⟩ = false := by
 obtain ⟨r, h⟩ := h
 simp [World.frozen?, h]
theorem UO.lt {w : World} {g : Nat} {l : List Nat} (h : UO w g l) : g < w.heap.size := by obtain ⟨r, h⟩ := h; exact (Array.getElem?_eq_some_iff.1 h).1
theorem UO.set {w : World} {g : Nat} {l : List Nat} (h : UO w g l) {i : Nat} (hi : i < l.length) (x : Nat) : UO (w.setCell ⟨g, i, none⟩ (.int .u32 ((x : Nat) : Int))) g (l.set i x) := by
 obtain ⟨r, h⟩ := h
 refine ⟨r, ?_⟩
 rw [heap_setCell_same w g i _ _ _ h]
 have : (u32s l ++ r).set i (.int .u32 (x : Int)) = u32s (l.set i x) ++ r := by
  rw [List.set_append_left _ _ (by rw [u32s_length]; exact hi)]
  simp [u32s, List.map_set]
 simp [this]
theorem UO.later {n g : Nat} {w w' : World} {l : List Nat} (h : UO w g l) (hb : Below n w w') (hg : g < n) : UO w' g l := by
 obtain ⟨r, h⟩ := h; exact ⟨r, (hb.block g hg).trans h⟩
theorem UO.at_ {w : World} {g : Nat} {l : List Nat} (h : UO w g l) : UAt w l (some ⟨g, 0, none⟩) := fun _ => ⟨g, 0, rfl, fun i hi => by rw [Nat.zero_add]; exact h.cell hi⟩
/-- What slices.Clone leaves. -/
def ClPost (w : World) (l : List Nat) (n : Nat) (e : Ending) (w' : World) : Prop :=
 ∃ a c, e = .returned (.slice a n c) ∧ LAt w' l a n c ∧ Below w.heap.size w w' ∧ (0 < n → ∃ g, a = some ⟨g, 0, none⟩ ∧ w.heap.size ≤ g ∧ UO w' g l)
theorem clone_none (w : World) (c : Nat) : Calls Try.prog 35 #[.slice none 0 c] w (ClPost w [] 0) := by
 have he := fun (w : World) => Lib.run_eql_slice_nil (P := Try.prog) w 24 55 none 0 c 0 0 Try.underlying24
 go_enter Try.func35, Try.ntmps35
 go_wp2_with fail
 go_ret
 exact ⟨none, 0, rfl, ⟨fun h => absurd rfl h, rfl, Nat.le_refl _, by omega, fun x hx => by simp at hx⟩, Below.refl _ _, fun h => by omega⟩
theorem own_empty (w : World) : (w.alloc (.cells #[] 55)).ownsRow w.heap.size 55 1 (.slice (some ⟨w.heap.size, 0, none⟩) 0 0) 0 [] :=
 World.ownsRow_made w #[] 0 (Nat.le_refl _) (by unfold maxLen; omega) rfl
theorem uo_of_own {w : World} {b g n c : Nat} {l : List Nat} (hl : l.length = n) (h : w.ownsRow b 55 1 (.slice (some ⟨g, 0, none⟩) n c) n (u32s l)) : UO w g l ∧ b ≤ g ∧ n ≤ c ∧ c ≤ 9223372036854775807 := by
 rcases h.2 with ⟨q, _⟩ | ⟨g', cap, cur, q, hb, hg, hc, hm, hs, ht⟩
 ·simp at q
 ·simp only [Value.slice.injEq, Option.some.injEq, Addr.mk.injEq] at q
  obtain ⟨⟨rfl, _, _⟩, _, rfl⟩ := q
  refine ⟨⟨cur.toList.drop n, ?_⟩, hb, hc, hm⟩
  rw [hg]
  congr 2
  rw [Nat.mul_one] at ht
  rw [← ht, List.take_append_drop]
theorem clone_some {w : World} {l : List Nat} {ad : Addr} {n c : Nat} (h : LAt w l (some ad) n c) (hsz : n ≤ 1099511627776) : Calls Try.prog 35 #[.slice (some ad) n c] w (ClPost w l n) := by
 have H := Lib.hid h; clear h
 have B0 : Hid (Below w.heap.size w (w.alloc (.cells #[] 55))) := (Below.refl _ _).alloc (Nat.le_refl _) _
 have NW : Hid (∀ j v, (u32s l)[j]? = some v → (w.alloc (.cells #[] 55)).cell? (ad.add j) = some v) := by
  intro j v hj
  have h0 : 0 < (u32s l).length := by have := (List.getElem?_eq_some_iff.1 hj).1; omega
  obtain ⟨ad', e, f⟩ := H.out.src B0.out h0
  obtain rfl := Option.some.inj e
  exact f j v hj
 obtain ⟨i0, hi0, hz0, hz1, hz2⟩ := info_parts info111
 have he := fun (w : World) => Lib.run_eql_slice_nil (P := Try.prog) w 24 55 (some ad) n c 0 0 Try.underlying24
 go_enter Try.func35, Try.ntmps35
 go_wp2_with (at_builtin; refine wpList_append_own _ rfl _ _ 24 rfl w.heap.size 55 i0 (.int .u32 0) 1 4 Try.underlying24 hi0 hz0 hz1 hz2 rfl (by omega) (.slice (some ⟨w.heap.size, 0, none⟩) 0 0) 0 [] rfl (own_empty w) ad n c (u32s l) rfl (by rw [u32s_length, H.out.len, Nat.mul_one]) NW.out (u32s_one l) (by unfold maxLen; omega) (by omega) (by simp) ?_; intro v' w1 hown1 hgrow1 hnil1; have OW := Lib.hid hown1; simp only [Nat.zero_add, List.nil_append] at OW; have GR := Lib.hid hgrow1; have NI := Lib.hid hnil1; clear hown1 hgrow1 hnil1)
 go_ret
 obtain ⟨g, cap, rfl⟩ : ∃ g cap, v' = .slice (some ⟨g, 0, none⟩) n cap := by
  rcases OW.out.2 with ⟨h1, h2⟩ | ⟨g, cap, cur, h1, h2, h3, _⟩
  ·have := NI.out.1 h1
   simp at this
  ·exact ⟨g, cap, h1⟩
 obtain ⟨U, hg, hc, hm⟩ := uo_of_own H.out.len OW.out
 refine ⟨some ⟨g, 0, none⟩, cap, rfl, ⟨U.at_, H.out.len, hc, hm, H.out.lm⟩, ?_, fun _ => ⟨g, rfl, hg, U⟩⟩
 refine ⟨GR.out.os, GR.out.tape, GR.out.output, Nat.le_trans (by simp) GR.out.size, fun k hk => ?_⟩
 rw [GR.out.block k (by simp; omega) (by simp [Value.ownBlock]; omega)]
 exact Below.heap_alloc w _ k hk
theorem clone_any {w : World} {l : List Nat} {a : Option Addr} {n c : Nat} (h : LAt w l a n c) (hsz : n ≤ 1099511627776) : Calls Try.prog 35 #[.slice a n c] w (ClPost w l n) := by
 cases a with
 | none =>
  have e : l = [] := Classical.byContradiction fun hne => by obtain ⟨b, o, e, _⟩ := h.at_ hne; simp at e
  have := h.len
  subst e
  obtain rfl : n = 0 := by simpa using this.symm
  exact clone_none w c
 | some ad => exact clone_some h hsz
def SbL (w : World) (g : Nat) (la lb : List Nat) (n : Nat) (r k : Value) (wr : World) : Prop :=
 ∃ (j : Nat) (ds : List Nat) (cc : Nat), j ≤ n ∧ k = .int .i64 (j : Int) ∧ r = .int .u64 (cc : Int) ∧ SubI la lb j ds cc ∧ UO wr g (ds ++ la.drop j) ∧ Below w.heap.size w wr
theorem SbL.step {w wr : World} {g n j r x y : Nat} {W : Int} {la lb ds : List Nat} (hn : la.length = n) (hj : j < n) (I : SubI la lb j ds r) (U : UO wr g (ds ++ la.drop j)) (B : Below w.heap.size w wr) (hg : w.heap.size ≤ g)
  (hx : la.getD j 0 = x) (hy : lb.getD j 0 = y) (xb : x < 4294967296) (yb : y < 4294967296) (hW : W = ((x : Int) - (r : Int) - (y : Int)) % 18446744073709551616) :
  SbL w g la lb n (.int .u64 (bits .and .u64 (W / 4294967296) 1)) (.int .i64 ((j : Int) + 1)) (wr.setCell ⟨g, j, none⟩ (.int .u32 (W % 4294967296))) := by
 have r1 := I.r1
 have fin : ∀ d r' : Nat, d < 4294967296 → r' ≤ 1 → x + r' * 4294967296 = d + y + r → W % 4294967296 = (d : Int) → bits .and .u64 (W / 4294967296) 1 = (r' : Int) →
   SbL w g la lb n (.int .u64 (bits .and .u64 (W / 4294967296) 1)) (.int .i64 ((j : Int) + 1)) (wr.setCell ⟨g, j, none⟩ (.int .u32 (W % 4294967296))) := by
  intro d r' hd hr he e1 e2
  rw [e1, e2]
  refine ⟨j + 1, ds ++ [d], r', by omega, by go_num, rfl, I.step hd hr (by rw [hx, hy]; exact he), ?_, B.setCell hg _⟩
  have := U.set (i := j) (by rw [List.length_append, I.len, List.length_drop]; omega) d
  rwa [set_mid I.len (by omega)] at this
 by_cases h : y + r ≤ x
 ·have e : W / 4294967296 = 0 := by omega
  exact fin (x - y - r) 0 (by omega) (by omega) (by omega) (by omega) (by rw [e]; decide)
 ·have e : W / 4294967296 = 4294967295 := by omega
  exact fin (x + 4294967296 - y - r) 1 (by omega) (by omega) (by omega) (by omega) (by rw [e]; decide)
theorem sub_any {w : World} {la lb : List Nat} {a b : Option Addr} {na nb ca cb : Nat} (ha : LAt w la a na ca) (hb : LAt w lb b nb cb) (hsz : na ≤ 1099511627776) (hszb : nb ≤ na) (h0 : 0 < na) (hle : vl lb ≤ vl la) :
  Calls Try.prog 86 #[.slice a na ca, .slice b nb cb] w (NPost w (vl la - vl lb)) := by
 have A := Lib.hid ha; have B := Lib.hid hb
 have hcb := hb.cap; have hlb := hb.le
 clear ha hb
 go_enter Try.func86, Try.ntmps86
 go_wp2_with (go_at_call 35; refine (clone_any A.out hsz).mono ?_; rintro e w1 ⟨a1, c1, rfl, L1, B1, G1⟩; obtain ⟨g, rfl, hg, U1⟩ := G1 h0; have L1 := Lib.hid L1; have B1 := Lib.hid B1; have U1 := Lib.hid U1; clear G1)
 have hc1 := L1.out.cap
 have hl1 := L1.out.le
 go_loopw [6, 13] (fun c k wr => SbL w g la lb na c k wr) (fun _ k _ => na - (intOf k).toNat)
 case atStart => exact ⟨0, [], 0, Nat.zero_le _, rfl, rfl, SubI.nil la lb, U1.out, B1.out⟩
 case round =>
  obtain ⟨j, ds, r, hj, rfl, rfl, hI, hU, hB⟩ := hrel
  have I := Lib.hid hI; have U := Lib.hid hU; have BR := Lib.hid hB
  clear hI hU hB
  by_cases hlt : j < na
  ·have p1 := U.out.cell (i := j) (by rw [List.length_append, I.out.len, List.length_drop, A.out.len]; omega)
   rw [getD_mid I.out.len (by rw [A.out.len]; exact hlt)] at p1
   have f1 := U.out.free j
   obtain ⟨x, hx⟩ : ∃ x, la.getD j 0 = x := ⟨_, rfl⟩
   obtain ⟨y, hy⟩ : ∃ y, lb.getD j 0 = y := ⟨_, rfl⟩
   have xb : x < 4294967296 := by rw [← hx]; exact lm_getD A.out.lm j
   have yb : y < 4294967296 := by rw [← hy]; exact lm_getD B.out.lm j
   have r1 := I.out.r1
   rw [hx] at p1
   have HX := Lib.hid hx; have HY := Lib.hid hy
   clear hx hy
   by_cases hjb : j < nb
   ·obtain ⟨b2, o2, rfl, d2⟩ := B.out.at_ (by intro e; have := B.out.len; rw [e] at this; simp at this; omega)
    have p2 := cell_later BR.out (Nat.le_refl _) (d2 j (by rw [B.out.len]; exact hjb))
    rw [HY.out] at p2
    clear d2
    go_wp2_with fail
    go_roundw
    case rel => exact SbL.step A.out.len hlt I.out U.out BR.out hg HX.out HY.out xb yb (by rw [IntKind.wrap_u64, IntKind.wrap_u64]; omega)
    case measure => simp [intOf]; omega
   ·have Y0 : Hid (y = 0) := by
     show _ = _
     rw [← HY.out, List.getD_eq_getElem?_getD, List.getElem?_eq_none (by rw [B.out.len]; omega)]; rfl
    have hjb2 : (nb : Int) ≤ (j : Int) := by omega
    go_wp2_with fail
    go_roundw
    case rel => exact SbL.step A.out.len hlt I.out U.out BR.out hg HX.out HY.out xb yb (by rw [IntKind.wrap_u64, Y0.out]; simp)
    case measure => simp [intOf]; omega
  ·obtain rfl : j = na := by omega
   have D : Hid (ds ++ la.drop j = ds) := by show _ = _; rw [List.drop_of_length_le (by rw [A.out.len]; exact Nat.le_refl _), List.append_nil]
   have L : Hid (LAt wr ds (some ⟨g, 0, none⟩) j c1) := ⟨(D.out ▸ U.out).at_, I.out.len, hl1, hc1, I.out.lm⟩
   have V : Hid (vl ds = vl la - vl lb) := (I.out.done (by rw [A.out.len]; exact Nat.le_refl _) (by rw [B.out.len]; exact hszb) hle).2
   go_wp2_with (go_at_call 55; refine (trim_at L.out).mono ?_; rintro e w' ⟨rfl, rfl⟩)
   go_ret
   exact NPost.of_trim L.out BR.out V.out
end Go.Proofs.Ytijdglogadnbcaa
