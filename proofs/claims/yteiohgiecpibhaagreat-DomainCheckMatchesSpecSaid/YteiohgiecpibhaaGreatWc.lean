/- domain.size, has, meet. -/
import Derived.Test.YteiohgiecpibhaaGreatWb
set_option linter.unusedVariables false
set_option linter.unusedSimpArgs false
set_option maxRecDepth 100000
set_option maxHeartbeats 4000000
namespace Go.Proofs.YteiohgiecpibhaaGreat
open Go.RowKit Fdm

/-- What is read of a domain. -/
theorem DmS.read {w : World} {d : Dm} {a : Option Addr} {n c : Nat} (h : DmS w d a n c) (h0 : 0 < n) : ∃ g o, a = some ⟨g, o, none⟩ ∧ ∀ i, i < n → w.cell? ⟨g, o + i * 2, none⟩ = some (.int .i64 (sp d i).1) ∧ w.cell? ⟨g, o + i * 2 + 1, none⟩ = some (.int .i64 (sp d i).2) := by
  obtain ⟨g, o, e, k⟩ := h.at_ (by intro e; have := h.len; rw [e] at this; simp at this; omega)
  exact ⟨g, o, e, fun i hi => k i (by rw [h.len]; exact hi)⟩

def SzL (w : World) (d : Dm) (v3 v8 : Value) (wr : World) : Prop := ∃ k : Nat, k ≤ d.length ∧ v8 = .int .i64 (k : Int) ∧ v3 = .int .i64 (sizeTo d k) ∧ Below w.heap.size w wr
theorem size_any {w : World} {d : Dm} {a : Option Addr} {n c : Nat} (h : DmS w d a n c) (ok : Ok d) : Calls Tryz.prog 44 #[.slice a n c] w (CkPost w (sizeF d)) := by
  have HN := Lib.hid h.len; have H := Lib.hid h; have OK := Lib.hid ok
  clear ok
  have h2 := h.cap; have h1 := h.le
  clear h
  go_enter Tryz.func44, Tryz.ntmps44
  go_wp2_with fail
  go_loopw [3, 8] (fun v3 v8 wr => SzL w d v3 v8 wr) (fun _ v8 _ => n - (intOf v8).toNat)
  case atStart => exact ⟨0, Nat.zero_le _, rfl, rfl, Below.refl _ _⟩
  obtain ⟨k, hk, rfl, rfl, hBr⟩ := hrel
  have BR := Lib.hid hBr
  rw [HN.out] at hk
  clear hBr
  by_cases hlt : k < n
  · obtain ⟨g, o, rfl, dd⟩ := H.out.read (by omega)
    obtain ⟨p0, p1⟩ := dd k hlt
    clear dd
    have NX := Lib.hid (sizeTo_next (d := d) (k := k) (by rw [HN.out]; exact hlt))
    have z1 := ok_sizeTo OK.out k (by rw [HN.out]; omega)
    have z2 := ok_sizeTo OK.out (k + 1) (by rw [HN.out]; omega)
    have z3 := spanF_zero (OK.out k (by rw [HN.out]; exact hlt))
    rw [NX.out, Nat.add_sub_cancel] at z2
    have z22 := z2.2 (by omega)
    have z11 : 0 ≤ sizeTo d k := z1.1
    clear z1
    obtain ⟨x, hx⟩ : ∃ x, (sp d k).1 = x := ⟨_, rfl⟩
    obtain ⟨y, hy⟩ : ∃ y, (sp d k).2 = y := ⟨_, rfl⟩
    obtain ⟨t, ht⟩ : ∃ t, sizeTo d k = t := ⟨_, rfl⟩
    rw [hx] at p0 NX z3 z22
    rw [hy] at p1 NX z3 z22
    rw [ht] at NX z22 z11
    rw [ht]
    have p0 := cell_later BR.out (Nat.le_refl _) p0
    have p1 := cell_later BR.out (Nat.le_refl _) p1
    have B2 : Hid (Below wr.heap.size wr (wr.alloc (.cells #[.int .i64 x, .int .i64 y] 63))) := below_new _ _
    have a1 : -16384 ≤ x := z3.1
    have a2 : y ≤ 16384 := z3.2.1
    have a3 : x ≤ y := z3.2.2.1
    have a4 : t ≤ 32768 := by omega
    clear hx hy ht z2 z3 z22
    go_wp2_with fail
    go_roundw
    case rel => exact ⟨k + 1, by rw [HN.out]; omega, by go_num, by rw [NX.out], over BR.out B2.out⟩
    simp [intOf]; omega
  obtain rfl : n = k := by omega
  have E2 : Hid (sizeTo d n = sizeF d) := by show _ = _; rw [← HN.out]; exact sizeTo_all d
  go_wp2_with fail
  go_ret
  exact ⟨by rw [E2.out]; rfl, BR.out⟩

def MtL (w : World) (a b : Dm) (v5 v6 v7 : Value) (wr : World) : Prop :=
  ∃ (i k : Nat) (out : Dm), i ≤ a.length ∧ k ≤ b.length ∧ v6 = .int .i64 (i : Int) ∧ v7 = .int .i64 (k : Int) ∧ out ++ meetF (a.drop i) (b.drop k) = meetF a b ∧ out.length ≤ i + k ∧ DmO wr w.heap.size v5 out ∧ Below w.heap.size w wr
theorem meet_any {w : World} {a b : Dm} {aa ab : Option Addr} {n c m e : Nat} (ha : DmS w a aa n c) (hb : DmS w b ab m e) (hn : n ≤ 100000) (hm : m ≤ 100000) :
    Calls Tryz.prog 48 #[.slice aa n c, .slice ab m e] w (DmPost w (meetF a b)) := by
  have HA := Lib.hid ha; have HB := Lib.hid hb
  have NA := Lib.hid ha.len; have NB := Lib.hid hb.len
  have c1 := ha.cap; have c2 := ha.le; have e1 := hb.cap; have e2 := hb.le
  clear ha hb
  go_enter Tryz.func48, Tryz.ntmps48
  go_wp2_with fail
  go_loopw [5, 6, 7] (fun v5 v6 v7 wr => MtL w a b v5 v6 v7 wr) (fun _ v6 v7 _ => n + m - (intOf v6).toNat - (intOf v7).toNat)
  case atStart => exact ⟨0, 0, [], Nat.zero_le _, Nat.zero_le _, rfl, rfl, rfl, Nat.zero_le _, DmO.nil _ _, Below.refl _ _⟩
  obtain ⟨i, k, out, hi, hk, rfl, rfl, hq, hl, hO, hBr⟩ := hrel
  have BR := Lib.hid hBr; have O := Lib.hid hO; have Q := Lib.hid hq
  rw [NA.out] at hi
  rw [NB.out] at hk
  clear hBr hO hq
  by_cases hlt : i < n ∧ k < m
  · obtain ⟨l1, l2⟩ := hlt
    obtain ⟨g, o, rfl, dd⟩ := HA.out.read (by omega)
    obtain ⟨p0, p1⟩ := dd i l1
    clear dd
    obtain ⟨g', o', rfl, dd⟩ := HB.out.read (by omega)
    obtain ⟨q0, q1⟩ := dd k l2
    clear dd
    have ST := Lib.hid (meet_step (a := a) (b := b) (by rw [NA.out]; exact l1) (by rw [NB.out]; exact l2))
    obtain ⟨x, hx⟩ : ∃ x, (sp a i).1 = x := ⟨_, rfl⟩
    obtain ⟨y, hy⟩ : ∃ y, (sp a i).2 = y := ⟨_, rfl⟩
    obtain ⟨x', hx'⟩ : ∃ x', (sp b k).1 = x' := ⟨_, rfl⟩
    obtain ⟨y', hy'⟩ : ∃ y', (sp b k).2 = y' := ⟨_, rfl⟩
    rw [hx] at p0
    rw [hy] at p1
    rw [hx'] at q0
    rw [hy'] at q1
    rw [hx, hy, hx', hy'] at ST
    have P1 := Lib.hid p1; have Q1 := Lib.hid q1
    have p0 := cell_later BR.out (Nat.le_refl _) p0
    have p1 := cell_later BR.out (Nat.le_refl _) p1
    have q0 := cell_later BR.out (Nat.le_refl _) q0
    have q1 := cell_later BR.out (Nat.le_refl _) q1
    clear hx hy hx' hy'
    go_upto_region 4 with fail
    go_quiet (fail)
    obtain ⟨lo, hlo⟩ : ∃ lo, (if x < x' then x' else x) = lo := ⟨_, rfl⟩
    obtain ⟨hi', hhi⟩ : ∃ hi', (if y' < y then y' else y) = hi' := ⟨_, rfl⟩
    rw [hlo, hhi]
    have m1 : max x x' = lo := by rw [← hlo]; split <;> omega
    have m2 : min y y' = hi' := by rw [← hhi]; split <;> omega
    rw [m1, m2] at ST
    have B1 := Lib.hid (over BR.out (Qt.below (wr := wr.drewN nq) ⟨nq, rfl⟩))
    have O1 := Lib.hid (O.out.below (Qt.below (wr := wr.drewN nq) ⟨nq, rfl⟩))
    have p1 : (wr.drewN nq).cell? ⟨g, o + i * 2 + 1, none⟩ = some (.int .i64 y) := p1
    have q1 : (wr.drewN nq).cell? ⟨g', o' + k * 2 + 1, none⟩ = some (.int .i64 y') := q1
    clear hlo hhi m1 m2 O
    generalize wr.drewN nq = W1 at *
    by_cases lh : lo ≤ hi'
    · have LH : Hid (lo ≤ hi') := lh
      go_upto_region 7 with (at_builtin; refine wpList_pushD rfl _ _ rfl w W1 u5 out lo hi' rfl rfl rfl O1.out B1.out (by omega) ?_; intro v5 W2 hO2 hB2 _; have O2 := Lib.hid hO2; have B2 := Lib.hid hB2; clear hO2 hB2)
      have p1 := cell_later B2.out (Nat.le_refl _) P1.out
      have q1 := cell_later B2.out (Nat.le_refl _) Q1.out
      by_cases yy : y < y'
      · have YY : Hid (y < y') := yy
        go_upto_region 7 with fail
        go_quiet (fail)
        go_wp2_with fail
        go_roundw
        case rel => exact ⟨i + 1, k, out ++ [(lo, hi')], by rw [NA.out]; omega, by rw [NB.out]; omega, by go_num, by go_num, by rw [← Q.out, ST.out, if_pos LH.out, if_pos YY.out]; simp, by simp; omega, O2.out.below (Qt.below ⟨nq, rfl⟩), over B2.out (Qt.below ⟨nq, rfl⟩)⟩
        simp [intOf]; omega
      · have YY : Hid (¬ y < y') := yy
        have yy' : y' ≤ y := by omega
        clear yy
        go_upto_region 7 with fail
        go_quiet (fail)
        go_wp2_with fail
        go_roundw
        case rel => exact ⟨i, k + 1, out ++ [(lo, hi')], by rw [NA.out]; omega, by rw [NB.out]; omega, by go_num, by go_num, by rw [← Q.out, ST.out, if_pos LH.out, if_neg YY.out]; simp, by simp; omega, O2.out.below (Qt.below ⟨nq, rfl⟩), over B2.out (Qt.below ⟨nq, rfl⟩)⟩
        simp [intOf]; omega
    · have LH : Hid (¬ lo ≤ hi') := lh
      have lh' : hi' < lo := by omega
      clear lh
      by_cases yy : y < y'
      · have YY : Hid (y < y') := yy
        go_upto_region 7 with fail
        go_quiet (fail)
        go_wp2_with fail
        go_roundw
        case rel => exact ⟨i + 1, k, out, by rw [NA.out]; omega, by rw [NB.out]; omega, by go_num, by go_num, by rw [← Q.out, ST.out, if_neg LH.out, if_pos YY.out]; simp, by omega, O1.out.below (Qt.below ⟨nq, rfl⟩), over B1.out (Qt.below ⟨nq, rfl⟩)⟩
        simp [intOf]; omega
      · have YY : Hid (¬ y < y') := yy
        have yy' : y' ≤ y := by omega
        clear yy
        go_upto_region 7 with fail
        go_quiet (fail)
        go_wp2_with fail
        go_roundw
        case rel => exact ⟨i, k + 1, out, by rw [NA.out]; omega, by rw [NB.out]; omega, by go_num, by go_num, by rw [← Q.out, ST.out, if_neg LH.out, if_neg YY.out]; simp, by omega, O1.out.below (Qt.below ⟨nq, rfl⟩), over B1.out (Qt.below ⟨nq, rfl⟩)⟩
        simp [intOf]; omega
  · have E : Hid (meetF a b = out) := by
      show _ = _
      rw [← Q.out, meet_end (by rw [NA.out, NB.out]; omega), List.append_nil]
    by_cases l1 : i < n
    · obtain rfl : m = k := by omega
      clear hlt
      go_wp2_with fail
      go_ret
      exact ⟨_, rfl, by rw [E.out]; exact O.out.v (by omega), BR.out⟩
    · obtain rfl : n = i := by omega
      clear hlt l1
      go_wp2_with fail
      go_ret
      exact ⟨_, rfl, by rw [E.out]; exact O.out.v (by omega), BR.out⟩
end Go.Proofs.YteiohgiecpibhaaGreat
