/- The law of the set operations: its call answers true. -/
import Derived.Test.YteiohgiecpibhaaGreatVk
import Derived.Test.YteiohgiecpibhaaGreatMV
import Derived.Test.YteiohgiecpibhaaGreatVf
set_option linter.unusedVariables false
set_option linter.unusedSimpArgs false
set_option maxRecDepth 100000
set_option maxHeartbeats 4000000
namespace Go.Proofs.YteiohgiecpibhaaGreat
open Go.RowKit Fdm

theorem join24_any {w : World} {a b : Dm} {aa ab : Option Addr} {n c m e : Nat} (ha : DmS w a aa n c) (hb : DmS w b ab m e) : Calls Tryz.prog 24 #[.slice aa n c, .slice ab m e] w (DePost w (btD a b (joinF a b)) (btE a b (joinF a b))) :=
  joinB_any ha hb fun h1 h2 W hW => join_any (ha.below hW) (hb.below hW) (ok_of_chk h1).1 (ok_of_chk h2).1 (by have := (ok_of_chk h1).2.1; have := ha.len; omega) (by have := (ok_of_chk h2).2.1; have := hb.len; omega) (by have := (ok_of_chk h1).2.2; have := ha.len; omega) (by have := (ok_of_chk h2).2.2; have := hb.len; omega)
theorem opJ {a b : Dm} (h : chkD a = 0) (k : chkD b = 0) : Ok (joinF a b) ∧ ∀ v, InR v → (memF (joinF a b) v = true ↔ opB 0 (memF a v) (memF b v) = true) :=
  ⟨(pk_ok _).1, fun v hv => by unfold joinF; rw [(pk_ok _).2]; exact ⟨fun q => q.2, fun q => ⟨hv, q⟩⟩⟩
theorem opM {a b : Dm} (h : chkD a = 0) (k : chkD b = 0) : Ok (meetF a b) ∧ ∀ v, InR v → (memF (meetF a b) v = true ↔ opB 1 (memF a v) (memF b v) = true) :=
  ⟨(meet_ok (ok_of_chk h).1 (ok_of_chk k).1).1, fun v hv => by rw [(meet_ok (ok_of_chk h).1 (ok_of_chk k).1).2 v]; show _ ↔ (memF a v && memF b v) = true; rw [Bool.and_eq_true]⟩
theorem opN {a b : Dm} (h : chkD a = 0) (k : chkD b = 0) : Ok (minusF a b) ∧ ∀ v, InR v → (memF (minusF a b) v = true ↔ opB 2 (memF a v) (memF b v) = true) :=
  ⟨(minus_ok (ok_of_chk h).1 (ok_of_chk k).1).1, fun v hv => by rw [(minus_ok (ok_of_chk h).1 (ok_of_chk k).1).2 v]; show _ ↔ (memF a v && !memF b v) = true; rw [Bool.and_eq_true, Bool.not_eq_true', Bool.not_eq_true]⟩
theorem law7_any {w : World} {a b : Dm} {aa ab : Option Addr} {n c m e : Nat} (v : Int) (ha : DmS w a aa n c) (hb : DmS w b ab m e) : Calls Tryz.prog 7 #[.slice aa n c, .slice ab m e, .int .i64 v] w fun e w' => e = .returned (.bool true) ∧ Below w.heap.size w w' := by
  have HA : Hid (∀ W, Below w.heap.size w W → DmS W a aa n c) := Lib.hid fun W h => ha.below h
  have HB : Hid (∀ W, Below w.heap.size w W → DmS W b ab m e) := Lib.hid fun W h => hb.below h
  have S20 := Lib.hid (fun W (h : Below w.heap.size w W) => size20_any (HA.out W h))
  have S21 := Lib.hid (fun W (h : Below w.heap.size w W) => has21_any v (HA.out W h))
  have S13 := Lib.hid (fun W (h : Below w.heap.size w W) => domFault_any (HA.out W h))
  have S23 := Lib.hid (fun W (h : Below w.heap.size w W) => has23_any v (HA.out W h))
  have S22 := Lib.hid (fun W (h : Below w.heap.size w W) (q : chkD a = 0) => values_any (HA.out W h) (ok_of_chk q).1)
  have VL : Hid (chkD a = 0 → ((valsF a).length : Int) = sizeF a) := Lib.hid fun q => vals_len (ok_nr (ok_of_chk q).1).1
  have S24 := Lib.hid (fun W (h : Below w.heap.size w W) => join24_any (HA.out W h) (HB.out W h))
  have S25 := Lib.hid (fun W (h : Below w.heap.size w W) => meet25_any (HA.out W h) (HB.out W h))
  have S26 := Lib.hid (fun W (h : Below w.heap.size w W) => minus26_any (HA.out W h) (HB.out W h))
  have R0 := Lib.hid (fun W (h : Below w.heap.size w W) => both27_0 (X := joinF a b) (HA.out W h) (HB.out W h) opJ)
  have R1 := Lib.hid (fun W (h : Below w.heap.size w W) => both27_1 (X := meetF a b) (HA.out W h) (HB.out W h) opM)
  have R2 := Lib.hid (fun W (h : Below w.heap.size w W) => both27_2 (X := minusF a b) (HA.out W h) (HB.out W h) opN)
  have LA := Lib.hid labelled_ok
  obtain ⟨eJ, heJ⟩ : ∃ x, btE a b (joinF a b) = x := ⟨_, rfl⟩
  obtain ⟨dJ, hdJ⟩ : ∃ x, btD a b (joinF a b) = x := ⟨_, rfl⟩
  obtain ⟨eM, heM⟩ : ∃ x, btE a b (meetF a b) = x := ⟨_, rfl⟩
  obtain ⟨dM, hdM⟩ : ∃ x, btD a b (meetF a b) = x := ⟨_, rfl⟩
  obtain ⟨eN, heN⟩ : ∃ x, btE a b (minusF a b) = x := ⟨_, rfl⟩
  obtain ⟨dN, hdN⟩ : ∃ x, btD a b (minusF a b) = x := ⟨_, rfl⟩
  rw [heJ, hdJ] at S24 R0
  rw [heM, hdM] at S25 R1
  rw [heN, hdN] at S26 R2
  have jj : (eJ == eJ) = true := by simp
  have mm : (eM == eM) = true := by simp
  have nn : (eN == eN) = true := by simp
  clear heJ hdJ heM hdM heN hdN ha hb
  by_cases h0 : chkD a = 0
  · have V22 := Lib.hid (fun W (h : Below w.heap.size w W) => S22.out W h h0)
    have VL0 := Lib.hid (VL.out h0)
    obtain ⟨sz, hsz⟩ : ∃ sz, sizeF a = sz := ⟨_, rfl⟩
    obtain ⟨bv, hbv⟩ : ∃ bv, memF a v = bv := ⟨_, rfl⟩
    have h20 : Hid (∀ W, Below w.heap.size w W → Calls Tryz.prog 20 #[.slice aa n c] W fun e w' => e = .returned (.tuple #[.int .i64 sz, .int .i64 0]) ∧ Below W.heap.size W w') := Lib.hid fun W h => by
      have q := S20.out W h; rw [if_pos h0, h0, hsz] at q; exact q
    have h21 : Hid (∀ W, Below w.heap.size w W → Calls Tryz.prog 21 #[.slice aa n c, .int .i64 v] W fun e w' => e = .returned (.tuple #[.bool bv, .int .i64 0]) ∧ Below W.heap.size W w') := Lib.hid fun W h => by
      have q := S21.out W h; rw [decide_eq_true h0, Bool.true_and, h0, hbv] at q; exact q
    have h13 : Hid (∀ W, Below w.heap.size w W → Calls Tryz.prog 13 #[.slice aa n c] W (CkPost W 0)) := Lib.hid fun W h => h0 ▸ S13.out W h
    have h23 : Hid (∀ W, Below w.heap.size w W → Calls Tryz.prog 23 #[.slice aa n c, .int .i64 v] W fun e w' => e = .returned (.bool bv) ∧ w' = W) := Lib.hid fun W h => hbv ▸ S23.out W h
    rw [hsz] at VL0
    have q1 : (sz != sz) = false := by simp
    have q2 : (bv != bv) = false := by simp
    clear S20 S21 S13 S23 S22 VL h0 hsz hbv HA HB
    go_enter Tryz.func7, Tryz.ntmps7
    go_upto_region 2 with (go_at_call 20; refine (h20.out _ (Below.refl _ _)).mono ?_; rintro e w2 ⟨rfl, hb⟩; have B2 := Lib.hid hb; clear hb)
    go_upto_region 3 with (go_at_call 21; refine (h21.out _ B2.out).mono ?_; rintro e w3 ⟨rfl, hb⟩; have B3 := Lib.hid (over B2.out hb); clear hb)
    go_upto_region 4 with (go_at_call 13; refine (h13.out _ B3.out).mono ?_; rintro e w4 ⟨rfl, hb⟩; have B4 := Lib.hid (over B3.out hb); clear hb)
    go_upto_region 6 with (first | (go_at_call 22; refine (V22.out _ B4.out).mono ?_; rintro e w5 ⟨vv, rfl, hv, hb⟩; obtain ⟨va, vc, rfl, -⟩ := hv.ex; obtain ⟨vl, hvl⟩ : ∃ vl, (valsF a).length = vl := ⟨_, rfl⟩; have VE := VL0.out; rw [hvl] at VE ⊢; subst VE; clear hvl; have B5 := Lib.hid (over B4.out hb); clear hv hb) | (go_at_call 23; refine (h23.out _ B5.out).mono ?_; rintro e w6 ⟨rfl, rfl⟩))
    go_upto_region 7 with (go_at_call 24; refine (S24.out _ B5.out).mono ?_; rintro e w10 ⟨vv, rfl, hv, hb⟩; obtain ⟨pj, cj, rfl, hs⟩ := hv.s; have Ssj := Lib.hid hs; have Tj := Lib.hid hb; have Bq0 := Lib.hid (over B5.out hb); clear hv hb hs)
    go_upto_region 8 with (go_at_call 25; refine (S25.out _ Bq0.out).mono ?_; rintro e w11 ⟨vv, rfl, hv, hb⟩; obtain ⟨pm, cm, rfl, hs⟩ := hv.s; have Ssm := Lib.hid hs; have Tm := Lib.hid hb; have Bq1 := Lib.hid (over Bq0.out hb); clear hv hb hs)
    go_upto_region 9 with (go_at_call 26; refine (S26.out _ Bq1.out).mono ?_; rintro e w12 ⟨vv, rfl, hv, hb⟩; obtain ⟨pn, cn, rfl, hs⟩ := hv.s; have Ssn := Lib.hid hs; have Tn := Lib.hid hb; have Bq2 := Lib.hid (over Bq1.out hb); clear hv hb hs)
    go_upto_region 10 with (go_at_call 27; refine (R0.out _ Bq2.out).mono ?_; rintro e w13 ⟨vv, rfl, hv, hb⟩; obtain ⟨px, cx, rfl, hs⟩ := hv.s; have Ssx := Lib.hid hs; have Tx := Lib.hid hb; have Bq3 := Lib.hid (over Bq2.out hb); clear hv hb hs)
    go_upto_region 11 with (go_at_call 27; refine (R1.out _ Bq3.out).mono ?_; rintro e w14 ⟨vv, rfl, hv, hb⟩; obtain ⟨py, cy, rfl, hs⟩ := hv.s; have Ssy := Lib.hid hs; have Ty := Lib.hid hb; have Bq4 := Lib.hid (over Bq3.out hb); clear hv hb hs)
    go_upto_region 12 with (go_at_call 27; refine (R2.out _ Bq4.out).mono ?_; rintro e w15 ⟨vv, rfl, hv, hb⟩; obtain ⟨pu, cu, rfl, hs⟩ := hv.s; have Ssu := Lib.hid hs; have Tu := Lib.hid hb; have Bq5 := Lib.hid (over Bq4.out hb); clear hv hb hs)
    have D1 := Lib.hid (fun W (hW : Below w15.heap.size w15 W) => same_dom (Ssj.out.below (over Tm.out (over Tn.out (over Tx.out (over Ty.out (over Tu.out hW)))))) (Ssx.out.below (over Ty.out (over Tu.out hW))))
    have D2 := Lib.hid (fun W (hW : Below w15.heap.size w15 W) => same_dom (Ssm.out.below (over Tn.out (over Tx.out (over Ty.out (over Tu.out hW))))) (Ssy.out.below (over Tu.out hW)))
    have D3 := Lib.hid (fun W (hW : Below w15.heap.size w15 W) => same_dom (Ssn.out.below (over Tx.out (over Ty.out (over Tu.out hW)))) (Ssu.out.below hW))
    have D1c := Lib.hid (D1.out _ (Below.refl _ _))
    clear Ssj Ssm Ssn Ssx Ssy Ssu Tj Tm Tn Tx Ty Tu D1
    go_wp2_with (first
      | (go_at_call 19; refine D1c.out.mono ?_; clear D1c; rintro e w16 ⟨rfl, hq⟩; have X1 := Lib.hid hq.below; have D2c := Lib.hid (D2.out _ hq.below); clear hq)
      | (go_at_call 19; refine D2c.out.mono ?_; clear D2c; rintro e w17 ⟨rfl, hq⟩; have X2 := Lib.hid (over X1.out hq.below); have D3c := Lib.hid (D3.out _ (over X1.out hq.below)); clear hq)
      | (go_at_call 19; refine D3c.out.mono ?_; clear D3c; rintro e w18 ⟨rfl, hq⟩; have X3 := Lib.hid (over X2.out hq.below); clear hq)
      | (go_at_call 14; refine (LA.out _).mono ?_; rintro e w19 ⟨rfl, hb⟩; have X4 := Lib.hid (over Bq5.out (over X3.out hb)); clear hb))
    go_ret
    exact ⟨rfl, X4.out⟩
  · obtain ⟨z, hz⟩ : ∃ z, chkD a = z := ⟨_, rfl⟩
    have h20 : Hid (∀ W, Below w.heap.size w W → Calls Tryz.prog 20 #[.slice aa n c] W fun e w' => e = .returned (.tuple #[.int .i64 0, .int .i64 z]) ∧ Below W.heap.size W w') := Lib.hid fun W h => by
      have q := S20.out W h; rw [if_neg h0, hz] at q; exact q
    have h21 : Hid (∀ W, Below w.heap.size w W → Calls Tryz.prog 21 #[.slice aa n c, .int .i64 v] W fun e w' => e = .returned (.tuple #[.bool false, .int .i64 z]) ∧ Below W.heap.size W w') := Lib.hid fun W h => by
      have q := S21.out W h; rw [decide_eq_false h0, Bool.false_and, hz] at q; exact q
    have h13 : Hid (∀ W, Below w.heap.size w W → Calls Tryz.prog 13 #[.slice aa n c] W (CkPost W z)) := Lib.hid fun W h => hz ▸ S13.out W h
    rw [hz] at h0
    have q1 : (z != z) = false := by simp
    have q2 : (z != 0) = true := by simp [h0]
    have q3 : (z == 0) = false := by simp [h0]
    clear S20 S21 S13 S23 S22 VL h0 hz HA HB
    go_enter Tryz.func7, Tryz.ntmps7
    go_upto_region 2 with (go_at_call 20; refine (h20.out _ (Below.refl _ _)).mono ?_; rintro e w2 ⟨rfl, hb⟩; have B2 := Lib.hid hb; clear hb)
    go_upto_region 3 with (go_at_call 21; refine (h21.out _ B2.out).mono ?_; rintro e w3 ⟨rfl, hb⟩; have B3 := Lib.hid (over B2.out hb); clear hb)
    go_upto_region 4 with (go_at_call 13; refine (h13.out _ B3.out).mono ?_; rintro e w4 ⟨rfl, hb⟩; have B4 := Lib.hid (over B3.out hb); clear hb)
    go_upto_region 6 with fail
    go_upto_region 7 with (go_at_call 24; refine (S24.out _ B4.out).mono ?_; rintro e w10 ⟨vv, rfl, hv, hb⟩; obtain ⟨pj, cj, rfl, hs⟩ := hv.s; have Ssj := Lib.hid hs; have Tj := Lib.hid hb; have Bq0 := Lib.hid (over B4.out hb); clear hv hb hs)
    go_upto_region 8 with (go_at_call 25; refine (S25.out _ Bq0.out).mono ?_; rintro e w11 ⟨vv, rfl, hv, hb⟩; obtain ⟨pm, cm, rfl, hs⟩ := hv.s; have Ssm := Lib.hid hs; have Tm := Lib.hid hb; have Bq1 := Lib.hid (over Bq0.out hb); clear hv hb hs)
    go_upto_region 9 with (go_at_call 26; refine (S26.out _ Bq1.out).mono ?_; rintro e w12 ⟨vv, rfl, hv, hb⟩; obtain ⟨pn, cn, rfl, hs⟩ := hv.s; have Ssn := Lib.hid hs; have Tn := Lib.hid hb; have Bq2 := Lib.hid (over Bq1.out hb); clear hv hb hs)
    go_upto_region 10 with (go_at_call 27; refine (R0.out _ Bq2.out).mono ?_; rintro e w13 ⟨vv, rfl, hv, hb⟩; obtain ⟨px, cx, rfl, hs⟩ := hv.s; have Ssx := Lib.hid hs; have Tx := Lib.hid hb; have Bq3 := Lib.hid (over Bq2.out hb); clear hv hb hs)
    go_upto_region 11 with (go_at_call 27; refine (R1.out _ Bq3.out).mono ?_; rintro e w14 ⟨vv, rfl, hv, hb⟩; obtain ⟨py, cy, rfl, hs⟩ := hv.s; have Ssy := Lib.hid hs; have Ty := Lib.hid hb; have Bq4 := Lib.hid (over Bq3.out hb); clear hv hb hs)
    go_upto_region 12 with (go_at_call 27; refine (R2.out _ Bq4.out).mono ?_; rintro e w15 ⟨vv, rfl, hv, hb⟩; obtain ⟨pu, cu, rfl, hs⟩ := hv.s; have Ssu := Lib.hid hs; have Tu := Lib.hid hb; have Bq5 := Lib.hid (over Bq4.out hb); clear hv hb hs)
    have D1 := Lib.hid (fun W (hW : Below w15.heap.size w15 W) => same_dom (Ssj.out.below (over Tm.out (over Tn.out (over Tx.out (over Ty.out (over Tu.out hW)))))) (Ssx.out.below (over Ty.out (over Tu.out hW))))
    have D2 := Lib.hid (fun W (hW : Below w15.heap.size w15 W) => same_dom (Ssm.out.below (over Tn.out (over Tx.out (over Ty.out (over Tu.out hW))))) (Ssy.out.below (over Tu.out hW)))
    have D3 := Lib.hid (fun W (hW : Below w15.heap.size w15 W) => same_dom (Ssn.out.below (over Tx.out (over Ty.out (over Tu.out hW)))) (Ssu.out.below hW))
    have D1c := Lib.hid (D1.out _ (Below.refl _ _))
    clear Ssj Ssm Ssn Ssx Ssy Ssu Tj Tm Tn Tx Ty Tu D1
    go_wp2_with (first
      | (go_at_call 19; refine D1c.out.mono ?_; clear D1c; rintro e w16 ⟨rfl, hq⟩; have X1 := Lib.hid hq.below; have D2c := Lib.hid (D2.out _ hq.below); clear hq)
      | (go_at_call 19; refine D2c.out.mono ?_; clear D2c; rintro e w17 ⟨rfl, hq⟩; have X2 := Lib.hid (over X1.out hq.below); have D3c := Lib.hid (D3.out _ (over X1.out hq.below)); clear hq)
      | (go_at_call 19; refine D3c.out.mono ?_; clear D3c; rintro e w18 ⟨rfl, hq⟩; have X3 := Lib.hid (over X2.out hq.below); clear hq)
      | (go_at_call 14; refine (LA.out _).mono ?_; rintro e w19 ⟨rfl, hb⟩; have X4 := Lib.hid (over Bq5.out (over X3.out hb)); clear hb))
    go_ret
    exact ⟨rfl, X4.out⟩
end Go.Proofs.YteiohgiecpibhaaGreat
