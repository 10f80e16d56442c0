/- Problem.broken. Printed by genLe.py. -/
import Derived.Test.YtijdglogadnbcaaZ14
import Derived.Test.YtijdglogadnbcaaZ15
set_option linter.unusedVariables false
set_option linter.unusedSimpArgs false
set_option maxRecDepth 100000
set_option maxHeartbeats 40000000
namespace Go.Proofs.Ytijdglogadnbcaa
open Go.RowKit Nt Bl
def rowI : Option (Nat × Bool) → Int
 | none => -1
 | some (r, _) => (r : Int)
def upB : Option (Nat × Bool) → Bool
 | none => false
 | some (_, up) => up
def BkL (w : World) (P : Pb) (v2 v3 v11 : Value) (wr : World) : Prop :=
 ∃ k : Nat, k ≤ P.m ∧ v11 = .int .i64 (k : Int) ∧ v2 = .int .i64 (rowI (P.brkT k)) ∧ v3 = .bool (upB (P.brkT k)) ∧ Below w.heap.size w wr
theorem brk_any {n0 : Nat} {w : World} {L : Lay} {P : Pb} (h : PAt n0 w L P) (hp : P.Pl) (hs : PSz P 1048576) :
  Calls Try.prog 47 #[.pointer (some ⟨L.p, 0, none⟩)] w fun e w' => e = .returned (.tuple #[.int .i64 (rowI P.brk), .bool (upB P.brk)]) ∧ Below w.heap.size w w' := by
 have nm := h.nm; have cp := h.cp
 obtain ⟨N, hN⟩ : ∃ N, P.n + P.m = N := ⟨_, rfl⟩
 obtain ⟨m, hm⟩ : ∃ m, P.m = m := ⟨_, rfl⟩
 obtain ⟨n, hn⟩ : ∃ n, P.n = n := ⟨_, rfl⟩
 rw [hm] at nm cp
 rw [hn] at nm cp
 have Nb : N ≤ 128 := by omega
 have HN := Lib.hid hN; have HM := Lib.hid hm
 have AT0 := Lib.hid h; have PL := Lib.hid hp; have SZ := Lib.hid hs
 have HD := Lib.hid (fun (W : World) (h : PAt n0 W L P) => (show W.cell? ⟨L.p, 0, none⟩ = some (.int .i64 (n : Int)) ∧ W.cell? ⟨L.p, 1, none⟩ = some (.slice (some ⟨L.low, 0, none⟩) N N) ∧ W.cell? ⟨L.p, 2, none⟩ = some (.slice (some ⟨L.high, 0, none⟩) N N) ∧
   W.cell? ⟨L.p, 3, none⟩ = some (.slice (some ⟨L.now, 0, none⟩) N N) ∧ W.cell? ⟨L.p, 4, none⟩ = some (.slice (some ⟨L.bas, 0, none⟩) m L.basc) ∧ W.cell? ⟨L.p, 5, none⟩ = some (.slice L.frea n L.frec) ∧ W.cell? ⟨L.p, 6, none⟩ = some (.slice (some ⟨L.tab, 0, none⟩) m L.tabc) from by
  have := h.head; rw [hN, hm, hn] at this; exact this))
 obtain ⟨q0, q1, q2, q3, q4, q5, q6⟩ := HD.out w AT0.out
 clear h hp hs hN hm hn
 go_enter Try.func47, Try.ntmps47
 go_wp2_with fail
 go_loopw [2, 3, 11] (fun v2 v3 v11 wr => BkL w P v2 v3 v11 wr) (fun _ _ v _ => m - (intOf v).toNat)
 case atStart => exact ⟨0, Nat.zero_le _, rfl, rfl, rfl, Below.refl _ _⟩
 case round =>
  obtain ⟨k, hk, rfl, rfl, rfl, hB⟩ := hrel
  rw [HM.out] at hk
  have BR := Lib.hid hB
  have AT := Lib.hid (AT0.out.below hB)
  clear hB q0 q1 q2 q3 q4 q5 q6
  obtain ⟨q0, q1, q2, q3, q4, q5, q6⟩ := HD.out wr AT.out
  by_cases hlt : k < m
  ·have hlt2 : k < P.m := by rw [HM.out]; exact hlt
   have p := AT.out.ba.at_ k hlt2
   obtain ⟨b, hb⟩ : ∃ b, P.basic k = b := ⟨_, rfl⟩
   have bN : b < N := by rw [← hb, ← HN.out]; exact PL.out.blt k hlt2
   have b00 : (0 : Int) ≤ (b : Int) := by omega
   have b01 : (b : Int) < (N : Int) := by omega
   rw [hb] at p
   have NX : Hid (P.brkT (k + 1) = if P.past k (P.brkT k) then P.brkT k else if P.lo b then some (k, true) else if P.hi b then some (k, false) else P.brkT k) := by show _ = _; rw [← hb]; rfl
   have BI := P.brkT_prop k
   have PS : Hid (P.past k (P.brkT k) = match P.brkT k with | some (r, _) => decide (P.basic r < b) | none => false) := by show _ = _; rw [← hb]; unfold Pb.past; cases P.brkT k <;> rfl
   have HB := Lib.hid hb
   generalize hprev : P.brkT k = prev at NX BI PS
   clear hb hprev
   obtain ⟨ps, hps⟩ : ∃ ps, P.past k prev = ps := ⟨_, rfl⟩
   rw [hps] at NX PS
   clear hps
   go_upto_region 5 with fail
   go_cut [28] (fun v W => v = .bool ps ∧ W = wr)
   case first =>
    cases prev with
    | none =>
     have E : Hid (ps = false) := PS.out
     simp only [rowI, upB]
     go_wp2_with fail
     go_meet
     case rel => exact ⟨by rw [E.out], rfl⟩
    | some x =>
     obtain ⟨r, up⟩ := x
     have rm : r < m := by have := BI.1; omega
     have pr := AT.out.ba.at_ r (by rw [HM.out]; exact rm)
     obtain ⟨c, hc⟩ : ∃ c, P.basic r = c := ⟨_, rfl⟩
     have E : Hid (ps = decide (c < b)) := by rw [← hc]; exact PS.out
     rw [hc] at pr
     have r0 : (0 : Int) ≤ (r : Int) := by omega
     have r1 : (r : Int) < (m : Int) := by omega
     clear hc BI
     simp only [rowI, upB]
     go_wp2_with fail
     go_meet
     case rel => exact ⟨by rw [E.out], rfl⟩
   case rest =>
    obtain ⟨rfl, rfl⟩ := hcut
    cases ps with
    | true =>
     have N2 : Hid (P.brkT (k + 1) = prev) := by show _ = _; rw [NX.out, if_pos rfl]
     go_wp2_with fail
     go_roundw
     case rel => exact ⟨k + 1, by rw [HM.out]; omega, by go_num, by rw [N2.out], by rw [N2.out], BR.out⟩
     case measure => simp [intOf]; omega
    | false =>
     have N2 : Hid (P.brkT (k + 1) = if P.lo b then some (k, true) else if P.hi b then some (k, false) else prev) := by show _ = _; rw [NX.out, if_neg (by simp)]
     clear NX PS BI
     obtain ⟨W1, rfl⟩ : ∃ W1 : World, W1 = wc := ⟨_, rfl⟩
     go_upto_region 6 with fail
     go_cut [29] (fun v W => v = .bool (P.lo b) ∧ Below W1.heap.size W1 W)
     case first =>
      obtain ⟨q0, q1, q2, q3, q4, q5, q6⟩ := HD.out W1 AT.out
      have bh := AT.out.lo.at_ b (by rw [HN.out]; exact bN)
      cases hh : P.low b with
      | none =>
       have E : Hid (P.lo b = false) := by show _ = _; unfold Pb.lo; rw [hh]
       rw [hh] at bh
       have b0 := bh.1
       clear bh hh
       go_quiet (fail)
       go_wp2_with fail
       go_meet
       case rel => exact ⟨by rw [E.out], Qt.below ⟨nq, rfl⟩⟩
      | some u =>
       obtain ⟨z, hz⟩ : ∃ z, vcmp (P.now b) u = z := ⟨_, rfl⟩
       have E : Hid (P.lo b = decide (z < 0)) := by show _ = _; unfold Pb.lo; rw [hh]; rw [← hz]
       rw [hh] at bh
       obtain ⟨b0, M', S', r3, r4, b1, b2, b3, b4, b5, b6⟩ := bh.some_reads
       obtain ⟨M, S, r1, r2, c0, c1, c2, c3, c4, c5⟩ := (AT.out.no.at_ b (by rw [HN.out]; exact bN)).reads
       have s1 := SZ.out.now b (by rw [HN.out]; exact bN)
       have s2 := SZ.out.low b u (by rw [HN.out]; exact bN) hh
       have C := vcmp_any (w := W1.drew) (r1.below (Below.refl _ _).drew) (r2.below (Below.refl _ _).drew) (r3.below (Below.refl _ _).drew) (r4.below (Below.refl _ _).drew) (Sz.mono s1.1 (by omega)) (Sz.mono s1.2 (by omega)) (Sz.mono s2.1 (by omega)) (Sz.mono s2.2 (by omega))
       rw [hz] at C
       have C := Lib.hid C
       have KP := Lib.hid (fun (W : World) (hB : Below W1.heap.size W1 W) => (show W.cell? ⟨L.p, 1, none⟩ = some (.slice (some ⟨L.low, 0, none⟩) N N) ∧ W.cell? ⟨L.p, 3, none⟩ = some (.slice (some ⟨L.now, 0, none⟩) N N) ∧ W.cell? ⟨L.low, b * 7, none⟩ = some (.bool true) ∧ W.cell? ⟨L.low, b * 7 + 1, none⟩ = some (.bool M'.s) ∧ W.cell? ⟨L.low, b * 7 + 2, none⟩ = some (.slice M'.a M'.n M'.c) ∧ W.cell? ⟨L.low, b * 7 + 3, none⟩ = some (.slice M'.b M'.m M'.d) ∧ W.cell? ⟨L.low, b * 7 + 4, none⟩ = some (.bool S'.s) ∧ W.cell? ⟨L.low, b * 7 + 5, none⟩ = some (.slice S'.a S'.n S'.c) ∧ W.cell? ⟨L.low, b * 7 + 6, none⟩ = some (.slice S'.b S'.m S'.d) ∧ W.cell? ⟨L.now, b * 6, none⟩ = some (.bool M.s) ∧ W.cell? ⟨L.now, b * 6 + 1, none⟩ = some (.slice M.a M.n M.c) ∧ W.cell? ⟨L.now, b * 6 + 2, none⟩ = some (.slice M.b M.m M.d) ∧ W.cell? ⟨L.now, b * 6 + 3, none⟩ = some (.bool S.s) ∧ W.cell? ⟨L.now, b * 6 + 4, none⟩ = some (.slice S.a S.n S.c) ∧ W.cell? ⟨L.now, b * 6 + 5, none⟩ = some (.slice S.b S.m S.d) from ⟨cell_later hB (Nat.le_refl _) q1, cell_later hB (Nat.le_refl _) q3, cell_later hB (Nat.le_refl _) b0, cell_later hB (Nat.le_refl _) b1, cell_later hB (Nat.le_refl _) b2, cell_later hB (Nat.le_refl _) b3, cell_later hB (Nat.le_refl _) b4, cell_later hB (Nat.le_refl _) b5, cell_later hB (Nat.le_refl _) b6, cell_later hB (Nat.le_refl _) c0, cell_later hB (Nat.le_refl _) c1, cell_later hB (Nat.le_refl _) c2, cell_later hB (Nat.le_refl _) c3, cell_later hB (Nat.le_refl _) c4, cell_later hB (Nat.le_refl _) c5⟩))
       clear bh hh r1 r2 r3 r4 s1 s2 hz
       go_region_held3 (fun W => W.cell? ⟨L.p, 1, none⟩ = some (.slice (some ⟨L.low, 0, none⟩) N N) ∧ W.cell? ⟨L.p, 3, none⟩ = some (.slice (some ⟨L.now, 0, none⟩) N N) ∧ W.cell? ⟨L.low, b * 7, none⟩ = some (.bool true) ∧ W.cell? ⟨L.low, b * 7 + 1, none⟩ = some (.bool M'.s) ∧ W.cell? ⟨L.low, b * 7 + 2, none⟩ = some (.slice M'.a M'.n M'.c) ∧ W.cell? ⟨L.low, b * 7 + 3, none⟩ = some (.slice M'.b M'.m M'.d) ∧ W.cell? ⟨L.low, b * 7 + 4, none⟩ = some (.bool S'.s) ∧ W.cell? ⟨L.low, b * 7 + 5, none⟩ = some (.slice S'.a S'.n S'.c) ∧ W.cell? ⟨L.low, b * 7 + 6, none⟩ = some (.slice S'.b S'.m S'.d) ∧ W.cell? ⟨L.now, b * 6, none⟩ = some (.bool M.s) ∧ W.cell? ⟨L.now, b * 6 + 1, none⟩ = some (.slice M.a M.n M.c) ∧ W.cell? ⟨L.now, b * 6 + 2, none⟩ = some (.slice M.b M.m M.d) ∧ W.cell? ⟨L.now, b * 6 + 3, none⟩ = some (.bool S.s) ∧ W.cell? ⟨L.now, b * 6 + 4, none⟩ = some (.slice S.a S.n S.c) ∧ W.cell? ⟨L.now, b * 6 + 5, none⟩ = some (.slice S.b S.m S.d))
        (first
         | with_reducible exact ⟨q1, q3, b0, b1, b2, b3, b4, b5, b6, c0, c1, c2, c3, c4, c5⟩
         | with_reducible exact KS
         | go_keep)
        ((go_at_call 63; ((with_reducible refine C.out.mono ?_)); go_loud (rintro e w2 ⟨rfl, B2⟩; have KS := KP.out w2 (undrew B2); have B2 := Lib.hid (undrew B2))))
       go_wp2_with fail
       go_meet
       case rel => exact ⟨by rw [E.out], B2.out⟩
     case rest =>
      obtain ⟨rfl, hB29⟩ := hcut
      clear q0 q1 q2 q3 q4 q5 q6
      have AT2 := AT.out.below hB29
      have BR2 := Lib.hid (Below.over BR.out BR.out.size hB29)
      cases hlo : P.lo b with
      | true =>
       have N3 : Hid (P.brkT (k + 1) = some (k, true)) := by show _ = _; rw [N2.out, hlo]; rfl
       clear hB29 AT2
       go_wp2_with fail
       go_roundw
       case rel => exact ⟨k + 1, by rw [HM.out]; omega, by go_num, by rw [N3.out]; rfl, by rw [N3.out]; rfl, BR2.out⟩
       case measure => simp [intOf]; omega
      | false =>
       have N3 : Hid (P.brkT (k + 1) = if P.hi b then some (k, false) else prev) := by show _ = _; rw [N2.out, hlo]; rfl
       have AT := Lib.hid AT2
       clear hB29 AT2 hlo
       obtain ⟨W2, rfl⟩ : ∃ W2 : World, W2 = wc := ⟨_, rfl⟩
       go_upto_region 8 with fail
       go_cut [58] (fun v W => v = .bool (P.hi b) ∧ Below W2.heap.size W2 W)
       case first =>
        obtain ⟨q0, q1, q2, q3, q4, q5, q6⟩ := HD.out W2 AT.out
        have bh := AT.out.hi.at_ b (by rw [HN.out]; exact bN)
        cases hh : P.high b with
        | none =>
         have E : Hid (P.hi b = false) := by show _ = _; unfold Pb.hi; rw [hh]
         rw [hh] at bh
         have b0 := bh.1
         clear bh hh
         go_quiet (fail)
         go_wp2_with fail
         go_meet
         case rel => exact ⟨by rw [E.out], Qt.below ⟨nq, rfl⟩⟩
        | some u =>
         obtain ⟨z, hz⟩ : ∃ z, vcmp (P.now b) u = z := ⟨_, rfl⟩
         have E : Hid (P.hi b = decide (0 < z)) := by show _ = _; unfold Pb.hi; rw [hh]; rw [← hz]
         rw [hh] at bh
         obtain ⟨b0, M', S', r3, r4, b1, b2, b3, b4, b5, b6⟩ := bh.some_reads
         obtain ⟨M, S, r1, r2, c0, c1, c2, c3, c4, c5⟩ := (AT.out.no.at_ b (by rw [HN.out]; exact bN)).reads
         have s1 := SZ.out.now b (by rw [HN.out]; exact bN)
         have s2 := SZ.out.high b u (by rw [HN.out]; exact bN) hh
         have C := vcmp_any (w := W2.drew) (r1.below (Below.refl _ _).drew) (r2.below (Below.refl _ _).drew) (r3.below (Below.refl _ _).drew) (r4.below (Below.refl _ _).drew) (Sz.mono s1.1 (by omega)) (Sz.mono s1.2 (by omega)) (Sz.mono s2.1 (by omega)) (Sz.mono s2.2 (by omega))
         rw [hz] at C
         have C := Lib.hid C
         have KP := Lib.hid (fun (W : World) (hB : Below W2.heap.size W2 W) => (show W.cell? ⟨L.p, 2, none⟩ = some (.slice (some ⟨L.high, 0, none⟩) N N) ∧ W.cell? ⟨L.p, 3, none⟩ = some (.slice (some ⟨L.now, 0, none⟩) N N) ∧ W.cell? ⟨L.high, b * 7, none⟩ = some (.bool true) ∧ W.cell? ⟨L.high, b * 7 + 1, none⟩ = some (.bool M'.s) ∧ W.cell? ⟨L.high, b * 7 + 2, none⟩ = some (.slice M'.a M'.n M'.c) ∧ W.cell? ⟨L.high, b * 7 + 3, none⟩ = some (.slice M'.b M'.m M'.d) ∧ W.cell? ⟨L.high, b * 7 + 4, none⟩ = some (.bool S'.s) ∧ W.cell? ⟨L.high, b * 7 + 5, none⟩ = some (.slice S'.a S'.n S'.c) ∧ W.cell? ⟨L.high, b * 7 + 6, none⟩ = some (.slice S'.b S'.m S'.d) ∧ W.cell? ⟨L.now, b * 6, none⟩ = some (.bool M.s) ∧ W.cell? ⟨L.now, b * 6 + 1, none⟩ = some (.slice M.a M.n M.c) ∧ W.cell? ⟨L.now, b * 6 + 2, none⟩ = some (.slice M.b M.m M.d) ∧ W.cell? ⟨L.now, b * 6 + 3, none⟩ = some (.bool S.s) ∧ W.cell? ⟨L.now, b * 6 + 4, none⟩ = some (.slice S.a S.n S.c) ∧ W.cell? ⟨L.now, b * 6 + 5, none⟩ = some (.slice S.b S.m S.d) from ⟨cell_later hB (Nat.le_refl _) q2, cell_later hB (Nat.le_refl _) q3, cell_later hB (Nat.le_refl _) b0, cell_later hB (Nat.le_refl _) b1, cell_later hB (Nat.le_refl _) b2, cell_later hB (Nat.le_refl _) b3, cell_later hB (Nat.le_refl _) b4, cell_later hB (Nat.le_refl _) b5, cell_later hB (Nat.le_refl _) b6, cell_later hB (Nat.le_refl _) c0, cell_later hB (Nat.le_refl _) c1, cell_later hB (Nat.le_refl _) c2, cell_later hB (Nat.le_refl _) c3, cell_later hB (Nat.le_refl _) c4, cell_later hB (Nat.le_refl _) c5⟩))
         clear bh hh r1 r2 r3 r4 s1 s2 hz
         go_region_held3 (fun W => W.cell? ⟨L.p, 2, none⟩ = some (.slice (some ⟨L.high, 0, none⟩) N N) ∧ W.cell? ⟨L.p, 3, none⟩ = some (.slice (some ⟨L.now, 0, none⟩) N N) ∧ W.cell? ⟨L.high, b * 7, none⟩ = some (.bool true) ∧ W.cell? ⟨L.high, b * 7 + 1, none⟩ = some (.bool M'.s) ∧ W.cell? ⟨L.high, b * 7 + 2, none⟩ = some (.slice M'.a M'.n M'.c) ∧ W.cell? ⟨L.high, b * 7 + 3, none⟩ = some (.slice M'.b M'.m M'.d) ∧ W.cell? ⟨L.high, b * 7 + 4, none⟩ = some (.bool S'.s) ∧ W.cell? ⟨L.high, b * 7 + 5, none⟩ = some (.slice S'.a S'.n S'.c) ∧ W.cell? ⟨L.high, b * 7 + 6, none⟩ = some (.slice S'.b S'.m S'.d) ∧ W.cell? ⟨L.now, b * 6, none⟩ = some (.bool M.s) ∧ W.cell? ⟨L.now, b * 6 + 1, none⟩ = some (.slice M.a M.n M.c) ∧ W.cell? ⟨L.now, b * 6 + 2, none⟩ = some (.slice M.b M.m M.d) ∧ W.cell? ⟨L.now, b * 6 + 3, none⟩ = some (.bool S.s) ∧ W.cell? ⟨L.now, b * 6 + 4, none⟩ = some (.slice S.a S.n S.c) ∧ W.cell? ⟨L.now, b * 6 + 5, none⟩ = some (.slice S.b S.m S.d))
          (first
           | with_reducible exact ⟨q2, q3, b0, b1, b2, b3, b4, b5, b6, c0, c1, c2, c3, c4, c5⟩
           | with_reducible exact KS
           | go_keep)
          ((go_at_call 63; ((with_reducible refine C.out.mono ?_)); go_loud (rintro e w2 ⟨rfl, B2⟩; have KS := KP.out w2 (undrew B2); have B2 := Lib.hid (undrew B2))))
         go_wp2_with fail
         go_meet
         case rel => exact ⟨by rw [E.out], B2.out⟩
       case rest =>
        obtain ⟨rfl, hB58⟩ := hcut
        have BR3 := Lib.hid (Below.over BR2.out BR2.out.size hB58)
        cases hhi : P.hi b with
        | true =>
         have N4 : Hid (P.brkT (k + 1) = some (k, false)) := by show _ = _; rw [N3.out, hhi]; rfl
         clear hB58
         go_wp2_with fail
         go_roundw
         case rel => exact ⟨k + 1, by rw [HM.out]; omega, by go_num, by rw [N4.out]; rfl, by rw [N4.out]; rfl, BR3.out⟩
         case measure => simp [intOf]; omega
        | false =>
         have N4 : Hid (P.brkT (k + 1) = prev) := by show _ = _; rw [N3.out, hhi]; rfl
         clear hB58
         go_wp2_with fail
         go_roundw
         case rel => exact ⟨k + 1, by rw [HM.out]; omega, by go_num, by rw [N4.out], by rw [N4.out], BR3.out⟩
         case measure => simp [intOf]; omega
  ·obtain rfl : m = k := by omega
   have E : Hid (P.brk = P.brkT m) := by show _ = _; unfold Pb.brk; rw [HM.out]
   go_wp2_with fail
   go_ret2
   exact ⟨by rw [E.out]; rfl, BR.out⟩
end Go.Proofs.Ytijdglogadnbcaa
