/- Problem.helper. -/
import Derived.Test.YtijdglogadnbcaaZ16
set_option linter.unusedVariables false
set_option linter.unusedSimpArgs false
set_option maxRecDepth 100000
set_option maxHeartbeats 40000000
namespace Go.Proofs.Ytijdglogadnbcaa
open Go.RowKit Nt Bl
def bestI : Option Nat → Int
 | none => -1
 | some c => (c : Int)
def HpL (w : World) (P : Pb) (r : Nat) (up : Bool) (v7 v16 : Value) (wr : World) : Prop :=
 ∃ k : Nat, k ≤ P.n ∧ v16 = .int .i64 (k : Int) ∧ v7 = .int .i64 (bestI (P.hlpT r up k)) ∧ Below w.heap.size w wr
theorem dir_three (P : Pb) (r k : Nat) (up : Bool) : P.dir r k up = -1 ∨ P.dir r k up = 0 ∨ P.dir r k up = 1 := by
 have h3 : rsgn (P.T r k) = -1 ∨ rsgn (P.T r k) = 0 ∨ rsgn (P.T r k) = 1 := by
  unfold rsgn
  split
  ·exact Or.inr (Or.inl rfl)
  ·split
   ·exact Or.inl rfl
   ·exact Or.inr (Or.inr rfl)
 unfold Pb.dir
 cases up <;> simp <;> omega
theorem hlp_up {n0 r : Nat} {w : World} {L : Lay} {P : Pb} (h : PAt n0 w L P) (hp : P.Pl) (hs : PSz P 1048576) (hr : r < P.m) (hn0 : 0 < P.n) :
  Calls Try.prog 48 #[.pointer (some ⟨L.p, 0, none⟩), .int .i64 (r : Int), .bool true] w fun e w' => e = .returned (.int .i64 (bestI (P.hlp r true))) ∧ Below w.heap.size w w' := by
 have nm := h.nm; have cp := h.cp
 obtain ⟨N, hN⟩ : ∃ N, P.n + P.m = N := ⟨_, rfl⟩
 obtain ⟨m, hm⟩ : ∃ m, P.m = m := ⟨_, rfl⟩
 obtain ⟨n, hn⟩ : ∃ n, P.n = n := ⟨_, rfl⟩
 rw [hm] at nm cp hr
 rw [hn] at nm cp
 have HN := Lib.hid hN; have HM := Lib.hid hm; have HNN := Lib.hid hn
 have AT0 := Lib.hid h; have PL := Lib.hid hp; have SZ := Lib.hid hs
 have HD := Lib.hid (fun (W : World) (h : PAt n0 W L P) => (show W.cell? ⟨L.p, 5, none⟩ = some (.slice (some ⟨L.freB, 0, none⟩) n L.frec) ∧ W.cell? ⟨L.p, 6, none⟩ = some (.slice (some ⟨L.tab, 0, none⟩) m L.tabc) from by
  have := h.head; rw [hm, hn, (h.fr hn0).1] at this; exact ⟨this.2.2.2.2.2.1, this.2.2.2.2.2.2⟩))
 obtain ⟨q5, q6⟩ := HD.out w AT0.out
 have r0 : (0 : Int) ≤ (r : Int) := by omega
 have r1 : (r : Int) < (m : Int) := by omega
 clear h hp hs hN hm hn
 go_enter Try.func48, Try.ntmps48
 go_wp2_with fail
 go_loopw [7, 16] (fun v7 v16 wr => HpL w P r true v7 v16 wr) (fun _ v _ => n - (intOf v).toNat)
 case atStart => exact ⟨0, Nat.zero_le _, rfl, rfl, Below.refl _ _⟩
 case round =>
  obtain ⟨k, hk, rfl, rfl, hB⟩ := hrel
  rw [HNN.out] at hk
  have BR := Lib.hid hB
  have AT := Lib.hid (AT0.out.below hB)
  clear hB q5 q6
  obtain ⟨q5, q6⟩ := HD.out wr AT.out
  by_cases hlt : k < n
  ·have hlt2 : k < P.n := by rw [HNN.out]; exact hlt
   obtain ⟨fa, fr⟩ := AT.out.fr hn0
   obtain ⟨la, li⟩ := AT.out.li hn0 r (by rw [HM.out]; exact hr)
   have tr := AT.out.ta r (by rw [HM.out]; exact hr)
   rw [la, HNN.out] at tr
   have pk := fr.at_ k hlt2
   obtain ⟨v, hv⟩ : ∃ v, P.free k = v := ⟨_, rfl⟩
   rw [hv] at pk
   have vN : v < N := by rw [← hv, ← HN.out]; exact PL.out.flt k hlt2
   obtain ⟨M, c0, c1, c2, rM⟩ := li.at_ k hlt2
   have SG := Lib.hid (rsign_any rM)
   have NX : Hid (P.hlpT r true (k + 1) = if P.helps r k true && P.better k (P.hlpT r true k) then some k else P.hlpT r true k) := rfl
   have HE : Hid (P.helps r k true = ((decide (0 < P.dir r k true) && P.rises v) || (decide (P.dir r k true < 0) && P.falls v))) := by show _ = _; rw [← hv]; rfl
   have DR : Hid (P.dir r k true = rsgn (P.T r k)) := rfl
   have D3 := dir_three P r k true
   have BT : Hid (∀ c, P.better k (some c) = decide (v < P.free c)) := by show ∀ c, _; intro c; rw [← hv]; rfl
   have HI := P.hlpT_prop r true k
   generalize P.hlpT r true k = prev at NX HI
   obtain ⟨sg, hsg⟩ : ∃ sg, rsgn (P.T r k) = sg := ⟨_, rfl⟩
   rw [hsg] at SG DR
   obtain ⟨d, hd⟩ : ∃ d, P.dir r k true = d := ⟨_, rfl⟩
   rw [hd] at DR HE D3
   have kk0 : (0 : Int) ≤ (k : Int) := by omega
   have kk1 : (k : Int) < (n : Int) := by omega
   clear fr li hv rM hsg hd la fa
   go_upto_region 5 with fail
   go_wp2_with fail
   refine SG.out.mono ?_
   rintro e w5 ⟨rfl, B5⟩
   have AT5 := Lib.hid (AT.out.below B5)
   have BR5 := Lib.hid (Below.over BR.out BR.out.size B5)
   clear q5 q6 tr pk c0 c1 c2 B5
   obtain ⟨q5, q6⟩ := HD.out w5 AT5.out
   have BN : Hid (k < n ∧ n ≤ 64) := ⟨hlt, nm.1⟩
   obtain rfl : d = sg := DR.out
   go_upto_region 8 with fail
   go_cut [66] (fun x W => x = .bool (P.helps r k true && P.better k prev) ∧ Below w5.heap.size w5 W)
   case first =>
    rcases D3 with rfl | rfl | rfl
    ·-- falls
     have HE2 : Hid (P.helps r k true = P.falls v) := by show _ = _; rw [HE.out]; simp
     have C := fall_any AT5.out (v := v) (by rw [HN.out]; exact vN) SZ.out
     obtain ⟨f, hf⟩ : ∃ f, P.falls v = f := ⟨_, rfl⟩
     rw [hf] at C HE2
     have C := Lib.hid C
     clear hf
     cases f with
     | false =>
      have E : Hid ((P.helps r k true && P.better k prev) = false) := by show _ = _; rw [HE2.out]; rfl
      go_wp2_with fail
      refine C.out.mono ?_
      rintro e w6 ⟨rfl, B6⟩
      have B6 := Lib.hid B6
      go_wp2_with fail
      go_meet
      case rel => exact ⟨by rw [E.out], B6.out⟩
     | true =>
      cases prev with
      | none =>
       have E : Hid ((P.helps r k true && P.better k none) = true) := by show _ = _; rw [HE2.out]; rfl
       simp only [bestI]
       go_wp2_with fail
       refine C.out.mono ?_
       rintro e w6 ⟨rfl, B6⟩
       have B6 := Lib.hid B6
       go_wp2_with fail
       go_meet
       case rel => exact ⟨by rw [E.out], B6.out⟩
      | some c =>
       have ck : c < k := HI.1
       have E : Hid ((P.helps r k true && P.better k (some c)) = decide (v < P.free c)) := by show _ = _; rw [HE2.out, BT.out]; rfl
       obtain ⟨y, hy⟩ : ∃ y, P.free c = y := ⟨_, rfl⟩
       rw [hy] at E
       have HY := Lib.hid hy
       have cc0 : (0 : Int) ≤ (c : Int) := by omega
       have cc1 : (c : Int) < (n : Int) := by omega
       clear hy HI
       simp only [bestI]
       go_wp2_with fail
       refine C.out.mono ?_
       rintro e w6 ⟨rfl, B6⟩
       have AT6 := AT5.out.below B6
       obtain ⟨_, fr⟩ := AT6.fr (by omega)
       have pc := fr.at_ c (by omega)
       rw [HY.out] at pc
       clear q5 q6 fr
       obtain ⟨q5, q6⟩ := HD.out w6 AT6
       have B6 := Lib.hid B6
       clear AT6
       go_wp2_with fail
       go_meet
       case rel => exact ⟨by rw [E.out]; first | rfl | simp, B6.out⟩
    ·have E : Hid ((P.helps r k true && P.better k prev) = false) := by show _ = _; rw [HE.out]; simp
     go_wp2_with fail
     go_meet
     case rel => exact ⟨by rw [E.out], Below.refl _ _⟩
    ·-- rises
     have HE2 : Hid (P.helps r k true = P.rises v) := by show _ = _; rw [HE.out]; simp
     have C := rise_any AT5.out (v := v) (by rw [HN.out]; exact vN) SZ.out
     obtain ⟨f, hf⟩ : ∃ f, P.rises v = f := ⟨_, rfl⟩
     rw [hf] at C HE2
     have C := Lib.hid C
     clear hf
     cases f with
     | false =>
      have E : Hid ((P.helps r k true && P.better k prev) = false) := by show _ = _; rw [HE2.out]; rfl
      go_wp2_with fail
      refine C.out.mono ?_
      rintro e w6 ⟨rfl, B6⟩
      have B6 := Lib.hid B6
      go_wp2_with fail
      go_meet
      case rel => exact ⟨by rw [E.out], B6.out⟩
     | true =>
      cases prev with
      | none =>
       have E : Hid ((P.helps r k true && P.better k none) = true) := by show _ = _; rw [HE2.out]; rfl
       simp only [bestI]
       go_wp2_with fail
       refine C.out.mono ?_
       rintro e w6 ⟨rfl, B6⟩
       have B6 := Lib.hid B6
       go_wp2_with fail
       go_meet
       case rel => exact ⟨by rw [E.out], B6.out⟩
      | some c =>
       have ck : c < k := HI.1
       have E : Hid ((P.helps r k true && P.better k (some c)) = decide (v < P.free c)) := by show _ = _; rw [HE2.out, BT.out]; rfl
       obtain ⟨y, hy⟩ : ∃ y, P.free c = y := ⟨_, rfl⟩
       rw [hy] at E
       have HY := Lib.hid hy
       have cc0 : (0 : Int) ≤ (c : Int) := by omega
       have cc1 : (c : Int) < (n : Int) := by omega
       clear hy HI
       simp only [bestI]
       go_wp2_with fail
       refine C.out.mono ?_
       rintro e w6 ⟨rfl, B6⟩
       have AT6 := AT5.out.below B6
       obtain ⟨_, fr⟩ := AT6.fr (by omega)
       have pc := fr.at_ c (by omega)
       rw [HY.out] at pc
       clear q5 q6 fr
       obtain ⟨q5, q6⟩ := HD.out w6 AT6
       have B6 := Lib.hid B6
       clear AT6
       go_wp2_with fail
       go_meet
       case rel => exact ⟨by rw [E.out]; first | rfl | simp, B6.out⟩
   case rest =>
    obtain ⟨rfl, hB⟩ := hcut
    have BR6 := Lib.hid (Below.over BR5.out BR5.out.size hB)
    clear hB q5 q6 D3
    cases hh : (P.helps r k true && P.better k prev) with
    | true =>
     have N2 : Hid (P.hlpT r true (k + 1) = some k) := by show _ = _; rw [NX.out, hh]; rfl
     clear NX
     go_wp2_with fail
     go_roundw
     case rel => exact ⟨k + 1, by rw [HNN.out]; omega, by go_num, by rw [N2.out]; rfl, BR6.out⟩
     case measure => simp [intOf]; omega
    | false =>
     have N2 : Hid (P.hlpT r true (k + 1) = prev) := by show _ = _; rw [NX.out, hh]; rfl
     clear NX
     go_wp2_with fail
     go_roundw
     case rel => exact ⟨k + 1, by rw [HNN.out]; omega, by go_num, by rw [N2.out], BR6.out⟩
     case measure => simp [intOf]; omega
  ·obtain rfl : n = k := by omega
   have E : Hid (P.hlp r true = P.hlpT r true n) := by show _ = _; unfold Pb.hlp; rw [HNN.out]
   go_wp2_with fail
   go_ret
   exact ⟨by rw [E.out]; rfl, BR.out⟩
theorem hlp_down {n0 r : Nat} {w : World} {L : Lay} {P : Pb} (h : PAt n0 w L P) (hp : P.Pl) (hs : PSz P 1048576) (hr : r < P.m) (hn0 : 0 < P.n) :
  Calls Try.prog 48 #[.pointer (some ⟨L.p, 0, none⟩), .int .i64 (r : Int), .bool false] w fun e w' => e = .returned (.int .i64 (bestI (P.hlp r false))) ∧ Below w.heap.size w w' := by
 have nm := h.nm; have cp := h.cp
 obtain ⟨N, hN⟩ : ∃ N, P.n + P.m = N := ⟨_, rfl⟩
 obtain ⟨m, hm⟩ : ∃ m, P.m = m := ⟨_, rfl⟩
 obtain ⟨n, hn⟩ : ∃ n, P.n = n := ⟨_, rfl⟩
 rw [hm] at nm cp hr
 rw [hn] at nm cp
 have HN := Lib.hid hN; have HM := Lib.hid hm; have HNN := Lib.hid hn
 have AT0 := Lib.hid h; have PL := Lib.hid hp; have SZ := Lib.hid hs
 have HD := Lib.hid (fun (W : World) (h : PAt n0 W L P) => (show W.cell? ⟨L.p, 5, none⟩ = some (.slice (some ⟨L.freB, 0, none⟩) n L.frec) ∧ W.cell? ⟨L.p, 6, none⟩ = some (.slice (some ⟨L.tab, 0, none⟩) m L.tabc) from by
  have := h.head; rw [hm, hn, (h.fr hn0).1] at this; exact ⟨this.2.2.2.2.2.1, this.2.2.2.2.2.2⟩))
 obtain ⟨q5, q6⟩ := HD.out w AT0.out
 have r0 : (0 : Int) ≤ (r : Int) := by omega
 have r1 : (r : Int) < (m : Int) := by omega
 clear h hp hs hN hm hn
 go_enter Try.func48, Try.ntmps48
 go_wp2_with fail
 go_loopw [7, 16] (fun v7 v16 wr => HpL w P r false v7 v16 wr) (fun _ v _ => n - (intOf v).toNat)
 case atStart => exact ⟨0, Nat.zero_le _, rfl, rfl, Below.refl _ _⟩
 case round =>
  obtain ⟨k, hk, rfl, rfl, hB⟩ := hrel
  rw [HNN.out] at hk
  have BR := Lib.hid hB
  have AT := Lib.hid (AT0.out.below hB)
  clear hB q5 q6
  obtain ⟨q5, q6⟩ := HD.out wr AT.out
  by_cases hlt : k < n
  ·have hlt2 : k < P.n := by rw [HNN.out]; exact hlt
   obtain ⟨fa, fr⟩ := AT.out.fr hn0
   obtain ⟨la, li⟩ := AT.out.li hn0 r (by rw [HM.out]; exact hr)
   have tr := AT.out.ta r (by rw [HM.out]; exact hr)
   rw [la, HNN.out] at tr
   have pk := fr.at_ k hlt2
   obtain ⟨v, hv⟩ : ∃ v, P.free k = v := ⟨_, rfl⟩
   rw [hv] at pk
   have vN : v < N := by rw [← hv, ← HN.out]; exact PL.out.flt k hlt2
   obtain ⟨M, c0, c1, c2, rM⟩ := li.at_ k hlt2
   have SG := Lib.hid (rsign_any rM)
   have NX : Hid (P.hlpT r false (k + 1) = if P.helps r k false && P.better k (P.hlpT r false k) then some k else P.hlpT r false k) := rfl
   have HE : Hid (P.helps r k false = ((decide (0 < P.dir r k false) && P.rises v) || (decide (P.dir r k false < 0) && P.falls v))) := by show _ = _; rw [← hv]; rfl
   have DR : Hid (P.dir r k false = -rsgn (P.T r k)) := rfl
   have D3 := dir_three P r k false
   have BT : Hid (∀ c, P.better k (some c) = decide (v < P.free c)) := by show ∀ c, _; intro c; rw [← hv]; rfl
   have HI := P.hlpT_prop r false k
   generalize P.hlpT r false k = prev at NX HI
   obtain ⟨sg, hsg⟩ : ∃ sg, rsgn (P.T r k) = sg := ⟨_, rfl⟩
   rw [hsg] at SG DR
   obtain ⟨d, hd⟩ : ∃ d, P.dir r k false = d := ⟨_, rfl⟩
   rw [hd] at DR HE D3
   have kk0 : (0 : Int) ≤ (k : Int) := by omega
   have kk1 : (k : Int) < (n : Int) := by omega
   clear fr li hv rM hsg hd la fa
   go_upto_region 5 with fail
   go_wp2_with fail
   refine SG.out.mono ?_
   rintro e w5 ⟨rfl, B5⟩
   have AT5 := Lib.hid (AT.out.below B5)
   have BR5 := Lib.hid (Below.over BR.out BR.out.size B5)
   clear q5 q6 tr pk c0 c1 c2 B5
   obtain ⟨q5, q6⟩ := HD.out w5 AT5.out
   have BN : Hid (k < n ∧ n ≤ 64) := ⟨hlt, nm.1⟩
   have wn : IntKind.i64.wrap (-sg) = d := by rw [DR.out]; exact IntWalk.i64_in _ (by have := DR.out; omega)
   have wm : -sg = d := DR.out.symm
   clear DR
   go_upto_region 8 with fail
   go_cut [66] (fun x W => x = .bool (P.helps r k false && P.better k prev) ∧ Below w5.heap.size w5 W)
   case first =>
    rcases D3 with rfl | rfl | rfl
    ·-- falls
     have HE2 : Hid (P.helps r k false = P.falls v) := by show _ = _; rw [HE.out]; simp
     have C := fall_any AT5.out (v := v) (by rw [HN.out]; exact vN) SZ.out
     obtain ⟨f, hf⟩ : ∃ f, P.falls v = f := ⟨_, rfl⟩
     rw [hf] at C HE2
     have C := Lib.hid C
     clear hf
     cases f with
     | false =>
      have E : Hid ((P.helps r k false && P.better k prev) = false) := by show _ = _; rw [HE2.out]; rfl
      go_wp2_with fail
      refine C.out.mono ?_
      rintro e w6 ⟨rfl, B6⟩
      have B6 := Lib.hid B6
      go_wp2_with fail
      go_meet
      case rel => exact ⟨by rw [E.out], B6.out⟩
     | true =>
      cases prev with
      | none =>
       have E : Hid ((P.helps r k false && P.better k none) = true) := by show _ = _; rw [HE2.out]; rfl
       simp only [bestI]
       go_wp2_with fail
       refine C.out.mono ?_
       rintro e w6 ⟨rfl, B6⟩
       have B6 := Lib.hid B6
       go_wp2_with fail
       go_meet
       case rel => exact ⟨by rw [E.out], B6.out⟩
      | some c =>
       have ck : c < k := HI.1
       have E : Hid ((P.helps r k false && P.better k (some c)) = decide (v < P.free c)) := by show _ = _; rw [HE2.out, BT.out]; rfl
       obtain ⟨y, hy⟩ : ∃ y, P.free c = y := ⟨_, rfl⟩
       rw [hy] at E
       have HY := Lib.hid hy
       have cc0 : (0 : Int) ≤ (c : Int) := by omega
       have cc1 : (c : Int) < (n : Int) := by omega
       clear hy HI
       simp only [bestI]
       go_wp2_with fail
       refine C.out.mono ?_
       rintro e w6 ⟨rfl, B6⟩
       have AT6 := AT5.out.below B6
       obtain ⟨_, fr⟩ := AT6.fr (by omega)
       have pc := fr.at_ c (by omega)
       rw [HY.out] at pc
       clear q5 q6 fr
       obtain ⟨q5, q6⟩ := HD.out w6 AT6
       have B6 := Lib.hid B6
       clear AT6
       go_wp2_with fail
       go_meet
       case rel => exact ⟨by rw [E.out]; first | rfl | simp, B6.out⟩
    ·have E : Hid ((P.helps r k false && P.better k prev) = false) := by show _ = _; rw [HE.out]; simp
     go_wp2_with fail
     go_meet
     case rel => exact ⟨by rw [E.out], Below.refl _ _⟩
    ·-- rises
     have HE2 : Hid (P.helps r k false = P.rises v) := by show _ = _; rw [HE.out]; simp
     have C := rise_any AT5.out (v := v) (by rw [HN.out]; exact vN) SZ.out
     obtain ⟨f, hf⟩ : ∃ f, P.rises v = f := ⟨_, rfl⟩
     rw [hf] at C HE2
     have C := Lib.hid C
     clear hf
     cases f with
     | false =>
      have E : Hid ((P.helps r k false && P.better k prev) = false) := by show _ = _; rw [HE2.out]; rfl
      go_wp2_with fail
      refine C.out.mono ?_
      rintro e w6 ⟨rfl, B6⟩
      have B6 := Lib.hid B6
      go_wp2_with fail
      go_meet
      case rel => exact ⟨by rw [E.out], B6.out⟩
     | true =>
      cases prev with
      | none =>
       have E : Hid ((P.helps r k false && P.better k none) = true) := by show _ = _; rw [HE2.out]; rfl
       simp only [bestI]
       go_wp2_with fail
       refine C.out.mono ?_
       rintro e w6 ⟨rfl, B6⟩
       have B6 := Lib.hid B6
       go_wp2_with fail
       go_meet
       case rel => exact ⟨by rw [E.out], B6.out⟩
      | some c =>
       have ck : c < k := HI.1
       have E : Hid ((P.helps r k false && P.better k (some c)) = decide (v < P.free c)) := by show _ = _; rw [HE2.out, BT.out]; rfl
       obtain ⟨y, hy⟩ : ∃ y, P.free c = y := ⟨_, rfl⟩
       rw [hy] at E
       have HY := Lib.hid hy
       have cc0 : (0 : Int) ≤ (c : Int) := by omega
       have cc1 : (c : Int) < (n : Int) := by omega
       clear hy HI
       simp only [bestI]
       go_wp2_with fail
       refine C.out.mono ?_
       rintro e w6 ⟨rfl, B6⟩
       have AT6 := AT5.out.below B6
       obtain ⟨_, fr⟩ := AT6.fr (by omega)
       have pc := fr.at_ c (by omega)
       rw [HY.out] at pc
       clear q5 q6 fr
       obtain ⟨q5, q6⟩ := HD.out w6 AT6
       have B6 := Lib.hid B6
       clear AT6
       go_wp2_with fail
       go_meet
       case rel => exact ⟨by rw [E.out]; first | rfl | simp, B6.out⟩
   case rest =>
    obtain ⟨rfl, hB⟩ := hcut
    have BR6 := Lib.hid (Below.over BR5.out BR5.out.size hB)
    clear hB q5 q6 D3
    cases hh : (P.helps r k false && P.better k prev) with
    | true =>
     have N2 : Hid (P.hlpT r false (k + 1) = some k) := by show _ = _; rw [NX.out, hh]; rfl
     clear NX
     go_wp2_with fail
     go_roundw
     case rel => exact ⟨k + 1, by rw [HNN.out]; omega, by go_num, by rw [N2.out]; rfl, BR6.out⟩
     case measure => simp [intOf]; omega
    | false =>
     have N2 : Hid (P.hlpT r false (k + 1) = prev) := by show _ = _; rw [NX.out, hh]; rfl
     clear NX
     go_wp2_with fail
     go_roundw
     case rel => exact ⟨k + 1, by rw [HNN.out]; omega, by go_num, by rw [N2.out], BR6.out⟩
     case measure => simp [intOf]; omega
  ·obtain rfl : n = k := by omega
   have E : Hid (P.hlp r false = P.hlpT r false n) := by show _ = _; unfold Pb.hlp; rw [HNN.out]
   go_wp2_with fail
   go_ret
   exact ⟨by rw [E.out]; rfl, BR.out⟩
def HzL (w : World) (v7 v16 : Value) (wr : World) : Prop := v7 = .int .i64 (-1) ∧ v16 = .int .i64 0 ∧ w = wr
theorem hlp_zero {n0 r : Nat} {w : World} {L : Lay} {P : Pb} {up : Bool} (h : PAt n0 w L P) (hn0 : P.n = 0) :
  Calls Try.prog 48 #[.pointer (some ⟨L.p, 0, none⟩), .int .i64 (r : Int), .bool up] w fun e w' => e = .returned (.int .i64 (bestI (P.hlp r up))) ∧ Below w.heap.size w w' := by
 have cp := h.cp
 have E : Hid (P.hlp r up = none) := by show _ = _; unfold Pb.hlp; rw [hn0]; rfl
 have q5 : w.cell? ⟨L.p, 5, none⟩ = some (.slice L.frea 0 L.frec) := by have := h.head.2.2.2.2.2.1; rw [hn0] at this; exact this
 clear h hn0
 go_enter Try.func48, Try.ntmps48
 go_wp2_with fail
 go_loopw [7, 16] (fun v7 v16 wr => HzL w v7 v16 wr) (fun _ _ _ => 0)
 case atStart => exact ⟨rfl, rfl, rfl⟩
 case round =>
  obtain ⟨rfl, rfl, rfl⟩ := hrel
  go_wp2_with fail
  go_ret
  exact ⟨by rw [E.out]; rfl, Below.refl _ _⟩
theorem hlp_any {n0 r : Nat} {w : World} {L : Lay} {P : Pb} {up : Bool} (h : PAt n0 w L P) (hp : P.Pl) (hs : PSz P 1048576) (hr : r < P.m) :
  Calls Try.prog 48 #[.pointer (some ⟨L.p, 0, none⟩), .int .i64 (r : Int), .bool up] w fun e w' => e = .returned (.int .i64 (bestI (P.hlp r up))) ∧ Below w.heap.size w w' := by
 by_cases hn0 : P.n = 0
 ·exact hlp_zero h hn0
 ·cases up with
  | true => exact hlp_up h hp hs hr (by omega)
  | false => exact hlp_down h hp hs hr (by omega)
end Go.Proofs.Ytijdglogadnbcaa
