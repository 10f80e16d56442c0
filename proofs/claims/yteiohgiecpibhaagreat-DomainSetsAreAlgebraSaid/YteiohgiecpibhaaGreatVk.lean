/- domain.join: the walk. -/
import Derived.Test.YteiohgiecpibhaaGreatVj
set_option linter.unusedVariables false
set_option linter.unusedSimpArgs false
set_option maxRecDepth 100000
set_option maxHeartbeats 1000000
namespace Go.Proofs.YteiohgiecpibhaaGreat
open Go.RowKit Go.Sort Fdm

theorem jn_len : ∀ (l : Dm), (jnF l).length ≤ l.length := by
  intro l
  have key : ∀ n (l : Dm), l.length = n → (jnF l).length ≤ n := by
    intro n
    induction n with
    | zero => intro l hn; obtain rfl := List.length_eq_zero_iff.1 hn; exact Nat.le_refl _
    | succ n ih =>
      intro l hn
      have hne : l ≠ [] := by rintro rfl; simp at hn
      obtain ⟨l', v, rfl⟩ : ∃ l' v, l = l' ++ [v] := ⟨_, _, (List.dropLast_concat_getLast hne).symm⟩
      have := ih l' (by simpa using hn)
      rw [jn_snoc]
      unfold jnStep
      cases h : (jnF l').getLast? with
      | none => simp
      | some s =>
        simp only
        split <;> simp <;> omega
  exact key _ l rfl
theorem take_sp {l : Dm} {k : Nat} (h : k < l.length) : l.take (k + 1) = l.take k ++ [sp l k] := by
  rw [List.take_add_one, List.getElem?_eq_getElem h]
  simp only [Option.toList]
  congr 2
  unfold sp; rw [List.getD_eq_getElem?_getD, List.getElem?_eq_getElem h]; rfl
theorem jn_at {l : Dm} {k : Nat} (h : k < l.length) :
    (jnF (l.take k) = [] ∧ jnF (l.take (k + 1)) = [((sp l k).1, (sp l k).2)]) ∨
    ∃ d t, jnF (l.take k) = d ++ [t] ∧ jnF (l.take (k + 1)) = if (sp l k).1 ≤ t.2 + 1 then d ++ [(t.1, max t.2 (sp l k).2)] else d ++ [t] ++ [((sp l k).1, (sp l k).2)] := by
  rw [take_sp h, jn_snoc]
  by_cases h0 : jnF (l.take k) = []
  · left; rw [h0]; exact ⟨rfl, rfl⟩
  · right
    obtain ⟨d, t, hd⟩ : ∃ d t, jnF (l.take k) = d ++ [t] := ⟨_, _, (List.dropLast_concat_getLast h0).symm⟩
    refine ⟨d, t, hd, ?_⟩
    rw [hd]
    by_cases e : (sp l k).1 ≤ t.2 + 1
    · rw [if_pos e, jnStep_join d t _ e]
    · rw [if_neg e, jnStep_more d t _ e]
theorem jn_bd {l : Dm} (hl : ∀ s ∈ l, -16384 ≤ s.1 ∧ s.2 ≤ 16384) : ∀ k, k ≤ l.length → ∀ t ∈ jnF (l.take k), t.2 ≤ 16384
  | 0, _, t, ht => by simp [jnF] at ht
  | k + 1, hk, t, ht => by
    have ih := jn_bd hl k (by omega)
    have hs := (hl _ (sp_mem (d := l) (i := k) (by omega))).2
    rcases jn_at (l := l) (k := k) (by omega) with ⟨e1, e2⟩ | ⟨d, u, e1, e2⟩
    · rw [e2] at ht; simp at ht; subst ht; exact hs
    · rw [e1] at ih
      have hu := ih u (by simp)
      rw [e2] at ht
      split at ht
      · rcases List.mem_append.1 ht with q | q
        · exact ih t (by simp [q])
        · simp at q; subst q; show max u.2 (sp l k).2 ≤ 16384; omega
      · rcases List.mem_append.1 ht with q | q
        · exact ih t q
        · simp at q; subst q; exact hs
theorem jn_lo {l : Dm} (hs : List.Pairwise (fun x y : Sp => x.1 ≤ y.1) l) (hb : ∀ s ∈ l, (-16384 ≤ s.1 ∧ s.2 ≤ 16384) ∧ s.1 ≤ s.2) (k : Nat) : ∀ t ∈ jnF (l.take k), -16384 ≤ t.2 := fun t ht => by
  have h := (jn_ok (-16384) _ (l.take k) rfl (hs.sublist (List.take_sublist _ _)) (fun s q => ⟨(hb s (List.mem_of_mem_take q)).1.1, (hb s (List.mem_of_mem_take q)).2⟩)).1
  exact nr_mem h (nr_end h ht)
theorem join_eq {a b X : Dm} (h : Ok X ∧ ∀ v, memF X v = true ↔ memF a v = true ∨ memF b v = true) : X = joinF a b :=
  pk_eq (p := fun v => memF a v || memF b v) h.1 fun v _ _ => by rw [h.2 v, Bool.or_eq_true]
theorem join_any {w : World} {a b : Dm} {aa ab : Option Addr} {n c m e : Nat} (ha : DmS w a aa n c) (hb : DmS w b ab m e) (oka : Ok a) (okb : Ok b) (hn : n ≤ 20000) (hm : m ≤ 20000) (hn0 : 0 < n) (hm0 : 0 < m) :
    Calls Tryz.prog 47 #[.slice aa n c, .slice ab m e] w (DmPost w (joinF a b)) := by
  have CL := Lib.hid (cloneO_any ha (by omega))
  obtain ⟨gb, ob, eb, -⟩ := hb.read hm0
  subst eb
  have HB := Lib.hid hb
  obtain ⟨L, hL⟩ := lift_b (a ++ b) (fun s hs => by
    rcases List.mem_append.1 hs with q | q
    · obtain ⟨i, hi, rfl⟩ := mem_sp q; have := spanF_zero (oka i hi); omega
    · obtain ⟨i, hi, rfl⟩ := mem_sp q; have := spanF_zero (okb i hi); omega)
  have LH := Lib.hid hL
  have NA := Lib.hid ha.len; have NB := Lib.hid hb.len
  have JO := Lib.hid (fun (l : Dm) (hp : l.Perm (a ++ b)) (hs : List.Pairwise (fun x y : Sp => x.1 ≤ y.1) l) => join_ok oka okb hp hs)
  have BD : Hid (∀ s ∈ a ++ b, (-16384 ≤ s.1 ∧ s.2 ≤ 16384) ∧ s.1 ≤ s.2) := Lib.hid fun s hs => by
    rcases List.mem_append.1 hs with q | q
    · obtain ⟨i, hi, rfl⟩ := mem_sp q; have := spanF_zero (oka i hi); omega
    · obtain ⟨i, hi, rfl⟩ := mem_sp q; have := spanF_zero (okb i hi); omega
  clear ha hb oka okb hL
  go_enter Tryz.func47, Tryz.ntmps47
  go_upto_region 2 with (first
    | (go_at_call 67; refine CL.out.mono ?_; rintro e w2 ⟨v, rfl, hv, hbl⟩; have OV := Lib.hid hv; have B2 := Lib.hid hbl; clear hv hbl)
    | (at_builtin; refine wpList_catD rfl _ _ rfl w.heap.size _ a b gb ob m e rfl rfl OV.out (HB.out.below B2.out) hm0 B2.out.size (by have := NA.out; omega) (by omega) ?_; intro v3 w3 hO hG; have O3 := Lib.hid hO; have B3 := Lib.hid (below_own B2.out OV.out.own B2.out.size hG); clear hO hG))
  obtain ⟨N, hN⟩ : ∃ N, (a ++ b).length = N := ⟨_, rfl⟩
  have NN : N = n + m := by rw [← hN, List.length_append, NA.out, NB.out]
  obtain ⟨g, cap, ev, gge⟩ : ∃ g cap, v3 = .slice (some ⟨g, 0, none⟩) N cap ∧ w.heap.size ≤ g := by
    rcases O3.out.own.2 with ⟨q, h0⟩ | ⟨g, cap, cur, q, hb, _⟩
    · omega
    · exact ⟨g, cap, by rw [q, hN], hb⟩
  subst ev
  have cpb : N ≤ cap ∧ cap ≤ 9223372036854775807 := by
    rcases O3.out.own.2 with ⟨q, h0⟩ | ⟨g', cap', cur, q, hb, hg, hnc, hcm, _⟩
    · cases q
    · injection q with q1 q2 q3
      subst q3
      exact ⟨by rw [← hN]; exact hnc, by unfold maxLen at hcm; omega⟩
  have GL : Hid (g < w3.heap.size) := Lib.hid (O3.out.own.lt g rfl).2
  have SO : Hid (Calls Tryz.prog 76 #[.slice (some ⟨g, 0, none⟩) N cap, .func (.func 77) #[] #[]] w3 fun e w' => e = .returned (.tuple #[]) ∧ (∃ l, SrP w' g N a b l) ∧ Below w.heap.size w w') := Lib.hid (by
    have hsz : L.toArray.size = N := by rw [List.size_toArray, ← hN, ← LH.out, List.length_map]
    have h := sort76_any g 0 cap L.toArray w3 (holds_of O3.out LH.out) GL.out (by rw [hsz]; omega)
    rw [hsz] at h
    refine h.mono fun e w' ⟨he, d', p1, p2, p3, p4⟩ => ⟨he, ?_, below_row B3.out p4 gge B3.out.size⟩
    rw [← hsz] at p1 p2
    obtain ⟨l, hl⟩ := srP_of LH.out p1 p2 p3
    exact ⟨l, hN ▸ hl⟩)
  have NB4 : N ≤ 40000 := by omega
  clear NN hN
  go_upto_region 3 with (go_at_call 76; refine SO.out.mono ?_; rintro e w4 ⟨rfl, ⟨l, hl⟩, hb4⟩; have SL := Lib.hid hl; have B4 := Lib.hid hb4; clear hl hb4)
  have JOL := JO.out l SL.out.perm SL.out.srt
  have EQ : Hid (jnF l = joinF a b) := Lib.hid (join_eq JOL)
  have LB : Hid (∀ s ∈ l, (-16384 ≤ s.1 ∧ s.2 ≤ 16384) ∧ s.1 ≤ s.2) := Lib.hid fun s hs => BD.out s (SL.out.perm.mem_iff.1 hs)
  clear SO JOL JO BD CL OV O3 LH
  go_wp2_with fail
  go_loopw [6, 18] (fun v6 v18 wr => ∃ k : Nat, k ≤ N ∧ v18 = .int .i64 (k : Int) ∧ DmO wr w4.heap.size v6 (jnF (l.take k)) ∧ Below w4.heap.size w4 wr) (fun _ v18 _ => N - (intOf v18).toNat)
  case atStart => exact ⟨0, Nat.zero_le _, rfl, DmO.nil _ _, Below.refl _ _⟩
  obtain ⟨k, hk, rfl, hO, hBr⟩ := hrel
  have BR := Lib.hid hBr; have O := Lib.hid hO
  clear hBr hO
  by_cases hlt : k < N
  · have hlt' : (k : Int) < (N : Int) := by omega
    have KL : Hid (k < l.length) := Lib.hid (by rw [SL.out.len]; exact hlt)
    obtain ⟨q0, q1⟩ := SL.out.at_ k hlt
    have lb := LB.out _ (sp_mem KL.out)
    have JB := Lib.hid (jn_bd (fun s hs => (LB.out s hs).1) k (by have := KL.out; omega))
    have JW := Lib.hid (jn_lo SL.out.srt LB.out k)
    have JL := Lib.hid (Nat.le_trans (jn_len (l.take k)) (by rw [List.length_take]; exact Nat.min_le_left _ _))
    have JA := jn_at KL.out
    obtain ⟨x, hx⟩ : ∃ x, (sp l k).1 = x := ⟨_, rfl⟩
    obtain ⟨y, hy⟩ : ∃ y, (sp l k).2 = y := ⟨_, rfl⟩
    have hs : sp l k = (x, y) := Prod.ext hx hy
    rw [hx] at q0
    rw [hy] at q1
    rw [hx, hy] at JA
    rw [hs] at lb
    have p0 := cell_later BR.out (Nat.le_refl _) q0
    have p1 := cell_later BR.out (Nat.le_refl _) q1
    have x1 : -16384 ≤ x := lb.1.1
    have x2 : y ≤ 16384 := lb.1.2
    have x3 : x ≤ y := lb.2
    clear q0 q1 hx hy hs lb
    go_upto_region 7 with fail
    have sq := heap_alloc_new wr (.cells #[.int .i64 x, .int .i64 y] 63)
    have sb := below_new wr (.cells #[.int .i64 x, .int .i64 y] 63)
    obtain ⟨wb, hwb⟩ : ∃ wb, wr.alloc (.cells #[.int .i64 x, .int .i64 y] 63) = wb := ⟨_, rfl⟩
    rw [hwb] at sq sb
    rw [hwb]
    have Sx : wb.cell? ⟨wr.heap.size, 0, none⟩ = some (.int .i64 x) := by rw [cell_of_row _ _ _ _ _ _ sq]; rfl
    have Sy : wb.cell? ⟨wr.heap.size, 1, none⟩ = some (.int .i64 y) := by rw [cell_of_row _ _ _ _ _ _ sq]; rfl
    have Ob := Lib.hid (O.out.below sb); have Bb := Lib.hid (over BR.out sb)
    have SX := Lib.hid Sx; have SY := Lib.hid Sy
    clear hwb sq sb p0 p1
    rcases JA with ⟨e1, e2⟩ | ⟨d, t, e1, e2⟩
    · have E2 := Lib.hid e2
      rw [e1] at Ob
      obtain ⟨va, vc, eu, -⟩ := (Ob.out.v (by simp)).ex
      have eu : u6 = .slice va 0 vc := eu
      subst eu
      clear e1 e2
      go_upto_region 8 with fail
      go_quiet (fail)
      have O1 := Lib.hid (Ob.out.below (Qt.below (wr := wb.drewN nq) ⟨nq, rfl⟩)); have B1 := Lib.hid (over Bb.out (Qt.below (wr := wb.drewN nq) ⟨nq, rfl⟩))
      have Sx : (wb.drewN nq).cell? ⟨wr.heap.size, 0, none⟩ = some (.int .i64 x) := SX.out
      have Sy : (wb.drewN nq).cell? ⟨wr.heap.size, 1, none⟩ = some (.int .i64 y) := SY.out
      clear Ob Bb SX SY
      generalize wb.drewN nq = W1 at *
      go_wp2_with (at_builtin; refine wpList_pushD rfl _ _ rfl w4 W1 _ [] x y rfl rfl rfl O1.out B1.out (by simp) ?_; intro v6 W3 hO3 hB3 _; have O3 := Lib.hid hO3; have B3 := Lib.hid hB3; clear hO3 hB3)
      go_roundw
      case rel => exact ⟨k + 1, by omega, by go_num, by rw [E2.out]; exact O3.out, B3.out⟩
      simp [intOf]; omega
    · have E2 := Lib.hid e2
      rw [e1] at Ob
      have tb : t.2 ≤ 16384 := JB.out t (by rw [e1]; simp)
      obtain ⟨gg, q, vcap, hi⟩ := Ob.out.hi
      have HI := Lib.hid hi
      have hi1 := hi.eq
      subst hi1
      have QL : q + 1 ≤ k := by have := JL.out; rw [e1, List.length_append, List.length_singleton, hi.len] at this; exact this
      have DL : Hid ((d ++ [t]).length ≤ 50000) := Lib.hid (by rw [List.length_append, List.length_singleton, hi.len]; omega)
      have hq0 : (0 : Int) < (q : Int) + 1 := by omega
      have TL : -16384 ≤ t.2 := JW.out t (by rw [e1]; simp)
      have hqq : (q : Int) < (q : Int) + 1 := by omega
      have wm : IntKind.i64.wrap (q : Int) = (q : Int) := wrap_in (by omega) (by omega)
      obtain ⟨z, hz⟩ : ∃ z, t.2 = z := ⟨_, rfl⟩
      have hi2 := hi.cell
      rw [hz] at hi2 TL tb E2
      have HZ := Lib.hid hz
      have wz : IntKind.i64.wrap (z + 1) = z + 1 := wrap_in (by omega) (by omega)
      clear hi e1 e2 hz
      by_cases hj : x ≤ z + 1
      · have hj2 : decide (x ≤ z + 1) = true := decide_eq_true hj
        have E3 : Hid (jnF (l.take (k + 1)) = d ++ [(t.1, max z y)]) := Lib.hid (by rw [E2.out, if_pos hj])
        clear hj E2
        go_upto_region 8 with fail
        refine Rg.s0 13 [] fun WD DW => ?_
        refine Rg.t 0 ?_
        refine Rg.t 1 ?_
        refine Rg.t 2 ?_
        refine Rg.t 3 ?_
        refine Rg.t 4 ?_
        refine Rg.t 5 ?_
        refine Rg.t 6 ?_
        refine Rg.t 7 ?_
        refine Rg.t 8 ?_
        refine Rg.t 9 ?_
        refine Rg.t 10 ?_
        refine Rg.t 11 ?_
        refine Rg.t 12 ?_
        refine Rg.l1 ?_
        go_simp
        have Bd := Lib.hid (over Bb.out DW); have Od := Lib.hid (Ob.out.below DW)
        have HId := Lib.hid (HI.out.qt Ob.out DW)
        have Sx := cell_later DW (Nat.le_refl _) SX.out
        have Sy := cell_later DW (Nat.le_refl _) SY.out
        have hi2 := HId.out.cell
        have hi3 := HId.out.fr
        rw [HZ.out] at hi2
        have GW := Lib.hid (Nat.le_trans HId.out.ge (Nat.le_refl gg))
        clear Bb Ob HI SX SY DW
        go_upto_region 9 with fail
        refine Rg.s0 14 [] fun WE DE => ?_
        refine Rg.t 0 ?_
        refine Rg.t 1 ?_
        refine Rg.t 2 ?_
        refine Rg.t 3 ?_
        refine Rg.t 4 ?_
        refine Rg.t 5 ?_
        refine Rg.t 6 ?_
        refine Rg.t 7 ?_
        refine Rg.t 8 ?_
        refine Rg.t 9 ?_
        refine Rg.t 10 ?_
        refine Rg.t 11 ?_
        refine Rg.t 12 ?_
        refine Rg.t 13 ?_
        refine Rg.l1 ?_
        have hi4 := (HId.out.qt Od.out DE).cell
        have hi5 := (HId.out.qt Od.out DE).fr
        have HIe := Lib.hid (HId.out.qt Od.out DE)
        have Be := Lib.hid (over Bd.out DE)
        rw [HZ.out] at hi4
        clear hi2 hi3 Sx Sy
        go_simp
        go_wp2_with fail
        go_roundw
        case rel => exact ⟨k + 1, by omega, by go_num, by rw [E3.out]; exact HIe.out.set (max z y), below_row Be.out (HIe.out.grow (max z y)) GW.out Be.out.size⟩
        simp [intOf]; omega
      · have hj' : z + 1 < x := by omega
        have hj2 : decide (x ≤ z + 1) = false := decide_eq_false hj
        have E3 : Hid (jnF (l.take (k + 1)) = d ++ [t] ++ [(x, y)]) := Lib.hid (by rw [E2.out, if_neg hj])
        clear hj E2
        go_upto_region 8 with fail
        refine Rg.s0 13 [] fun WD DW => ?_
        refine Rg.t 0 ?_
        refine Rg.t 1 ?_
        refine Rg.t 2 ?_
        refine Rg.t 3 ?_
        refine Rg.t 4 ?_
        refine Rg.t 5 ?_
        refine Rg.t 6 ?_
        refine Rg.t 7 ?_
        refine Rg.t 8 ?_
        refine Rg.t 9 ?_
        refine Rg.t 10 ?_
        refine Rg.t 11 ?_
        refine Rg.t 12 ?_
        refine Rg.l1 ?_
        go_simp
        have B1 := Lib.hid (over Bb.out DW); have O1 := Lib.hid (Ob.out.below DW)
        have Sx := cell_later DW (Nat.le_refl _) SX.out
        have Sy := cell_later DW (Nat.le_refl _) SY.out
        clear Ob Bb SX SY HI hi2
        clear DW
        go_wp2_with (at_builtin; refine wpList_pushD rfl _ _ rfl w4 WD _ (d ++ [t]) x y rfl rfl rfl O1.out B1.out (by have := DL.out; omega) ?_; intro v6 W3 hO3 hB3 _; have O3 := Lib.hid hO3; have B3 := Lib.hid hB3; clear hO3 hB3)
        go_roundw
        case rel => exact ⟨k + 1, by omega, by go_num, by rw [E3.out]; exact O3.out, B3.out⟩
        simp [intOf]; omega
  · obtain rfl : N = k := by omega
    have E : Hid (l.take N = l) := Lib.hid (List.take_of_length_le (by rw [SL.out.len]; exact Nat.le_refl _))
    have JL := Lib.hid (jn_len l)
    have BF := Lib.hid (over B4.out BR.out)
    go_wp2_with fail
    go_ret
    exact ⟨_, rfl, by rw [← EQ.out, ← E.out]; exact O.out.v (by rw [E.out]; have := JL.out; rw [SL.out.len] at this; omega), BF.out⟩
end Go.Proofs.YteiohgiecpibhaaGreat
