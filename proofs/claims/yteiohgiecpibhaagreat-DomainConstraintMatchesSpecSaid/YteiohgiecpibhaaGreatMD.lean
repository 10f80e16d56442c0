/- minus, Equal, Clone of domains. -/
import Derived.Test.YteiohgiecpibhaaGreatMC
set_option linter.unusedVariables false
set_option linter.unusedSimpArgs false
set_option maxRecDepth 100000
set_option maxHeartbeats 4000000
namespace Go.Proofs.YteiohgiecpibhaaGreat
open Go.RowKit Fdm

theorem backK_le (b : Dm) (low : Int) : ∀ k, backK b low k ≤ k
  | 0 => Nat.le_refl _
  | k + 1 => by
    unfold backK
    split
    · exact Nat.le_succ_of_le (backK_le b low k)
    · exact Nat.le_refl _
def MiL (w : World) (a b : Dm) (v5 v6 v12 : Value) (wr : World) : Prop :=
  ∃ (i k : Nat) (out : Dm), i ≤ a.length ∧ k ≤ b.length ∧ v12 = .int .i64 (i : Int) ∧ v6 = .int .i64 (k : Int) ∧ lessTo a b i = (out, k) ∧ out.length ≤ i * (b.length + 1) ∧ DmO wr w.heap.size v5 out ∧ Below w.heap.size w wr
structure MiB (w : World) (b : Dm) (x y : Int) (g8 T : Nat) (R : Dm × Int × Nat) (v5 v6 v9 : Value) (wr : World) : Prop where
  ex : ∃ (k : Nat) (low : Int) (out : Dm), k ≤ b.length ∧ v6 = .int .i64 (k : Int) ∧ v9 = .int .i64 low ∧ cutF b y k low out = R ∧ out.length ≤ T + k ∧ DmO wr w.heap.size v5 out
  bel : Below w.heap.size w wr
  ne : v5.ownBlock ≠ some g8
  nb : wr.heap[g8]? = some (.cells #[.int .i64 x, .int .i64 y] 63 (0, 0))
theorem DmO.lt {w : World} {base : Nat} {v : Value} {d : Dm} (h : DmO w base v d) {g : Nat} (hg : v.ownBlock = some g) : g < w.heap.size := (h.own.lt g hg).2
theorem minus_any {w : World} {a b : Dm} {aa ab : Option Addr} {n c m e : Nat} (ha : DmS w a aa n c) (hb : DmS w b ab m e) (okb : Ok b) (hn : n ≤ 100000) (hm : m ≤ 100000) :
    Calls Tryz.prog 49 #[.slice aa n c, .slice ab m e] w (DmPost w (minusF a b)) := by
  have HA := Lib.hid ha; have HB := Lib.hid hb; have OB := Lib.hid okb
  have NA := Lib.hid ha.len; have NB := Lib.hid hb.len
  have c1 := ha.cap; have c2 := ha.le; have e1 := hb.cap; have e2 := hb.le
  clear ha hb okb
  go_enter Tryz.func49, Tryz.ntmps49
  go_wp2_with fail
  go_loopw [5, 6, 12] (fun v5 v6 v12 wr => MiL w a b v5 v6 v12 wr) (fun _ _ v12 _ => n - (intOf v12).toNat)
  case atStart => exact ⟨0, 0, [], Nat.zero_le _, Nat.zero_le _, rfl, rfl, rfl, Nat.zero_le _, DmO.nil _ _, Below.refl _ _⟩
  obtain ⟨i, k, out, hi, hk, rfl, rfl, hq, hl, hO, hBr⟩ := hrel
  have BR := Lib.hid hBr; have O := Lib.hid hO; have Q := Lib.hid hq
  rw [NA.out] at hi
  rw [NB.out] at hk hl
  clear hBr hO hq
  by_cases hlt : i < n
  · obtain ⟨g, o, rfl, dd⟩ := HA.out.read (by omega)
    obtain ⟨p0, p1⟩ := dd i hlt
    clear dd
    obtain ⟨x, hx⟩ : ∃ x, (sp a i).1 = x := ⟨_, rfl⟩
    obtain ⟨y, hy⟩ : ∃ y, (sp a i).2 = y := ⟨_, rfl⟩
    have ST : Hid (lessTo a b (i + 1) = lessS b (x, y) (out, k)) := by show _ = _; rw [← hx, ← hy, ← Q.out]; rfl
    rw [hx] at p0
    rw [hy] at p1
    have p0 := cell_later BR.out (Nat.le_refl _) p0
    have p1 := cell_later BR.out (Nat.le_refl _) p1
    obtain ⟨T, hT⟩ : ∃ T, i * (m + 1) = T := ⟨_, rfl⟩
    have TN : Hid ((i + 1) * (m + 1) = T + m + 1) := by show _ = _; rw [Nat.succ_mul, hT]; omega
    have TB : T ≤ 10000100000 := by rw [← hT]; exact Nat.le_trans (Nat.mul_le_mul (show i ≤ 100000 by omega) (show m + 1 ≤ 100001 by omega)) (by decide)
    rw [hT] at hl
    have B1 : Hid (Below w.heap.size w (wr.alloc (.cells #[.int .i64 x, .int .i64 y] 63))) := over BR.out (below_new _ _)
    have O1 : Hid (DmO (wr.alloc (.cells #[.int .i64 x, .int .i64 y] 63)) w.heap.size u5 out) := O.out.below (below_new _ _)
    have N1 : Hid ((wr.alloc (.cells #[.int .i64 x, .int .i64 y] 63)).heap[wr.heap.size]? = some (.cells #[.int .i64 x, .int .i64 y] 63 (0, 0))) := heap_alloc_new wr _
    have NE : Hid (u5.ownBlock ≠ some wr.heap.size) := fun e => by have := O.out.lt e; omega
    clear hx hy hT
    go_upto_region 6 with fail
    clear p0 p1
    generalize wr.alloc (.cells #[.int .i64 x, .int .i64 y] 63) = W1 at *
    obtain ⟨g8, hg8⟩ : ∃ g8, wr.heap.size = g8 := ⟨_, rfl⟩
    rw [hg8] at N1 NE ⊢
    have n0 : W1.cell? ⟨g8, 0, none⟩ = some (.int .i64 x) := by rw [cell_of_row W1 g8 0 _ _ _ N1.out]; rfl
    clear O BR hg8
    go_wp2_with fail
    go_loopw [6] (fun v6 wr => ∃ k' : Nat, k' ≤ k ∧ v6 = .int .i64 (k' : Int) ∧ backK b x k' = backK b x k ∧ wr = W1) (fun v6 _ => (intOf v6).toNat)
    case atStart => exact ⟨k, Nat.le_refl _, rfl, rfl, rfl⟩
    · obtain ⟨k', hk', rfl, hbk, rfl⟩ := hrel
      have BK := Lib.hid hbk
      clear hbk
      go_upto_region 7 with fail
      go_cut [29] (fun v W => ∃ t : Bool, v = .bool t ∧ W = wr ∧ (t = true → 0 < k' ∧ x ≤ (sp b (k' - 1)).2) ∧ (t = false → backK b x k' = k'))
      case first =>
        by_cases k0 : k' = 0
        · subst k0
          go_wp2_with fail
          go_meet
          case rel => exact ⟨false, rfl, rfl, (fun q => by cases q), fun _ => rfl⟩
        · obtain ⟨g', o', rfl, dd⟩ := HB.out.read (by omega)
          have q1 := (dd (k' - 1) (by omega)).2
          clear dd
          have q1 := cell_later B1.out (Nat.le_refl _) q1
          have i1 : ((k' : Int) - 1) = ((k' - 1 : Nat) : Int) := by omega
          have kp : (0 : Int) < (k' : Int) := by omega
          have kp2 : 0 < k' := by omega
          have kl : ((k' - 1 : Nat) : Int) < (m : Int) := by omega
          have kl0 : (0 : Int) ≤ ((k' - 1 : Nat) : Int) := by omega
          have US : Hid (backK b x k' = if x ≤ (sp b (k' - 1)).2 then backK b x (k' - 1) else k') := by
            show _ = _
            obtain ⟨r, rfl⟩ : ∃ r, k' = r + 1 := ⟨k' - 1, by omega⟩
            rfl
          obtain ⟨z, hz⟩ : ∃ z, (sp b (k' - 1)).2 = z := ⟨_, rfl⟩
          rw [hz] at q1 US
          have HZ := Lib.hid hz
          clear hz k0
          by_cases xz : x ≤ z
          · have XZ := Lib.hid xz
            go_wp2_with fail
            go_meet
            case rel => exact ⟨true, rfl, rfl, (fun _ => ⟨kp2, by rw [HZ.out]; exact XZ.out⟩), fun q => by cases q⟩
          · have XZ := Lib.hid xz
            have xz' : z < x := by omega
            clear xz
            go_wp2_with fail
            go_meet
            case rel => exact ⟨_, rfl, rfl, (fun q => absurd (of_decide_eq_true q) (by have := XZ.out; omega)), fun _ => US.out.trans (if_neg (by have := XZ.out; omega))⟩
      obtain ⟨t, rfl, rfl, h1, h2⟩ := hcut
      cases t with
      | true =>
        have h1 := h1 rfl
        have H1 := Lib.hid h1.2
        have i1 : ((k' : Int) - 1) = ((k' - 1 : Nat) : Int) := by omega
        have kp : 0 < k' := h1.1
        clear h1 h2
        have US : Hid (backK b x (k' - 1) = backK b x k') := by
          show _ = _
          obtain ⟨r, rfl⟩ : ∃ r, k' = r + 1 := ⟨k' - 1, by omega⟩
          have := H1.out
          rw [Nat.add_sub_cancel] at this ⊢
          show _ = if _ then _ else _
          rw [if_pos this]
        go_wp2_with fail
        go_roundw
        case rel => exact ⟨k' - 1, by omega, rfl, by rw [US.out, BK.out], trivial⟩
        simp [intOf]; omega
      | false =>
        have K1 : Hid (backK b x k = k') := by show _ = _; rw [← BK.out]; exact h2 rfl
        clear h1 h2 BK
        obtain ⟨W1, rfl⟩ : ∃ W1 : World, W1 = wc := ⟨_, rfl⟩
        have TS : Hid (lessTo a b (i + 1) = (if (cutF b y k' x out).2.1 ≤ y then (cutF b y k' x out).1 ++ [((cutF b y k' x out).2.1, y)] else (cutF b y k' x out).1, (cutF b y k' x out).2.2)) := by
          show _ = _
          rw [ST.out]
          unfold lessS
          simp only [K1.out]
        clear ST K1
        obtain ⟨R, hR⟩ : ∃ R, cutF b y k' x out = R := ⟨_, rfl⟩
        rw [hR] at TS
        have RR := Lib.hid hR
        clear hR
        go_wp2_with fail
        go_loopw [5, 6, 9] (fun v5 v6 v9 wr => MiB w b x y g8 T R v5 v6 v9 wr) (fun _ v6 _ _ => m - (intOf v6).toNat)
        case atStart =>
          exact ⟨⟨k', x, out, by rw [NB.out]; omega, rfl, rfl, RR.out, by omega, O1.out⟩, B1.out, NE.out, N1.out⟩
        · obtain ⟨⟨k2, low, out2, hk2, rfl, rfl, hcu, hl2, hO2⟩, hB2, hne2, hnb2⟩ := hrel
          have CU := Lib.hid hcu; have O2 := Lib.hid hO2; have B2 := Lib.hid hB2; have NE2 := Lib.hid hne2; have N2 := Lib.hid hnb2
          rw [NB.out] at hk2
          clear hcu hO2 hB2 hne2 hnb2
          have n1 : wr.cell? ⟨g8, 1, none⟩ = some (.int .i64 y) := by rw [cell_of_row wr g8 1 _ _ _ N2.out]; rfl
          have G8 : Hid (g8 < wr.heap.size) := (Array.getElem?_eq_some_iff.1 N2.out).1
          go_upto_region 9 with fail
          go_cut [45] (fun v W => ∃ t : Bool, v = .bool t ∧ Qt wr W ∧ (t = true → k2 < m ∧ (sp b k2).1 ≤ y) ∧ (t = false → ¬ (k2 < m ∧ (sp b k2).1 ≤ y)))
          case first =>
            by_cases km : k2 < m
            · obtain ⟨g', o', rfl, dd⟩ := HB.out.read (by omega)
              have q0 := (dd k2 km).1
              clear dd
              have q0 := cell_later B2.out (Nat.le_refl _) q0
              have km' : decide (k2 < m) = true := by simp [km]
              obtain ⟨z, hz⟩ : ∃ z, (sp b k2).1 = z := ⟨_, rfl⟩
              rw [hz] at q0
              have HZ := Lib.hid hz
              clear hz
              go_quiet (fail)
              go_wp2_with fail
              go_meet
              case rel => exact ⟨_, rfl, ⟨nq, rfl⟩, (fun q => ⟨km, by rw [HZ.out]; exact of_decide_eq_true q⟩), fun q r => by rw [HZ.out] at r; exact absurd r.2 (of_decide_eq_false q)⟩
            · have km' : decide (k2 < m) = false := by simp; omega
              go_quiet (fail)
              go_wp2_with fail
              go_meet
              case rel => exact ⟨_, rfl, ⟨nq, rfl⟩, (fun q => by cases q), fun _ r => km r.1⟩
          obtain ⟨t, rfl, hq9, h1, h2⟩ := hcut
          have O3 := Lib.hid (O2.out.below hq9.below); have B3 := Lib.hid (over B2.out hq9.below)
          have N3 : Hid (wc.heap[g8]? = some (.cells #[.int .i64 x, .int .i64 y] 63 (0, 0))) := (hq9.same g8).trans N2.out
          have G3 : Hid (g8 < wc.heap.size) := (Array.getElem?_eq_some_iff.1 N3.out).1
          clear hq9 n1 O2 B2 N2 G8
          obtain ⟨W3, rfl⟩ : ∃ W3 : World, W3 = wc := ⟨_, rfl⟩
          cases t with
          | true =>
            obtain ⟨km, zy⟩ := h1 rfl
            have ZY := Lib.hid zy
            have okk := spanF_zero (OB.out k2 (by rw [NB.out]; exact km))
            clear h1 h2 zy
            have CS := Lib.hid (cutF_step (b := b) (high := y) (k := k2) (low := low) (out := out2) (by rw [NB.out]; exact km) ZY.out)
            obtain ⟨g', o', rfl, dd⟩ := HB.out.read (by omega)
            obtain ⟨q0, q1⟩ := dd k2 km
            clear dd
            have Q0 := Lib.hid q0; have Q1 := Lib.hid q1
            have q0 := cell_later B3.out (Nat.le_refl _) q0
            have q1 := cell_later B3.out (Nat.le_refl _) q1
            obtain ⟨z, hz⟩ : ∃ z, (sp b k2).1 = z := ⟨_, rfl⟩
            obtain ⟨z', hz'⟩ : ∃ z', (sp b k2).2 = z' := ⟨_, rfl⟩
            rw [hz] at q0 CS Q0 okk
            rw [hz'] at q1 CS Q1 okk
            have a1 : -16384 ≤ z := okk.1
            have a2 : z' ≤ 16384 := okk.2.1
            have a3 : z ≤ z' := okk.2.2.1
            rw [CU.out] at CS
            clear hz hz' okk ZY CU
            by_cases c1 : z' < low
            · have C1 : Hid (cutF b y (k2 + 1) low out2 = R) := by show _ = _; rw [CS.out, if_pos c1]
              go_wp2_with fail
              go_roundw
              case rel => exact ⟨⟨k2 + 1, low, out2, by rw [NB.out]; omega, rfl, rfl, C1.out, by omega, O3.out⟩, B3.out, NE2.out, N3.out⟩
              simp [intOf]; omega
            · have c1' : low ≤ z' := by omega
              rw [if_neg c1] at CS
              clear c1
              by_cases c2 : low < z
              · rw [if_pos c2] at CS
                have C2 : Hid (cutF b y (k2 + 1) (z' + 1) (out2 ++ [(low, z - 1)]) = R) := CS.out.symm
                clear CS
                go_upto_region 14 with (at_builtin; refine wpList_pushD rfl _ _ rfl w W3 _ out2 low (z - 1) rfl rfl rfl O3.out B3.out (by omega) ?_; intro v5 W4 hO4 hB4 hP4; have O4 := Lib.hid hO4; have B4 := Lib.hid hB4; have P4 := Lib.hid hP4; clear hO4 hB4 hP4)
                have q1 := cell_later B4.out (Nat.le_refl _) Q1.out
                have N4 : Hid (W4.heap[g8]? = some (.cells #[.int .i64 x, .int .i64 y] 63 (0, 0))) := (P4.out.keep g8 G3.out NE2.out).trans N3.out
                have NE4 := Lib.hid (P4.out.not G3.out NE2.out)
                go_wp2_with fail
                go_roundw
                case rel => exact ⟨⟨k2 + 1, z' + 1, _, by rw [NB.out]; omega, rfl, rfl, C2.out, by simp; omega, O4.out⟩, B4.out, NE4.out, N4.out⟩
                simp [intOf]; omega
              · have c2' : z ≤ low := by omega
                rw [if_neg c2] at CS
                have C2 : Hid (cutF b y (k2 + 1) (z' + 1) out2 = R) := CS.out.symm
                clear CS c2
                go_wp2_with fail
                go_roundw
                case rel => exact ⟨⟨k2 + 1, z' + 1, out2, by rw [NB.out]; omega, rfl, rfl, C2.out, by omega, O3.out⟩, B3.out, NE2.out, N3.out⟩
                simp [intOf]; omega
          | false =>
            have he := h2 rfl
            clear h1 h2
            rw [cutF_end (by rw [NB.out]; exact he)] at CU
            rw [← CU.out] at TS
            clear he CU
            have n1 : W3.cell? ⟨g8, 1, none⟩ = some (.int .i64 y) := by rw [cell_of_row W3 g8 1 _ _ _ N3.out]; rfl
            by_cases c3 : low ≤ y
            · have T3 : Hid (lessTo a b (i + 1) = (out2 ++ [(low, y)], k2)) := by show _ = _; rw [TS.out]; simp only [if_pos c3]
              clear TS
              go_wp2_with (at_builtin; refine wpList_pushD rfl _ _ rfl w W3 _ out2 low y rfl rfl rfl O3.out B3.out (by omega) ?_; intro v5 W4 hO4 hB4 _; have O4 := Lib.hid hO4; have B4 := Lib.hid hB4; clear hO4 hB4)
              go_roundw
              case rel => exact ⟨i + 1, k2, _, by rw [NA.out]; omega, by rw [NB.out]; omega, by go_num, rfl, T3.out, by rw [NB.out, TN.out]; simp; omega, O4.out, B4.out⟩
              simp [intOf]; omega
            · have T3 : Hid (lessTo a b (i + 1) = (out2, k2)) := by show _ = _; rw [TS.out]; simp only [if_neg c3]
              have c3' : y < low := by omega
              clear TS c3
              go_wp2_with fail
              go_roundw
              case rel => exact ⟨i + 1, k2, out2, by rw [NA.out]; omega, by rw [NB.out]; omega, by go_num, rfl, T3.out, by rw [NB.out, TN.out]; omega, O3.out, B3.out⟩
              simp [intOf]; omega
  · obtain rfl : n = i := by omega
    have E : Hid (minusF a b = out) := by show _ = _; unfold minusF; rw [NA.out, Q.out]
    have LL : Hid (out.length ≤ 8000000000000) := Nat.le_trans hl (Nat.le_trans (Nat.mul_le_mul hn (show m + 1 ≤ 100001 by omega)) (by decide))
    go_wp2_with fail
    go_ret
    exact ⟨_, rfl, by rw [E.out]; exact O.out.v LL.out, BR.out⟩
end Go.Proofs.YteiohgiecpibhaaGreat
set_option linter.unusedVariables false
set_option linter.unusedSimpArgs false
set_option maxRecDepth 100000
set_option maxHeartbeats 4000000
namespace Go.Proofs.YteiohgiecpibhaaGreat
open Go.RowKit Fdm

@[go_sem] theorem eqg63 : Tryz.prog.eqGuardType Tryz.prog.depth 63 = false := by kernel_rfl
theorem sp_ext {a b : Dm} (h : a.length = b.length) (k : ∀ i, i < a.length → sp a i = sp b i) : a = b := by
  refine List.ext_getElem h fun i h1 h2 => ?_
  have := k i h1
  unfold sp at this
  rw [List.getD_eq_getElem?_getD, List.getD_eq_getElem?_getD, List.getElem?_eq_getElem h1, List.getElem?_eq_getElem h2] at this
  exact this
def EqL (w : World) (a b : Dm) (v13 : Value) (wr : World) : Prop := ∃ k : Nat, k ≤ a.length ∧ v13 = .int .i64 (k : Int) ∧ (∀ i, i < k → sp a i = sp b i) ∧ Qt w wr
theorem equal_any {w : World} {a b : Dm} {aa ab : Option Addr} {n c m e : Nat} (ha : DmS w a aa n c) (hb : DmS w b ab m e) : Calls Tryz.prog 111 #[.slice aa n c, .slice ab m e] w fun e w' => e = .returned (.bool (decide (a = b))) ∧ Qt w w' := by
  by_cases hnm : n = m
  · subst hnm
    have HA := Lib.hid ha; have HB := Lib.hid hb
    have NA := Lib.hid ha.len; have NB := Lib.hid hb.len
    have c1 := ha.cap; have c2 := ha.le; have e1 := hb.cap; have e2 := hb.le
    clear ha hb
    have nn : ((n : Int) != (n : Int)) = false := by simp
    go_enter Tryz.func111, Tryz.ntmps111
    go_wp2_with fail
    go_loopw [13] (fun v13 wr => EqL w a b v13 wr) (fun v13 _ => n - (intOf v13).toNat)
    case atStart => exact ⟨0, Nat.zero_le _, rfl, fun i hi => absurd hi (Nat.not_lt_zero _), Qt.refl _⟩
    obtain ⟨k, hk, rfl, hf, hQ⟩ := hrel
    have F := Lib.hid hf; have Q := Lib.hid hQ
    rw [NA.out] at hk
    clear hf hQ
    by_cases hlt : k < n
    · obtain ⟨g, o, rfl, dd⟩ := HA.out.read (by omega)
      obtain ⟨p0, p1⟩ := dd k hlt
      clear dd
      obtain ⟨g', o', rfl, dd⟩ := HB.out.read (by omega)
      obtain ⟨q0, q1⟩ := dd k hlt
      clear dd
      obtain ⟨x, hx⟩ : ∃ x, (sp a k).1 = x := ⟨_, rfl⟩
      obtain ⟨y, hy⟩ : ∃ y, (sp a k).2 = y := ⟨_, rfl⟩
      obtain ⟨x', hx'⟩ : ∃ x', (sp b k).1 = x' := ⟨_, rfl⟩
      obtain ⟨y', hy'⟩ : ∃ y', (sp b k).2 = y' := ⟨_, rfl⟩
      have SE : Hid (sp a k = sp b k ↔ x = x' ∧ y = y') := by show _ ↔ _; rw [Prod.ext_iff, hx, hy, hx', hy']
      rw [hx] at p0
      rw [hy] at p1
      rw [hx'] at q0
      rw [hy'] at q1
      have p0 := Q.out.cell p0
      have p1 := Q.out.cell p1
      have q0 := Q.out.cell q0
      have q1 := Q.out.cell q1
      clear hx hy hx' hy'
      by_cases s : x = x' ∧ y = y'
      · obtain ⟨rfl, rfl⟩ := s
        have G : Hid (∀ i, i < k + 1 → sp a i = sp b i) := fun i hi => by
          by_cases e : i = k
          · subst e; exact SE.out.2 ⟨rfl, rfl⟩
          · exact F.out i (by omega)
        go_upto_region 6 with fail
        go_quiet (fail)
        go_wp2_with fail
        go_roundw
        case rel => exact ⟨k + 1, by rw [NA.out]; omega, by go_num, G.out, Q.out.trans ⟨nq, rfl⟩⟩
        simp [intOf]; omega
      · have E : Hid (decide (a = b) = false) := by
          show _ = _
          rw [decide_eq_false_iff_not]
          exact fun e => s (SE.out.1 (by rw [e]))
        have s2 : (x == x' && y == y') = false := by
          rw [Bool.and_eq_false_iff]
          by_cases xx : x = x'
          · exact .inr (by simpa using fun q => s ⟨xx, q⟩)
          · exact .inl (by simpa using xx)
        by_cases xx : x = x'
        · subst xx
          have yy : (y == y') = false := by simpa using fun q => s ⟨rfl, q⟩
          have yy2 : y ≠ y' := fun q => s ⟨rfl, q⟩
          clear s s2
          go_upto_region 6 with fail
          go_quiet (fail)
          go_wp2_with fail
          go_ret
          exact ⟨by rw [E.out]; rfl, Q.out.trans ⟨nq, rfl⟩⟩
        · have xx' : (x == x') = false := by simpa using xx
          clear s s2
          go_upto_region 6 with fail
          go_quiet (fail)
          go_wp2_with fail
          go_ret
          exact ⟨by rw [E.out]; rfl, Q.out.trans ⟨nq, rfl⟩⟩
    · obtain rfl : n = k := by omega
      have E : Hid (decide (a = b) = true) := by
        show _ = _
        rw [decide_eq_true_eq]
        exact sp_ext (by rw [NA.out, NB.out]) (by rw [NA.out]; exact F.out)
      go_wp2_with fail
      go_ret
      exact ⟨by rw [E.out]; rfl, Q.out⟩
  · have E : Hid (decide (a = b) = false) := by
      show _ = _
      rw [decide_eq_false_iff_not]
      exact fun e => hnm (by rw [← ha.len, ← hb.len, e])
    have nn : ((n : Int) != (m : Int)) = true := by simp; omega
    clear ha hb hnm
    go_enter Tryz.func111, Tryz.ntmps111
    go_wp2_with fail
    go_ret
    exact ⟨by rw [E.out]; rfl, Qt.refl _⟩
end Go.Proofs.YteiohgiecpibhaaGreat
set_option linter.unusedVariables false
set_option linter.unusedSimpArgs false
set_option maxRecDepth 100000
set_option maxHeartbeats 4000000
namespace Go.Proofs.YteiohgiecpibhaaGreat
open Go.RowKit Fdm

theorem add_at (g o j : Nat) : (⟨g, o, none⟩ : Addr).add j = ⟨g, o + j, none⟩ := by unfold Addr.add; split <;> simp_all
theorem info23 : (Tryz.prog.info? 23).map (fun i => (i.zero, i.size, i.bytes)) = some (some (.slice none 0 0), 1, 24) := by kernel_rfl
theorem info3 : (Tryz.prog.info? 3).map (fun i => (i.zero, i.size, i.bytes)) = some (some (.int .i64 0), 1, 8) := by kernel_rfl

/-- slices.Clone: the cells in new memory. -/
theorem clone67 {w : World} {vs : List Value} {a : Option Addr} {n c : Nat} (hv : vs.length = n * 2) (h1 : ∀ u ∈ vs, u.oneCell' = true) (ha : n ≠ 0 → ∃ g o, a = some ⟨g, o, none⟩ ∧ ∀ j u, vs[j]? = some u → w.cell? ⟨g, o + j, none⟩ = some u) (hn : n ≤ 1000000) :
    Calls Tryz.prog 67 #[.slice a n c] w fun e w' => ∃ v', e = .returned v' ∧ OwP (fun _ => True) w' w.heap.size 63 2 v' n vs ∧ Below w.heap.size w w' := by
  obtain ⟨i0, hi0, hz0, hz1, hz2⟩ := info_parts info63
  have VL := Lib.hid hv; have VO := Lib.hid h1
  cases a with
  | none =>
    have n0 : n = 0 := by
      refine Classical.byContradiction fun q => ?_
      obtain ⟨g, o, e, _⟩ := ha q
      simp at e
    subst n0
    have v0 : vs = [] := List.length_eq_zero_iff.1 (by omega)
    clear VL VO hv ha hn h1
    subst v0
    have he := fun (w : World) => Lib.run_eql_slice_nil (P := Tryz.prog) w 23 63 none 0 c 0 0 Tryz.underlying23
    go_enter Tryz.func67, Tryz.ntmps67
    go_wp2_with fail
    go_ret
    exact ⟨_, rfl, OwP.nil _ _ _ _ _, Below.refl _ _⟩
  | some ad =>
    have SRC : Hid (∀ j u, vs[j]? = some u → (w.alloc (.cells #[] 63)).cell? (ad.add j) = some u) := by
      intro j u hu
      have hne : n ≠ 0 := fun q => by
        have : vs = [] := List.length_eq_zero_iff.1 (by rw [hv, q])
        rw [this] at hu; simp at hu
      obtain ⟨g, o, q, k⟩ := ha hne
      simp only [Option.some.injEq] at q
      subst q
      rw [add_at]
      exact cell_later (below_new w _) (Nat.le_refl _) (k j u hu)
    have OW : Hid (OwP (fun _ => True) (w.alloc (.cells #[] 63)) w.heap.size 63 2 (.slice (some ⟨w.heap.size, 0, none⟩) 0 0) 0 []) := ⟨World.ownsRow_made w #[] 0 (Nat.le_refl _) (Nat.zero_le _) (by simp), fun _ _ _ _ _ => trivial⟩
    have B0 : Hid (Below w.heap.size w (w.alloc (.cells #[] 63))) := below_new w _
    have he := fun (w : World) => Lib.run_eql_slice_nil (P := Tryz.prog) w 23 63 (some ad) n c 0 0 Tryz.underlying23
    clear hv ha h1
    go_enter Tryz.func67, Tryz.ntmps67
    go_wp2_with (at_builtin; refine wpList_append_op rfl _ _ 23 rfl w.heap.size 63 i0 (.agg #[.int .i64 0, .int .i64 0]) 2 16 Tryz.underlying23 hi0 hz0 hz1 hz2 rfl (by omega) (fun _ _ => trivial) (.slice (some ⟨w.heap.size, 0, none⟩) 0 0) 0 [] rfl OW.out ad n c vs rfl VL.out SRC.out VO.out (fun _ _ => trivial) (by unfold maxLen; omega) (by omega) B0.out.size ?_; intro v4 w4 hown4 hgrow4 _; have OW4 := Lib.hid hown4; have GR4 := Lib.hid hgrow4; clear hown4 hgrow4)
    go_ret
    have o := OW4.out
    rw [Nat.zero_add, List.nil_append] at o
    exact ⟨_, rfl, o, below_own B0.out OW.out.own B0.out.size GR4.out⟩

/-- slices.Clone: the cells in new memory. -/
theorem clone99 {w : World} {vs : List Value} {a : Option Addr} {n c : Nat} (hv : vs.length = n * 1) (h1 : ∀ u ∈ vs, u.oneCell' = true) (ha : n ≠ 0 → ∃ g o, a = some ⟨g, o, none⟩ ∧ ∀ j u, vs[j]? = some u → w.cell? ⟨g, o + j, none⟩ = some u) (hn : n ≤ 1000000) :
    Calls Tryz.prog 99 #[.slice a n c] w fun e w' => ∃ v', e = .returned v' ∧ OwP (fun _ => True) w' w.heap.size 23 1 v' n vs ∧ Below w.heap.size w w' := by
  obtain ⟨i0, hi0, hz0, hz1, hz2⟩ := info_parts info23
  have VL := Lib.hid hv; have VO := Lib.hid h1
  cases a with
  | none =>
    have n0 : n = 0 := by
      refine Classical.byContradiction fun q => ?_
      obtain ⟨g, o, e, _⟩ := ha q
      simp at e
    subst n0
    have v0 : vs = [] := List.length_eq_zero_iff.1 (by omega)
    clear VL VO hv ha hn h1
    subst v0
    have he := fun (w : World) => Lib.run_eql_slice_nil (P := Tryz.prog) w 28 23 none 0 c 0 0 Tryz.underlying28
    go_enter Tryz.func99, Tryz.ntmps99
    go_wp2_with fail
    go_ret
    exact ⟨_, rfl, OwP.nil _ _ _ _ _, Below.refl _ _⟩
  | some ad =>
    have SRC : Hid (∀ j u, vs[j]? = some u → (w.alloc (.cells #[] 23)).cell? (ad.add j) = some u) := by
      intro j u hu
      have hne : n ≠ 0 := fun q => by
        have : vs = [] := List.length_eq_zero_iff.1 (by rw [hv, q])
        rw [this] at hu; simp at hu
      obtain ⟨g, o, q, k⟩ := ha hne
      simp only [Option.some.injEq] at q
      subst q
      rw [add_at]
      exact cell_later (below_new w _) (Nat.le_refl _) (k j u hu)
    have OW : Hid (OwP (fun _ => True) (w.alloc (.cells #[] 23)) w.heap.size 23 1 (.slice (some ⟨w.heap.size, 0, none⟩) 0 0) 0 []) := ⟨World.ownsRow_made w #[] 0 (Nat.le_refl _) (Nat.zero_le _) (by simp), fun _ _ _ _ _ => trivial⟩
    have B0 : Hid (Below w.heap.size w (w.alloc (.cells #[] 23))) := below_new w _
    have he := fun (w : World) => Lib.run_eql_slice_nil (P := Tryz.prog) w 28 23 (some ad) n c 0 0 Tryz.underlying28
    clear hv ha h1
    go_enter Tryz.func99, Tryz.ntmps99
    go_wp2_with (at_builtin; refine wpList_append_op rfl _ _ 28 rfl w.heap.size 23 i0 (.slice none 0 0) 1 24 Tryz.underlying28 hi0 hz0 hz1 hz2 rfl (by omega) (fun _ _ => trivial) (.slice (some ⟨w.heap.size, 0, none⟩) 0 0) 0 [] rfl OW.out ad n c vs rfl VL.out SRC.out VO.out (fun _ _ => trivial) (by unfold maxLen; omega) (by omega) B0.out.size ?_; intro v4 w4 hown4 hgrow4 _; have OW4 := Lib.hid hown4; have GR4 := Lib.hid hgrow4; clear hown4 hgrow4)
    go_ret
    have o := OW4.out
    rw [Nat.zero_add, List.nil_append] at o
    exact ⟨_, rfl, o, below_own B0.out OW.out.own B0.out.size GR4.out⟩

/-- slices.Clone: the cells in new memory. -/
theorem clone63 {w : World} {vs : List Value} {a : Option Addr} {n c : Nat} (hv : vs.length = n * 1) (h1 : ∀ u ∈ vs, u.oneCell' = true) (ha : n ≠ 0 → ∃ g o, a = some ⟨g, o, none⟩ ∧ ∀ j u, vs[j]? = some u → w.cell? ⟨g, o + j, none⟩ = some u) (hn : n ≤ 1000000) :
    Calls Tryz.prog 63 #[.slice a n c] w fun e w' => ∃ v', e = .returned v' ∧ OwP (fun _ => True) w' w.heap.size 3 1 v' n vs ∧ Below w.heap.size w w' := by
  obtain ⟨i0, hi0, hz0, hz1, hz2⟩ := info_parts info3
  have VL := Lib.hid hv; have VO := Lib.hid h1
  cases a with
  | none =>
    have n0 : n = 0 := by
      refine Classical.byContradiction fun q => ?_
      obtain ⟨g, o, e, _⟩ := ha q
      simp at e
    subst n0
    have v0 : vs = [] := List.length_eq_zero_iff.1 (by omega)
    clear VL VO hv ha hn h1
    subst v0
    have he := fun (w : World) => Lib.run_eql_slice_nil (P := Tryz.prog) w 30 3 none 0 c 0 0 Tryz.underlying30
    go_enter Tryz.func63, Tryz.ntmps63
    go_wp2_with fail
    go_ret
    exact ⟨_, rfl, OwP.nil _ _ _ _ _, Below.refl _ _⟩
  | some ad =>
    have SRC : Hid (∀ j u, vs[j]? = some u → (w.alloc (.cells #[] 3)).cell? (ad.add j) = some u) := by
      intro j u hu
      have hne : n ≠ 0 := fun q => by
        have : vs = [] := List.length_eq_zero_iff.1 (by rw [hv, q])
        rw [this] at hu; simp at hu
      obtain ⟨g, o, q, k⟩ := ha hne
      simp only [Option.some.injEq] at q
      subst q
      rw [add_at]
      exact cell_later (below_new w _) (Nat.le_refl _) (k j u hu)
    have OW : Hid (OwP (fun _ => True) (w.alloc (.cells #[] 3)) w.heap.size 3 1 (.slice (some ⟨w.heap.size, 0, none⟩) 0 0) 0 []) := ⟨World.ownsRow_made w #[] 0 (Nat.le_refl _) (Nat.zero_le _) (by simp), fun _ _ _ _ _ => trivial⟩
    have B0 : Hid (Below w.heap.size w (w.alloc (.cells #[] 3))) := below_new w _
    have he := fun (w : World) => Lib.run_eql_slice_nil (P := Tryz.prog) w 30 3 (some ad) n c 0 0 Tryz.underlying30
    clear hv ha h1
    go_enter Tryz.func63, Tryz.ntmps63
    go_wp2_with (at_builtin; refine wpList_append_op rfl _ _ 30 rfl w.heap.size 3 i0 (.int .i64 0) 1 8 Tryz.underlying30 hi0 hz0 hz1 hz2 rfl (by omega) (fun _ _ => trivial) (.slice (some ⟨w.heap.size, 0, none⟩) 0 0) 0 [] rfl OW.out ad n c vs rfl VL.out SRC.out VO.out (fun _ _ => trivial) (by unfold maxLen; omega) (by omega) B0.out.size ?_; intro v4 w4 hown4 hgrow4 _; have OW4 := Lib.hid hown4; have GR4 := Lib.hid hgrow4; clear hown4 hgrow4)
    go_ret
    have o := OW4.out
    rw [Nat.zero_add, List.nil_append] at o
    exact ⟨_, rfl, o, below_own B0.out OW.out.own B0.out.size GR4.out⟩

theorem spv_get {d : Dm} {j : Nat} {u : Value} (h : (spv d)[j]? = some u) : j / 2 < d.length ∧ (j % 2 = 0 → u = .int .i64 (sp d (j / 2)).1) ∧ (j % 2 = 1 → u = .int .i64 (sp d (j / 2)).2) := by
  have hj : j < (spv d).length := (List.getElem?_eq_some_iff.1 h).1
  rw [spv_len] at hj
  have q := spv_at d (j / 2) (by omega)
  refine ⟨by omega, fun e => ?_, fun e => ?_⟩
  · rw [show j / 2 * 2 = j from by omega, h] at q
    exact Option.some.inj q.1
  · rw [show j / 2 * 2 + 1 = j from by omega, h] at q
    exact Option.some.inj q.2
theorem spv_one (d : Dm) : ∀ u ∈ spv d, u.oneCell' = true := by
  intro u hu
  simp only [spv, List.mem_flatMap] at hu
  obtain ⟨s, _, hu⟩ := hu
  simp at hu
  rcases hu with rfl | rfl <;> rfl
theorem cloneD_any {w : World} {d : Dm} {a : Option Addr} {n c : Nat} (h : DmS w d a n c) (hn : n ≤ 1000000) : Calls Tryz.prog 67 #[.slice a n c] w (DmPost w d) := by
  have hl := h.len
  subst hl
  refine (clone67 (vs := spv d) (spv_len d) (spv_one d) (fun h0 => ?_) hn).mono ?_
  · obtain ⟨g, o, e, k⟩ := h.read (by omega)
    refine ⟨g, o, e, fun j u hu => ?_⟩
    obtain ⟨h1, h2, h3⟩ := spv_get hu
    have := k (j / 2) h1
    by_cases e : j % 2 = 0
    · rw [h2 e]
      have := this.1
      rwa [show o + j / 2 * 2 = o + j from by omega] at this
    · rw [h3 (by omega)]
      have := this.2
      rwa [show o + j / 2 * 2 + 1 = o + j from by omega] at this
  · rintro e w' ⟨v', rfl, o, b⟩
    exact ⟨v', rfl, DmO.v (base := w.heap.size) ⟨o⟩ (by omega), b⟩

/-- A list of domains in memory. -/
def DsA (w : World) (D : List Dm) (a : Option Addr) : Prop := D ≠ [] → ∃ g o, a = some ⟨g, o, none⟩ ∧ ∀ i, i < D.length → ∃ u, w.cell? ⟨g, o + i, none⟩ = some u ∧ DmV w (dm D i) u
structure DsV (w : World) (D : List Dm) (v : Value) : Prop where
  ex : ∃ a c, v = .slice a D.length c ∧ D.length ≤ c ∧ c ≤ 9223372036854775807 ∧ DsA w D a
theorem DsA.below {w w' : World} {D : List Dm} {a : Option Addr} (h : DsA w D a) (hb : Below w.heap.size w w') : DsA w' D a := fun hne => by
  obtain ⟨g, o, e, k⟩ := h hne
  refine ⟨g, o, e, fun i hi => ?_⟩
  obtain ⟨u, p, q⟩ := k i hi
  exact ⟨u, cell_later hb (Nat.le_refl _) p, q.below hb⟩
theorem DsV.below {w w' : World} {D : List Dm} {v : Value} (h : DsV w D v) (hb : Below w.heap.size w w') : DsV w' D v := by
  obtain ⟨a, c, e, h1, h2, h3⟩ := h.ex
  exact ⟨a, c, e, h1, h2, h3.below hb⟩
/-- A list of domains in a block of its own. -/
structure DsG (w : World) (g : Nat) (D : List Dm) : Prop where
  blk : Blk w g 23
  cs : ∀ i, i < D.length → ∃ u, w.cell? ⟨g, i, none⟩ = some u ∧ DmV w (dm D i) u
def DsO (w : World) (base : Nat) (D : List Dm) (v : Value) : Prop := ∃ a c, v = .slice a D.length c ∧ D.length ≤ c ∧ c ≤ 9223372036854775807 ∧ (D ≠ [] → ∃ g, a = some ⟨g, 0, none⟩ ∧ base ≤ g ∧ DsG w g D)
theorem DmV.one {w : World} {d : Dm} {u : Value} (h : DmV w d u) : u.oneCell' = true := by
  obtain ⟨a, c, rfl, _⟩ := h.ex
  rfl
theorem list_of {n : Nat} {p : Nat → Value → Prop} (h : ∀ i, i < n → ∃ u, p i u) : ∃ vs : List Value, vs.length = n ∧ ∀ i, i < n → ∃ u, vs[i]? = some u ∧ p i u := by
  induction n with
  | zero => exact ⟨[], rfl, fun i hi => absurd hi (Nat.not_lt_zero _)⟩
  | succ n ih =>
    obtain ⟨vs, hl, hp⟩ := ih fun i hi => h i (by omega)
    obtain ⟨u, hu⟩ := h n (by omega)
    refine ⟨vs ++ [u], by simp [hl], fun i hi => ?_⟩
    by_cases e : i < n
    · obtain ⟨x, h1, h2⟩ := hp i e
      exact ⟨x, by rw [List.getElem?_append_left (by omega)]; exact h1, h2⟩
    · obtain rfl : i = n := by omega
      exact ⟨u, by rw [List.getElem?_append_right (by omega), hl, Nat.sub_self]; rfl, hu⟩
theorem cloneDs_any {w : World} {D : List Dm} {a : Option Addr} {n c : Nat} (h : DsA w D a) (hl : D.length = n) (hn : n ≤ 1000) :
    Calls Tryz.prog 99 #[.slice a n c] w fun e w' => ∃ v', e = .returned v' ∧ DsO w' w.heap.size D v' ∧ Below w.heap.size w w' := by
  subst hl
  have X : ∃ vs : List Value, vs.length = D.length ∧ (∀ i, i < D.length → ∃ u, vs[i]? = some u ∧ DmV w (dm D i) u) ∧ (D.length ≠ 0 → ∃ g o, a = some ⟨g, o, none⟩ ∧ ∀ j u, vs[j]? = some u → w.cell? ⟨g, o + j, none⟩ = some u) := by
    by_cases h0 : D = []
    · subst h0
      exact ⟨[], rfl, fun i hi => absurd hi (Nat.not_lt_zero _), fun q => absurd rfl q⟩
    · obtain ⟨g, o, e, k⟩ := h h0
      obtain ⟨vs, hl, hp⟩ := list_of k
      refine ⟨vs, hl, fun i hi => ?_, fun _ => ⟨g, o, e, fun j u hu => ?_⟩⟩
      · obtain ⟨u, h1, h2, h3⟩ := hp i hi
        exact ⟨u, h1, h3⟩
      · obtain ⟨x, h1, h2, _⟩ := hp j (by rw [← hl]; exact (List.getElem?_eq_some_iff.1 hu).1)
        rw [h1] at hu
        rw [← Option.some.inj hu]; exact h2
  obtain ⟨vs, hv, hp, hc⟩ := X
  refine (clone99 (vs := vs) (by rw [hv, Nat.mul_one]) (fun u hu => ?_) hc (by omega)).mono ?_
  · obtain ⟨j, hj, rfl⟩ := List.getElem_of_mem hu
    obtain ⟨x, h1, h2⟩ := hp j (by omega)
    rw [List.getElem?_eq_getElem hj] at h1
    rw [Option.some.inj h1]; exact h2.one
  · rintro e w' ⟨v', rfl, ow, b⟩
    refine ⟨v', rfl, ?_, b⟩
    rcases ow.own.2 with ⟨rfl, h0⟩ | ⟨g, cap, cur, rfl, hb, hg, hnc, hcm, hcs, htake⟩
    · have : D = [] := List.length_eq_zero_iff.1 h0
      subst this
      exact ⟨none, 0, rfl, Nat.le_refl _, by omega, fun q => absurd rfl q⟩
    · refine ⟨_, cap, rfl, hnc, by unfold maxLen at hcm; omega, fun _ => ⟨g, rfl, hb, ⟨_, hg⟩, fun i hi => ?_⟩⟩
      obtain ⟨u, h1, h2⟩ := hp i hi
      have := ow.own.cellAt (g := g) (j := i) (by omega)
      exact ⟨u, this.trans h1, h2.below b⟩
theorem clipDs_any {w : World} {a : Option Addr} {n c : Nat} (h : n ≤ c) (hc : c ≤ 9223372036854775807) : Calls Tryz.prog 68 #[.slice a n c] w fun e w' => e = .returned (.slice a n n) ∧ w' = w := by
  go_enter Tryz.func68, Tryz.ntmps68
  go_wp2_with fail
  go_ret
  exact ⟨rfl, rfl⟩
theorem clipPs_any {w : World} {a : Option Addr} {n c : Nat} (h : n ≤ c) (hc : c ≤ 9223372036854775807) : Calls Tryz.prog 100 #[.slice a n c] w fun e w' => e = .returned (.slice a n n) ∧ w' = w := by
  go_enter Tryz.func100, Tryz.ntmps100
  go_wp2_with fail
  go_ret
  exact ⟨rfl, rfl⟩
end Go.Proofs.YteiohgiecpibhaaGreat
