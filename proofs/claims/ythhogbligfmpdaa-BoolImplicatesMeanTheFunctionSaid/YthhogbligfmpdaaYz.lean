/- The reference's trueAt and prime. -/
import Derived.Test.YthhogbligfmpdaaYy
import Derived.Test.YthhogbligfmpdaaYv
import Derived.Test.YthhogbligfmpdaaXx
set_option linter.unusedVariables false
set_option linter.unusedSimpArgs false
namespace Go.Proofs.Ythhogbligfmpdaa
open Go.RowKit Bd

def nI (x : Nat) : Value := .int .i64 ((x : Nat) : Int)

def TaL (T : List Bool) (vs : List Int) (N : Nat) (w : World) (ov kv : Value) (wr : World) : Prop :=
  ∃ (k : Nat) (la : Option Addr) (lc m : Nat), k ≤ N ∧ m ≤ k ∧ kv = .int .i64 k ∧ ov = .slice la m lc ∧ wr.ownsRow w.heap.size 3 1 ov m ((tru T vs k).map nI) ∧ Below w.heap.size w wr
def TbL (vs : List Int) (k n : Nat) (w : World) (xv iv : Value) (wr : World) : Prop :=
  ∃ i : Nat, i ≤ n ∧ xv = .int .i64 (xk k vs i : Nat) ∧ iv = .int .i64 i ∧ Qt w wr

theorem xk_step (k y i v : Nat) (hk : k < 65536) (hy : y < 65536) (hv : v < 16) : bits .or .i64 (y : Int) (wrap64 (bits .and .i64 ((k : Int) / 2 ^ i) 1 * 2 ^ (15 - v))) = ((y ||| ((k.testBit i).toNat * 2 ^ (15 - v)) : Nat) : Int) := by
  have h1 : 2 ^ (15 - v) ≤ 2 ^ 15 := Nat.pow_le_pow_right (by omega) (by omega)
  have h2 : (2 : Nat) ^ 15 = 32768 := by decide
  have h3 : (k.testBit i).toNat * 2 ^ (15 - v) ≤ 32768 := by cases k.testBit i <;> simp <;> omega
  rw [bit_of k i hk]
  have e : (((k.testBit i).toNat : Nat) : Int) * 2 ^ (15 - v) = (((k.testBit i).toNat * 2 ^ (15 - v) : Nat) : Int) := by simp
  rw [e, IntWalk.wrap64_in _ (by omega)]
  exact bits_or_i64_nat _ _ (by omega) (by omega)

set_option maxRecDepth 100000 in
set_option maxHeartbeats 1000000 in
theorem trueAt_any {w : World} {T : List Bool} {vs : List Int} {va : Option Addr} {g z c nv vc : Nat} (ht : ∀ j, j < z → w.cell? ⟨g, j, none⟩ = some (.bool (fnT T j))) (hz1 : 65536 ≤ z) (hz2 : z ≤ 65536) (hv : IAt w vs va) (hnv : vs.length = nv) (h8 : nv ≤ 8) (hvs : Vs vs) :
    Calls Try.prog 77 #[.slice (some ⟨g, 0, none⟩) z c, .slice va nv vc] w (IePost w ((tru T vs (2 ^ nv)).map Int.ofNat)) := by
  have HT := Lib.hid ht; clear ht
  have HV := Lib.hid hv; clear hv
  have HNV := Lib.hid hnv; clear hnv
  have VS := Lib.hid hvs; clear hvs
  obtain ⟨i0, hi0, hy0, hy1, hy2⟩ := info_parts info3
  obtain ⟨N, hN⟩ : ∃ N, 2 ^ nv = N := ⟨_, rfl⟩
  have hN6 : N ≤ 65536 := by rw [← hN, ← two16]; exact pow_mono (by omega)
  have WN := Lib.hid (one_wrap hN hN6)
  have HN := Lib.hid hN; clear hN
  go_enter Try.func77, Try.ntmps77
  go_wp2_with fail
  go_loopw [5, 6] (fun ov kv wr => TaL T vs N w ov kv wr) (fun _ kv _ => N - (intOf kv).toNat)
  case atStart => exact ⟨0, none, 0, 0, by omega, by omega, rfl, rfl, ⟨by simp [tru], Or.inl ⟨rfl, rfl⟩⟩, Below.refl _ _⟩
  case round =>
    obtain ⟨k, la, lc, m, hk, hm, rfl, rfl, row, bl⟩ := hrel
    have RW := Lib.hid row; clear row
    have BL := Lib.hid bl
    have bls : w.heap.size ≤ wr.heap.size := bl.size
    clear bl
    by_cases hkN : k < N
    · have kN : (k : Int) < (N : Int) := by omega
      have k6 : k < 65536 := by omega
      have wn1 := WN.out.1
      have wn2 := WN.out.2
      go_upto_region 5 with fail
      clear wn1 wn2
      go_wp2_with fail
      obtain ⟨wo, rfl⟩ : ∃ wo : World, wo = wr := ⟨_, rfl⟩
      go_loopw [7, 8] (fun xv iv wi => TbL vs k nv wo xv iv wi) (fun _ iv _ => nv - (intOf iv).toNat)
      case atStart => exact ⟨0, by omega, rfl, rfl, Qt.refl _⟩
      case round =>
        obtain ⟨i, hi, rfl, rfl, hq⟩ := hrel
        have HQ := Lib.hid hq; clear hq
        by_cases hin : i < nv
        · have j1 : (i : Int) < (nv : Int) := by omega
          have hil : i < vs.length := by rw [HNV.out]; exact hin
          obtain ⟨b2, o2, rfl, d2⟩ := HV.out (by intro e; rw [e] at hil; simp at hil)
          have p2 := HQ.out.cell (cell_later BL.out (d2 i hil))
          clear d2
          have r1 := VS.out.get hil
          have xl := xk_lt VS.out k i (by omega)
          have XS : Hid (xk k vs (i + 1) = xk k vs i ||| ((k.testBit i).toNat * 2 ^ kO (vs.getD i 0))) := rfl
          obtain ⟨v, hv⟩ := Int.eq_ofNat_of_zero_le r1.1
          rw [hv] at p2 XS r1
          have hv16 : v < 16 := by omega
          have KO : Hid (kO (v : Int) = 15 - v) := by show _ = _; unfold kO; omega
          rw [KO.out] at XS
          clear hv r1
          generalize xk k vs i = y at *
          have ST := Lib.hid (xk_step k y i v k6 xl hv16)
          have s1 : (0 : Int) ≤ 15 - (v : Int) := by omega
          have s2 : (15 : Int) - (v : Int) ≤ 15 := by omega
          have s3 : IntKind.i64.wrap (15 - (v : Int)) = 15 - (v : Int) := IntWalk.i64_in _ (by omega)
          have s4 : (15 - (v : Int)).toNat = 15 - v := by omega
          go_wp2_with fail
          go_quiet (fail)
          go_wp2_with fail
          go_roundw
          case rel => exact ⟨i + 1, by omega, by rw [XS.out, ← ST.out], by go_num, HQ.out.drewN _⟩
          case measure => simp [intOf]; omega
        · obtain rfl : i = nv := by omega
          have j1 : ¬ ((i : Int) < (i : Int)) := by omega
          have xl := xk_lt VS.out k i (by rw [HNV.out]; exact Nat.le_refl _)
          have TS := tru_succ T vs k
          rw [HNV.out] at TS
          have TS := Lib.hid TS
          obtain ⟨x, hx⟩ : ∃ x, xk k vs i = x := ⟨_, rfl⟩
          rw [hx] at TS xl
          rw [hx]
          clear hx
          have p1 := HQ.out.cell (cell_later BL.out (HT.out x (by omega)))
          have x1 : (x : Int) < (z : Int) := by omega
          have RR : Hid (wr.ownsRow w.heap.size 3 1 (.slice la m lc) m ((tru T vs k).map nI)) := by
            obtain ⟨q, e⟩ := HQ.out
            rw [e]; exact RW.out
          have BR : Hid (Below w.heap.size w wr) := BL.out.trans (HQ.out.below.mono bls)
          have brs : w.heap.size ≤ wr.heap.size := BR.out.size
          cases hb : fnT T x
          · have E : Hid (tru T vs (k + 1) = tru T vs k) := by show _ = _; rw [TS.out, if_neg (show ¬ T.getD x false = true from fun h => by rw [show T.getD x false = false from hb] at h; simp at h), List.append_nil]
            rw [hb] at p1
            clear hb
            go_wp2_with fail
            go_roundw
            case rel => exact ⟨k + 1, la, lc, m, by omega, by omega, by go_num, rfl, by rw [E.out]; exact RR.out, BR.out⟩
            case measure => simp [intOf]; omega
          · have E : Hid (tru T vs (k + 1) = tru T vs k ++ [x]) := by show _ = _; rw [TS.out, if_pos (show T.getD x false = true from hb)]
            rw [hb] at p1
            clear hb
            go_wp2_with (at_builtin; refine wpList_append_lies _ rfl _ _ 53 rfl w.heap.size 3 i0 (.int .i64 0) 1 8 Try.underlying53 hi0 hy0 hy1 hy2 rfl (by omega) (.slice la m lc) m ((tru T vs k).map nI) rfl (RR.out.alloc _) ⟨wr.heap.size, 0, none⟩ 1 1 [.int .i64 (x : Int)] rfl rfl (World.news_of_block (cs := #[.int .i64 (x : Int)]) (t := 3) (fr := (0, 0)) (heap_alloc_new wr _)) (by simp [Value.oneCell']) (by omega) (by unfold maxLen; omega) (by omega) (by simp; omega) (wr.heap.size + 1) (by simp) ?_; intro g4 cap4 w4 hown4 hgrow4 hat4 hlt4; have OW := Lib.hid hown4; have GR := Lib.hid hgrow4; clear hown4 hgrow4 hat4 hlt4)
            have B4 : Hid (Below w.heap.size w w4) := below_app (BR.out.alloc brs _) GR.out (fun g hg => (RR.out.lt g hg).1) (by simp; omega)
            go_roundw
            case rel => exact ⟨k + 1, some ⟨g4, 0, none⟩, cap4, m + 1, by omega, by omega, by go_num, rfl, by
              have := OW.out
              rw [E.out, List.map_append]
              exact this, B4.out⟩
            case measure => simp [intOf]; omega
    · obtain rfl : k = N := by omega
      have kN : ¬ ((k : Int) < (k : Int)) := by omega
      have wn1 := WN.out.1
      have wn2 := WN.out.2
      go_wp2_with fail
      go_ret
      clear wn1 wn2
      have e1 : (tru T vs k).length = m := by have := RW.out.1; simpa using this
      refine ⟨la, lc, ?_, ?_, BL.out⟩
      · rw [HN.out, List.length_map, e1]; rfl
      · rw [HN.out]
        intro hne
        rcases RW.out.2 with ⟨_, h2⟩ | ⟨g5, cap5, cur, hv5, hg5, hc5, _⟩
        · exact absurd (by rw [List.length_eq_zero_iff.1 (e1.trans h2)]; rfl) hne
        · have hr5 := RW.out
          rw [hv5] at hr5
          injection hv5 with e2 e3 e4
          refine ⟨g5, 0, e2, fun j hj => ?_⟩
          rw [List.length_map] at hj
          have c5 := hr5.cellAt j (by omega)
          rw [Nat.zero_add, c5, List.getElem?_map, List.getElem?_eq_getElem hj, map_getN hj, List.getD_eq_getElem?_getD, List.getElem?_eq_getElem hj]
          rfl

/-- An append in a region that draws, of a source that may be empty. -/
theorem step_append_own {P : Program} {w : World} {ops : Array Oper} {o : Oper} {a : Act} {K : Act → World → Prop} {Q : Exit → Act → World → Prop} {E : Prop} (hgd : o.guard = none) (s x : Operand) (t : TypeId)
    (ho : o.op = .call { callee := .builtin .append, args := #[s, x], argTypes := #[t, t] })
    (base : Nat) (e : TypeId) (i : TypeInfo) (z : Value) (size bytes : Nat) (ht : P.underlying t = some (.slice e)) (hi : P.info? e = some i) (hz : i.zero = some z)
    (hsize : i.size = size) (hby : i.bytes = bytes) (hzs : z.cells.size = size) (hsz : 0 < size)
    (v : Value) (n : Nat) (xs : List Value) (hs : a.eval s = v) (hown : w.ownsRow base e size v n xs)
    (ad : Addr) (m c : Nat) (news : List Value) (hx : a.eval x = .slice (some ad) m c) (hl : news.length = m * size) (hnews : ∀ j u, news[j]? = some u → w.cell? (ad.add j) = some u) (h1 : ∀ u ∈ news, u.oneCell' = true)
    (h63 : n + m ≤ maxLen) (hbytes : (n + m) * bytes ≤ 140737488355328) (hbase : base ≤ w.heap.size)
    (h : ∀ v' w', w'.ownsRow base e size v' (n + m) (xs ++ news) → w.grownBy w' v.ownBlock → (v' = .slice none 0 0 ↔ v = .slice none 0 0 ∧ m = 0) → K (a.put o.dst v') w') :
    if Region.wanted o (yielded ops a.tmps) = true then Oper.wp P o a w K Q else E := by
  have hw : Region.wanted o (yielded ops a.tmps) = true := by simp [Region.wanted, hgd]
  rw [if_pos hw]
  exact wp_append_own w s x t ho base e i z size bytes ht hi hz hsize hby hzs hsz v n xs hs hown ad m c news hx hl hnews h1 h63 hbytes hbase h

def rprime (L : List Nat) (cl : List Int) : Prop := rimp L cl = true ∧ ∀ i, i < cl.length → rimp L (cl.eraseIdx i) = false

theorem news_at {w : World} {g o : Nat} {l : List Int} (hc : ∀ j, j < l.length → w.cell? ⟨g, o + j, none⟩ = some (.int .i64 (l.getD j 0))) (j : Nat) (u : Value) (hu : (l.map (Value.int .i64))[j]? = some u) : w.cell? ((⟨g, o, none⟩ : Addr).add j) = some u := by
  have hj : j < l.length := by
    rcases Nat.lt_or_ge j l.length with h | h
    · exact h
    · rw [List.getElem?_eq_none (by simpa using h)] at hu; simp at hu
  rw [map_get hj] at hu
  injection hu with hu
  subst hu
  rw [WideShapes.add_plain]
  exact hc j hj
theorem one_ints (l : List Int) : ∀ u ∈ l.map (Value.int .i64), u.oneCell' = true := by
  intro u hu
  obtain ⟨x, _, rfl⟩ := List.mem_map.1 hu
  rfl
/-- A row of one's own, read plainly. -/
theorem own_iAt {w : World} {T n : Nat} {v : Value} {l : List Int} (h : w.ownsRow T 3 1 v n (l.map (Value.int .i64))) : ∃ a c, v = .slice a n c ∧ IAt w l a ∧ n = l.length ∧ (l ≠ [] → ∃ g, a = some ⟨g, 0, none⟩) := by
  have e1 : l.length = n := by have := h.1; simpa using this
  rcases h.2 with ⟨h1, h2⟩ | ⟨g, cap, cur, hv, hg, hc, _⟩
  · have : l = [] := List.length_eq_zero_iff.1 (e1.trans h2)
    subst this
    exact ⟨none, 0, by rw [h1, h2], iAt_nil _ _, e1.symm, fun h => absurd rfl h⟩
  · have hr := h
    rw [hv] at hr
    refine ⟨_, cap, hv, fun hne => ⟨g, 0, rfl, fun j hj => ?_⟩, e1.symm, fun _ => ⟨g, rfl⟩⟩
    rw [Nat.zero_add, hr.cellAt j (by omega)]
    exact map_get hj

def PmL (L : List Nat) (cl : List Int) (n : Nat) (w : World) (iv : Value) (wr : World) : Prop := ∃ i : Nat, i ≤ n ∧ iv = .int .i64 i ∧ (∀ j, j < i → rimp L (cl.eraseIdx j) = false) ∧ Below w.heap.size w wr
open Classical in
noncomputable def rpB (L : List Nat) (cl : List Int) : Bool := decide (rprime L cl)
def BlPost (w : World) (b : Bool) (e : Ending) (w' : World) : Prop := e = .returned (.bool b) ∧ Below w.heap.size w w'

set_option maxRecDepth 100000 in
set_option maxHeartbeats 4000000 in
theorem rprime_any {w : World} {L : List Nat} {cl : List Int} {a1 a2 : Option Addr} {n1 n2 c1 c2 : Nat} (h1 : IAt w (L.map Int.ofNat) a1) (h2 : IAt w cl a2) (h2g : cl ≠ [] → ∃ g, a2 = some ⟨g, 0, none⟩) (e1 : L.length = n1) (e2 : cl.length = n2) (hcap : n2 ≤ c2) (hc2 : c2 ≤ 9223372036854775807) (m1 : n1 ≤ 9223372036854775807) (m2 : n2 ≤ 8) (hx : ∀ x ∈ L, x < 65536) (hc : ∀ l ∈ cl, Bd.Lit l) :
    Calls Try.prog 78 #[.slice a1 n1 c1, .slice a2 n2 c2] w (BlPost w (rpB L cl)) := by
  have CI := Lib.hid (rimplied_any (c1 := c1) (c2 := c2) h1 h2 e1 e2 m1 (by omega) hx hc)
  have H1 := Lib.hid h1; clear h1
  have H2 := Lib.hid h2; clear h2
  have H2G := Lib.hid h2g; clear h2g
  have E1 := Lib.hid e1; clear e1
  have E2 := Lib.hid e2; clear e2
  have HX := Lib.hid hx; clear hx
  have HC := Lib.hid hc; clear hc
  obtain ⟨i0, hi0, hy0, hy1, hy2⟩ := info_parts info3
  cases hr : rimp L cl
  · have RB : Hid (rpB L cl = false) := by show _ = _; unfold rpB; exact @decide_eq_false _ (Classical.propDecidable _) (fun h => by have := h.1; rw [hr] at this; simp at this)
    rw [hr] at CI
    clear hr
    go_enter Try.func78, Try.ntmps78
    go_wp2_with (go_at_call 97; refine CI.out.mono ?_; rintro e w' ⟨rfl, rfl⟩)
    go_ret
    exact ⟨by rw [RB.out]; rfl, Below.refl _ _⟩
  · have HR : Hid (rimp L cl = true) := hr
    rw [hr] at CI
    clear hr
    go_enter Try.func78, Try.ntmps78
    go_wp2_with (go_at_call 97; refine CI.out.mono ?_; rintro e w' ⟨rfl, rfl⟩)
    clear CI
    go_loopw [5] (fun iv wr => PmL L cl n2 w iv wr) (fun iv _ => n2 - (intOf iv).toNat)
    case atStart => exact ⟨0, by omega, rfl, fun j hj => absurd hj (by omega), Below.refl _ _⟩
    case round =>
      obtain ⟨i, hi, rfl, hno, bl⟩ := hrel
      have NO := Lib.hid hno; clear hno
      have BL := Lib.hid bl
      have bls : w.heap.size ≤ wr.heap.size := bl.size
      clear bl
      by_cases hin : i < n2
      · have j1 : (i : Int) < (n2 : Int) := by omega
        have hil : i < cl.length := by rw [E2.out]; exact hin
        have hne : Hid (cl ≠ []) := by intro e; rw [e] at hil; simp at hil
        obtain ⟨g, rfl⟩ := H2G.out hne.out
        have CE : Hid (∀ j, j < cl.length → wr.cell? ⟨g, j, none⟩ = some (.int .i64 (cl.getD j 0))) := fun j hj => by
          obtain ⟨b, o, e, d⟩ := H2.out hne.out
          injection e with e
          injection e with e1 e2
          subst e1 e2
          have := cell_later BL.out (d j hj)
          rwa [Nat.zero_add] at this
        have NW1 : Hid (∀ (W : World), Below wr.heap.size wr W → ∀ j u, ((cl.take i).map (Value.int .i64))[j]? = some u → W.cell? ((⟨g, 0, none⟩ : Addr).add j) = some u) := fun W hb => news_at fun j hj => by
          rw [List.length_take] at hj
          rw [Nat.zero_add, List.getD_eq_getElem?_getD, List.getElem?_take, if_pos (by omega), ← List.getD_eq_getElem?_getD]
          exact cell_later hb (CE.out j (by omega))
        have NW2 : Hid (∀ (W : World), Below wr.heap.size wr W → ∀ j u, ((cl.drop (i + 1)).map (Value.int .i64))[j]? = some u → W.cell? ((⟨g, i + 1, none⟩ : Addr).add j) = some u) := fun W hb => news_at fun j hj => by
          rw [List.length_drop] at hj
          rw [List.getD_eq_getElem?_getD, List.getElem?_drop, ← List.getD_eq_getElem?_getD]
          exact cell_later hb (CE.out (i + 1 + j) (by omega))
        have ER : Hid (cl.eraseIdx i = cl.take i ++ cl.drop (i + 1)) := List.eraseIdx_eq_take_drop_succ cl i
        have k1 : IntKind.i64.wrap ((i : Int) + 1) = (i : Int) + 1 := IntWalk.i64_in _ (by omega)
        have k2 : (0 : Int) ≤ (i : Int) + 1 := by omega
        have k3 : ((i : Int) + 1).toNat = i + 1 := by omega
        have k4 : (i : Int) + 1 ≤ (n2 : Int) := by omega
        have k5 : i + 1 ≤ n2 := by omega
        have k6 : i ≤ c2 := by omega
        have k7 : (i : Int) ≤ (c2 : Int) := by omega
        by_cases hcc : c2 = i + 1
        · have hd0 : Hid (cl.drop (i + 1) = []) := List.drop_of_length_le (by rw [E2.out]; omega)
          obtain rfl : n2 = i + 1 := by omega
          subst hcc
          clear hcap k5 k6 k7 k4
          have k8 : (i : Int) ≤ (i : Int) + 1 := by omega
          go_upto_region 6 with fail
          go_region_law (first
            | (refine step_append_own (by rfl) _ _ _ (by rfl) wr.heap.size 3 i0 _ 1 8 Try.underlying53 hi0 hy0 hy1 hy2 rfl (by omega) (.slice none 0 0) 0 [] (by rfl) ⟨rfl, Or.inl ⟨rfl, rfl⟩⟩ ⟨g, 0, none⟩ i (i + 1) ((cl.take i).map (Value.int .i64)) (by rfl) (by rw [List.length_map, List.length_take, E2.out]; omega) (NW1.out _ ((Below.refl _ _).drew)) (one_ints _) (by unfold maxLen; omega) (by omega) (Nat.le_refl _) ?_; intro v4 w4 hown4 hgrow4 hnil4; have OW4 := Lib.hid hown4; have BL4 : Hid (Below wr.heap.size wr w4) := below_app ((Below.refl _ _).drew) hgrow4 (fun g hg => by simp [Value.ownBlock] at hg) (Nat.le_refl _); clear hown4 hgrow4 hnil4)
            | (refine step_append_own (by rfl) _ _ _ (by rfl) wr.heap.size 3 i0 _ 1 8 Try.underlying53 hi0 hy0 hy1 hy2 rfl (by omega) v4 (0 + i) ([] ++ (cl.take i).map (Value.int .i64)) (by rfl) OW4.out ⟨g, 0, none⟩ (0) (0) [] (by rfl) (by simp) (by intro j u h; simp at h) (by first | exact one_ints _ | simp) (by unfold maxLen; omega) (by omega) BL4.out.size ?_; intro v5 w5 hown5 hgrow5 hnil5; have OW5 := Lib.hid hown5; have BL5 : Hid (Below wr.heap.size wr w5) := below_app BL4.out hgrow5 (fun g hg => (OW4.out.lt g hg).1) BL4.out.size; clear hown5 hgrow5 hnil5))
          all_goals
            clear k1 k2 k3
            obtain ⟨nn, hnn⟩ : ∃ nn, 0 + i + (0) = nn := ⟨_, rfl⟩
            have OI : Hid (w5.ownsRow wr.heap.size 3 1 v5 nn ((cl.eraseIdx i).map (Value.int .i64))) := by
              have := OW5.out
              rw [hnn] at this
              rw [ER.out, List.map_append]
              rw [hd0.out]; exact this
            obtain ⟨a5, c5, rfl, ia5, hn5, _⟩ := own_iAt OI.out
            have IA5 := Lib.hid ia5; clear ia5
            have L5 : (cl.eraseIdx i).length = (i + 1) - 1 := by rw [List.length_eraseIdx, if_pos hil, E2.out]
            clear hnn
            have B5 := Lib.hid (Below.over BL.out BL.out.size BL5.out)
            have C97 := rimplied_any (c1 := c1) (c2 := c5) (H1.out.below B5.out) IA5.out E1.out rfl m1 (by omega) HX.out (fun l hl => HC.out l ((List.eraseIdx_sublist cl i).subset hl))
            rw [← hn5] at C97
            clear hn5 L5
            have C97 := Lib.hid C97
            cases hb : rimp L (cl.eraseIdx i)
            · have NO2 : Hid (∀ j, j < i + 1 → rimp L (cl.eraseIdx j) = false) := fun j hj => by
                rcases lt_succ hj with e | e
                · exact NO.out j e
                · rw [e]; exact hb
              rw [hb] at C97
              clear hb
              go_wp2_with (go_at_call 97; refine C97.out.mono ?_; rintro e w' ⟨rfl, rfl⟩)
              go_roundw
              case rel => exact ⟨i + 1, by omega, by go_num, NO2.out, B5.out⟩
              case measure => simp [intOf]
            · have RB : Hid (rpB L cl = false) := by show _ = _; unfold rpB; exact @decide_eq_false _ (Classical.propDecidable _) (fun h => by have := h.2 i hil; rw [hb] at this; simp at this)
              rw [hb] at C97
              clear hb
              go_wp2_with (go_at_call 97; refine C97.out.mono ?_; rintro e w' ⟨rfl, rfl⟩)
              go_ret
              exact ⟨by rw [RB.out]; rfl, B5.out⟩
        · go_upto_region 6 with fail
          go_region_law (first
            | (refine step_append_own (by rfl) _ _ _ (by rfl) wr.heap.size 3 i0 _ 1 8 Try.underlying53 hi0 hy0 hy1 hy2 rfl (by omega) (.slice none 0 0) 0 [] (by rfl) ⟨rfl, Or.inl ⟨rfl, rfl⟩⟩ ⟨g, 0, none⟩ i c2 ((cl.take i).map (Value.int .i64)) (by rfl) (by rw [List.length_map, List.length_take, E2.out]; omega) (NW1.out _ ((Below.refl _ _).drew)) (one_ints _) (by unfold maxLen; omega) (by omega) (Nat.le_refl _) ?_; intro v4 w4 hown4 hgrow4 hnil4; have OW4 := Lib.hid hown4; have BL4 : Hid (Below wr.heap.size wr w4) := below_app ((Below.refl _ _).drew) hgrow4 (fun g hg => by simp [Value.ownBlock] at hg) (Nat.le_refl _); clear hown4 hgrow4 hnil4)
            | (refine step_append_own (by rfl) _ _ _ (by rfl) wr.heap.size 3 i0 _ 1 8 Try.underlying53 hi0 hy0 hy1 hy2 rfl (by omega) v4 (0 + i) ([] ++ (cl.take i).map (Value.int .i64)) (by rfl) OW4.out ⟨g, i + 1, none⟩ (n2 - (i + 1)) (c2 - (i + 1)) ((cl.drop (i + 1)).map (Value.int .i64)) (by rfl) (by rw [List.length_map, List.length_drop, E2.out]; omega) (NW2.out _ BL4.out) (by first | exact one_ints _ | simp) (by unfold maxLen; omega) (by omega) BL4.out.size ?_; intro v5 w5 hown5 hgrow5 hnil5; have OW5 := Lib.hid hown5; have BL5 : Hid (Below wr.heap.size wr w5) := below_app BL4.out hgrow5 (fun g hg => (OW4.out.lt g hg).1) BL4.out.size; clear hown5 hgrow5 hnil5))
          all_goals
            clear k1 k2 k3
            obtain ⟨nn, hnn⟩ : ∃ nn, 0 + i + (n2 - (i + 1)) = nn := ⟨_, rfl⟩
            have OI : Hid (w5.ownsRow wr.heap.size 3 1 v5 nn ((cl.eraseIdx i).map (Value.int .i64))) := by
              have := OW5.out
              rw [hnn] at this
              rw [ER.out, List.map_append]
              exact this
            obtain ⟨a5, c5, rfl, ia5, hn5, _⟩ := own_iAt OI.out
            have IA5 := Lib.hid ia5; clear ia5
            have L5 : (cl.eraseIdx i).length = n2 - 1 := by rw [List.length_eraseIdx, if_pos hil, E2.out]
            clear hnn
            have B5 := Lib.hid (Below.over BL.out BL.out.size BL5.out)
            have C97 := rimplied_any (c1 := c1) (c2 := c5) (H1.out.below B5.out) IA5.out E1.out rfl m1 (by omega) HX.out (fun l hl => HC.out l ((List.eraseIdx_sublist cl i).subset hl))
            rw [← hn5] at C97
            clear hn5 L5
            have C97 := Lib.hid C97
            cases hb : rimp L (cl.eraseIdx i)
            · have NO2 : Hid (∀ j, j < i + 1 → rimp L (cl.eraseIdx j) = false) := fun j hj => by
                rcases lt_succ hj with e | e
                · exact NO.out j e
                · rw [e]; exact hb
              rw [hb] at C97
              clear hb
              go_wp2_with (go_at_call 97; refine C97.out.mono ?_; rintro e w' ⟨rfl, rfl⟩)
              go_roundw
              case rel => exact ⟨i + 1, by omega, by go_num, NO2.out, B5.out⟩
              case measure => simp [intOf]; omega
            · have RB : Hid (rpB L cl = false) := by show _ = _; unfold rpB; exact @decide_eq_false _ (Classical.propDecidable _) (fun h => by have := h.2 i hil; rw [hb] at this; simp at this)
              rw [hb] at C97
              clear hb
              go_wp2_with (go_at_call 97; refine C97.out.mono ?_; rintro e w' ⟨rfl, rfl⟩)
              go_ret
              exact ⟨by rw [RB.out]; rfl, B5.out⟩
      · obtain rfl : i = n2 := by omega
        have j1 : ¬ ((i : Int) < (i : Int)) := by omega
        have RB : Hid (rpB L cl = true) := by show _ = _; unfold rpB; exact @decide_eq_true _ (Classical.propDecidable _) ⟨HR.out, fun j hj => NO.out j (by rw [E2.out] at hj; exact hj)⟩
        go_wp2_with fail
        go_ret
        exact ⟨by rw [RB.out]; rfl, BL.out⟩

end Go.Proofs.Ythhogbligfmpdaa
