/- Spans, SameDom, fits, picked, Size, Has, Values. -/
import Derived.Test.YteiohgiecpibhaaGreatME
import Derived.Test.YteiohgiecpibhaaGreatMB
import Derived.Test.YteiohgiecpibhaaGreatMF
set_option linter.unusedVariables false
set_option linter.unusedSimpArgs false
set_option maxRecDepth 100000
set_option maxHeartbeats 4000000
namespace Go.Proofs.YteiohgiecpibhaaGreat
open Go.RowKit Fdm

theorem spv_set (d : Dm) (s : Sp) (y : Int) : (spv (d ++ [s])).set (d.length * 2 + 1) (.int .i64 y) = spv (d ++ [(s.1, y)]) := by
  rw [spv_app, spv_app, List.set_append_right _ _ (by rw [spv_len]; omega), spv_len, show d.length * 2 + 1 - d.length * 2 = 1 from by omega]
  rfl
/-- The last span's upper end is set anew. -/
structure HiP (w : World) (base : Nat) (v : Value) (d : Dm) (s : Sp) (g m cap : Nat) : Prop where
  len : d.length = m
  eq : v = .slice (some ⟨g, 0, none⟩) (m + 1) cap
  le : m + 1 ≤ cap
  ge : base ≤ g
  cell0 : w.cell? ⟨g, m * 2, none⟩ = some (.int .i64 s.1)
  cell : w.cell? ⟨g, m * 2 + 1, none⟩ = some (.int .i64 s.2)
  fr : w.frozen? ⟨g, m * 2 + 1, none⟩ = false
  set : ∀ y, DmO (w.setCell ⟨g, m * 2 + 1, none⟩ (.int .i64 y)) base v (d ++ [(s.1, y)])
  grow : ∀ y, w.grownBy (w.setCell ⟨g, m * 2 + 1, none⟩ (.int .i64 y)) (some g)
theorem DmO.hi {w : World} {base : Nat} {v : Value} {d : Dm} {s : Sp} (h : DmO w base v (d ++ [s])) : ∃ g m cap, HiP w base v d s g m cap := by
  have o := h.own
  rw [List.length_append, List.length_singleton] at o
  rcases o.2 with ⟨_, h0⟩ | ⟨g, cap, cur, rfl, hb, hg, hnc, hcm, hcs, htake⟩
  · omega
  · refine ⟨g, d.length, cap, rfl, rfl, hnc, hb, ?_, ?_, o.frozenAt _, fun y => ?_, fun y => (o.stored (d.length * 2 + 1) (.int .i64 y)).2⟩
    · rw [o.cellAt _ (by omega), spv_app, List.getElem?_append_right (by rw [spv_len]; omega), spv_len, Nat.sub_self]; rfl
    · rw [o.cellAt _ (by omega), spv_app, List.getElem?_append_right (by rw [spv_len]; omega), spv_len, show d.length * 2 + 1 - d.length * 2 = 1 from by omega]; rfl
    · obtain ⟨p, q⟩ := o.stored (d.length * 2 + 1) (.int .i64 y)
      rw [spv_set] at p
      exact ⟨⟨by rw [List.length_append, List.length_singleton]; exact p, fun _ _ _ _ _ => trivial⟩⟩
theorem HiP.qt {w W : World} {base : Nat} {v : Value} {d : Dm} {s : Sp} {g m cap : Nat} (h : HiP w base v d s g m cap) (o : DmO w base v (d ++ [s])) (q : Below w.heap.size w W) : HiP W base v d s g m cap := by
  obtain ⟨g', m', cap', h'⟩ := (o.below q).hi
  have e := h'.eq
  rw [h.eq] at e
  injection e with e1 e2 e3
  injection e1 with e1
  injection e1 with e1
  subst e1 e3
  obtain rfl : m = m' := by omega
  exact h'
theorem below_row {n : Nat} {w0 w w' : World} {g : Nat} (B : Below n w0 w) (G : w.grownBy w' (some g)) (hg : n ≤ g) (hn : n ≤ w.heap.size) : Below n w0 w' :=
  ⟨G.os.trans B.os, G.tape.trans B.tape, G.output.trans B.output, Nat.le_trans B.size G.size, fun q hq => (G.block q (by omega) (fun e => by cases e; omega)).trans (B.block q hq)⟩
/-- The same for one operation of a drawn region. -/
theorem wp_pushD {o : Oper} {a : Act} {K : Act → World → Prop} {Q : Exit → Act → World → Prop} {w : World} (s x : Operand)
    (ho : o.op = .call { callee := .builtin .append, args := #[s, x], argTypes := #[23, 23] })
    (w0 w1 : World) (v : Value) (d : Dm) (lo hi : Int) (hw : w = w1.alloc (.cells #[.int .i64 lo, .int .i64 hi] 63)) (hs : a.eval s = v) (hx : a.eval x = .slice (some ⟨w1.heap.size, 0, none⟩) 1 1)
    (hO : DmO w1 w0.heap.size v d) (hB : Below w0.heap.size w0 w1) (hl : d.length ≤ 8000000000000)
    (h : ∀ v' w', DmO w' w0.heap.size v' (d ++ [(lo, hi)]) → Below w0.heap.size w0 w' → Psh w1 w' v v' → K (a.put o.dst v') w') : o.wp Tryz.prog a w K Q := by
  subst hw
  obtain ⟨i0, hi0, hz0, hz1, hz2⟩ := info_parts info63
  have OW := (hO.below (below_new w1 (.cells #[.int .i64 lo, .int .i64 hi] 63))).op
  have B1 : Below w0.heap.size w0 (w1.alloc (.cells #[.int .i64 lo, .int .i64 hi] 63)) := over hB (below_new _ _)
  refine wp_append_op s x 23 ho w0.heap.size 63 i0 _ 2 16 Tryz.underlying23 hi0 hz0 hz1 hz2 rfl (by omega) (fun _ _ => trivial) v d.length (spv d) hs OW ⟨w1.heap.size, 0, none⟩ 1 1 [.int .i64 lo, .int .i64 hi] hx rfl ?_ ?_ (fun _ _ => trivial) (by unfold maxLen; omega) (by omega) B1.size ?_
  · intro j u hu
    have hh := heap_alloc_new w1 (.cells #[.int .i64 lo, .int .i64 hi] 63)
    rw [show (⟨w1.heap.size, 0, none⟩ : Addr).add j = ⟨w1.heap.size, j, none⟩ from by unfold Addr.add; split <;> simp_all, cell_of_row _ _ j _ _ _ hh]
    simpa using hu
  · intro u hu
    simp at hu
    rcases hu with rfl | rfl <;> rfl
  · intro v' w' h1 h2 h3
    refine h v' w' ⟨?_⟩ (below_own B1 OW.own B1.size h2) ⟨fun b hb hn => (h2.block b (by simp; omega) (fun e => hn e.symm)).trans ((below_new w1 _).block b hb), fun g hg => ?_, ?_⟩
    · rw [spv_app, List.length_append]
      exact h1
    · rcases h3 g hg with q | q
      · exact .inl q
      · exact .inr (by simp at q; omega)
    · have := h2.size; simp at this; omega
theorem fr_of {k : Nat} {w0 w1 w2 : World} (a : Below k w0 w1) (b : Below k w0 w2) : Fr k w1 w2 := fun g hg => (b.block g hg).trans (a.block g hg).symm
theorem take_snoc {l : List Int} {k : Nat} (h : k < l.length) : l.take (k + 1) = l.take k ++ [l.getD k 0] := by
  rw [List.take_add_one, List.getElem?_eq_getElem h, List.getD_eq_getElem?_getD, List.getElem?_eq_getElem h]; rfl
/-- What Spans and of meet at a number: the first one, one that goes on, one that begins anew. -/
theorem spn_len : ∀ (l : List Int), (spnF l).length ≤ l.length := by
  intro l
  have key : ∀ n (l : List Int), l.length = n → (spnF l).length ≤ n := by
    intro n
    induction n with
    | zero => intro l hn; obtain rfl := List.length_eq_zero_iff.1 hn; exact Nat.le_refl _
    | succ n ih =>
      intro l hn
      have hne : l ≠ [] := by rintro rfl; simp at hn
      obtain ⟨l', v, rfl⟩ : ∃ l' v, l = l' ++ [v] := ⟨_, _, (List.dropLast_concat_getLast hne).symm⟩
      have := ih l' (by simpa using hn)
      rw [spn_snoc]
      unfold spnStep
      cases h : (spnF l').getLast? with
      | none => simp
      | some s =>
        simp only
        split <;> simp <;> omega
  exact key _ l rfl
theorem spn_at {l : List Int} (hp : List.Pairwise (· < ·) l) {k : Nat} (h : k < l.length) :
    (k = 0 ∧ spnF (l.take k) = [] ∧ spnF (l.take (k + 1)) = [(l.getD k 0, l.getD k 0)]) ∨
    ∃ d s, 0 < k ∧ spnF (l.take k) = d ++ [s] ∧ s.2 = l.getD (k - 1) 0 ∧ d.length < k ∧
      spnF (l.take (k + 1)) = if l.getD (k - 1) 0 + 1 = l.getD k 0 then d ++ [(s.1, l.getD k 0)] else d ++ [s] ++ [(l.getD k 0, l.getD k 0)] := by
  cases k with
  | zero =>
    left
    refine ⟨rfl, rfl, ?_⟩
    rw [take_snoc h]; rfl
  | succ k =>
    right
    obtain ⟨lo, hlo⟩ : ∃ lo : Int, ∀ v ∈ l, lo ≤ v := by
      clear hp h
      induction l with
      | nil => exact ⟨0, fun v hv => by simp at hv⟩
      | cons x l ih =>
        obtain ⟨lo, hl⟩ := ih
        exact ⟨min x lo, fun v hv => by rcases List.mem_cons.1 hv with rfl | hv; omega; have := hl v hv; omega⟩
    have S := spn_ok _ (l.take (k + 1)) rfl lo (hp.sublist (List.take_sublist _ _)) (fun v hv => hlo v (List.mem_of_mem_take hv))
    obtain ⟨d, s, hd, hs⟩ := S.last (l.getD k 0) (by rw [take_snoc (by omega)]; simp)
    have hl := spn_len (l.take (k + 1))
    rw [hd, List.length_append, List.length_singleton, List.length_take] at hl
    refine ⟨d, s, Nat.succ_pos _, hd, hs, by omega, ?_⟩
    rw [take_snoc h, spn_snoc, hd, Nat.add_sub_cancel, ← hs]
    by_cases e : s.2 + 1 = l.getD (k + 1) 0
    · rw [if_pos e, spnStep_join d s _ e]
    · rw [if_neg e, spnStep_more d s _ e]
def SnL (w : World) (l : List Int) (v3 v4 : Value) (wr : World) : Prop := ∃ k : Nat, k ≤ l.length ∧ v4 = .int .i64 (k : Int) ∧ DmO wr w.heap.size v3 (spnF (l.take k)) ∧ Below w.heap.size w wr
theorem spans_any {w : World} {l : List Int} {a : Option Addr} {n c : Nat} (h : InA w l a) (hn : l.length = n) (h0 : n ≤ c) (h1 : c ≤ 9223372036854775807) (hp : List.Pairwise (· < ·) l) (hb : ∀ v ∈ l, -16384 ≤ v ∧ v ≤ 16384) (hs : n ≤ 1000000) :
    Calls Tryz.prog 73 #[.slice a n c] w (DmPost w (spnF l)) := by
  have H := Lib.hid h; have HN := Lib.hid hn; have HP := Lib.hid hp; have HB := Lib.hid hb
  clear h hn hp hb
  go_enter Tryz.func73, Tryz.ntmps73
  go_wp2_with fail
  go_loopw [3, 4] (fun v3 v4 wr => SnL w l v3 v4 wr) (fun _ v4 _ => n - (intOf v4).toNat)
  case atStart => exact ⟨0, Nat.zero_le _, rfl, DmO.nil _ _, Below.refl _ _⟩
  obtain ⟨k, hk, rfl, hO, hBr⟩ := hrel
  have BR := Lib.hid hBr; have O := Lib.hid hO
  rw [HN.out] at hk
  clear hBr hO
  by_cases hlt : k < n
  · have hlt' : (k : Int) < (n : Int) := by omega
    obtain ⟨g, o, rfl, dd⟩ := H.out (by intro e; have := HN.out; rw [e] at this; simp at this; omega)
    have GL0 := Lib.hid (lt_of_cell (dd k (by rw [HN.out]; exact hlt)))
    have p0 := cell_later BR.out (Nat.le_refl _) (dd k (by rw [HN.out]; exact hlt))
    have LK : Hid (k < l.length) := by show _; rw [HN.out]; exact hlt
    have hv := HB.out _ (getD_mem LK.out)
    obtain ⟨x, hx⟩ : ∃ x, l.getD k 0 = x := ⟨_, rfl⟩
    rw [hx] at p0 hv
    rcases spn_at HP.out LK.out with ⟨k0, e1, e2⟩ | ⟨d, s, k0, e1, es, dl, e2⟩
    · subst k0
      have E2 := Lib.hid e2
      rw [e1] at O
      rw [hx] at E2
      rw [Nat.add_zero] at p0
      have GL : g < w.heap.size := GL0.out
      have hlt0 : (0 : Int) < (n : Int) := by omega
      clear dd e1 e2 hx hlt'
      go_upto_region 5 with fail
      go_quiet (fail)
      have O1 := Lib.hid (O.out.below (Qt.below (wr := wr.drewN nq) ⟨nq, rfl⟩)); have B1 := Lib.hid (over BR.out (Qt.below (wr := wr.drewN nq) ⟨nq, rfl⟩))
      have p0 : (wr.drewN nq).cell? ⟨g, o, none⟩ = some (.int .i64 x) := p0
      clear O BR
      generalize wr.drewN nq = W1 at *
      go_wp2_with fail
      refine Rg.s1 w.heap.size 12 [] fun WD DW => ?_
      refine Rg.t 0 ?_
      refine Rg.t 1 ?_
      refine Rg.t 2 ?_
      refine Rg.t 3 ?_
      refine Rg.t 4 ?_
      refine Rg.t 5 ?_
      refine Rg.t 6 ?_
      refine Rg.t 7 ?_
      refine Rg.t 8 ?_
      refine Rg.t 9 ?_
      refine Rg.c1 10 fun K' hK => ?_
      go_simp
      refine Rg.e1 hK (fr_of B1.out (over B1.out (over DW (below_new _ _)))) ?_
      clear hK K'
      refine Rg.c1 11 fun K' hK => ?_
      refine wp_pushD _ _ rfl w WD u3 [] x x rfl rfl rfl (O1.out.below DW) (over B1.out DW) (by simp) fun v3 W3 hO3 hB3 _ => ?_
      have O3 := Lib.hid hO3; have B3 := Lib.hid hB3; clear hO3 hB3
      refine Rg.e1 hK (fr_of B1.out B3.out) ?_
      clear hK K'
      refine Rg.l1 ?_
      go_simp
      go_wp2_with fail
      go_roundw
      case rel => exact ⟨1, by rw [HN.out]; omega, by go_num, by rw [E2.out]; exact O3.out, B3.out⟩
      simp [intOf]; omega
    · have E2 := Lib.hid e2
      rw [e1] at O
      rw [hx] at E2
      have p1 := cell_later BR.out (Nat.le_refl _) (dd (k - 1) (by rw [HN.out]; omega))
      have hu := HB.out _ (getD_mem (l := l) (k := k - 1) (by rw [HN.out]; omega))
      obtain ⟨j, rfl⟩ : ∃ j, k = j + 1 := ⟨k - 1, by omega⟩
      rw [Nat.add_sub_cancel] at p1 hu es E2
      obtain ⟨u, hu'⟩ : ∃ u, l.getD j 0 = u := ⟨_, rfl⟩
      rw [hu'] at p1 hu es E2
      clear dd e1 e2 hx hu'
      obtain ⟨gg, m, cap, hi⟩ := O.out.hi
      have HI := Lib.hid hi
      have hi1 := hi.eq
      subst hi1
      have LM : m < j + 1 := by rw [← hi.len]; exact dl
      have hjj : (0 : Int) < (j : Int) + 1 := by omega
      have hjn : (j : Int) < (n : Int) := by omega
      have wj : IntKind.i64.wrap ((j : Int) + 1 - 1) = (j : Int) := by rw [show (j : Int) + 1 - 1 = (j : Int) from by omega]; exact wrap_in (by omega) (by omega)
      have wu : IntKind.i64.wrap (u + 1) = u + 1 := wrap_in (by omega) (by omega)
      have wm2 : wrap64 (m : Int) = (m : Int) := by have := wrap_in (z := (m : Int)) (by omega) (by omega); rw [IntKind.wrap_i64] at this; unfold wrap64; omega
      clear hi dl
      by_cases hux : u + 1 = x
      · have hux' : (x == u + 1) = true := by simp [hux]
        go_upto_region 5 with fail
        go_quiet (fail)
        have HQ := Lib.hid (HI.out.qt O.out (Qt.below (wr := wr.drewN nq) ⟨nq, rfl⟩))
        have hi2 := HQ.out.cell
        have hi3 := HQ.out.fr
        go_wp2_with fail
        go_roundw
        case rel => exact ⟨j + 1 + 1, by rw [HN.out]; omega, by go_num, by rw [E2.out, if_pos hux]; exact HQ.out.set x, below_row (over BR.out (Qt.below ⟨nq, rfl⟩)) (HQ.out.grow x) HI.out.ge (over BR.out (Qt.below (wr := wr.drewN nq) ⟨nq, rfl⟩)).size⟩
        simp [intOf]; omega
      · have hux' : (x == u + 1) = false := by rw [beq_eq_false_iff_ne]; omega
        have hj0 : (0 : Int) ≤ (j : Int) + 1 := by omega
        have LDD : Hid (d.length + 1 ≤ n) := Lib.hid (by rw [HI.out.len]; omega)
        clear wm2 wj wu
        go_upto_region 5 with fail
        go_quiet (fail)
        have O1 := Lib.hid (O.out.below (Qt.below (wr := wr.drewN nq) ⟨nq, rfl⟩)); have B1 := Lib.hid (over BR.out (Qt.below (wr := wr.drewN nq) ⟨nq, rfl⟩))
        have p0 : (wr.drewN nq).cell? ⟨g, o + (j + 1), none⟩ = some (.int .i64 x) := p0
        have GL : g < w.heap.size := GL0.out
        clear O BR HI p1
        generalize wr.drewN nq = W1 at *
        go_wp2_with fail
        refine Rg.s1 w.heap.size 12 [] fun WD DW => ?_
        refine Rg.t 0 ?_
        refine Rg.t 1 ?_
        refine Rg.t 2 ?_
        refine Rg.t 3 ?_
        refine Rg.t 4 ?_
        refine Rg.t 5 ?_
        refine Rg.t 6 ?_
        refine Rg.t 7 ?_
        refine Rg.t 8 ?_
        refine Rg.t 9 ?_
        refine Rg.c1 10 fun K' hK => ?_
        go_simp
        refine Rg.e1 hK (fr_of B1.out (over B1.out (over DW (below_new _ _)))) ?_
        clear hK K'
        refine Rg.c1 11 fun K' hK => ?_
        refine wp_pushD _ _ rfl w WD _ (d ++ [s]) x x rfl rfl rfl (O1.out.below DW) (over B1.out DW) (by simp; have := LDD.out; omega) fun v3 W3 hO3 hB3 _ => ?_
        have O3 := Lib.hid hO3; have B3 := Lib.hid hB3; clear hO3 hB3
        refine Rg.e1 hK (fr_of B1.out B3.out) ?_
        clear hK K'
        refine Rg.l1 ?_
        go_simp
        go_wp2_with fail
        go_roundw
        case rel => exact ⟨j + 1 + 1, by rw [HN.out]; omega, by go_num, by rw [E2.out, if_neg hux]; exact O3.out, B3.out⟩
        simp [intOf]; omega
  · obtain rfl : n = k := by omega
    have E : Hid (l.take n = l) := by show _ = _; rw [List.take_of_length_le (by rw [HN.out]; exact Nat.le_refl _)]
    have L := Lib.hid (spn_len l)
    go_wp2_with fail
    go_ret
    exact ⟨_, rfl, by rw [← E.out]; exact O.out.v (by rw [E.out]; have := L.out; rw [HN.out] at this; omega), BR.out⟩
def SdL (w : World) (a b : Dm) (v5 : Value) (wr : World) : Prop := ∃ k : Nat, k ≤ a.length ∧ v5 = .int .i64 (k : Int) ∧ (∀ i, i < k → sp a i = sp b i) ∧ Qt w wr
theorem sameDom_any {w : World} {a b : Dm} {aa ab : Option Addr} {n c m e : Nat} (ha : DmS w a aa n c) (hb : DmS w b ab m e) : Calls Tryz.prog 19 #[.slice aa n c, .slice ab m e] w fun e w' => e = .returned (.bool (decide (a = b))) ∧ Qt w w' := by
  by_cases hnm : n = m
  · subst hnm
    have HA := Lib.hid ha; have HB := Lib.hid hb
    have NA := Lib.hid ha.len; have NB := Lib.hid hb.len
    have c1 := ha.cap; have c2 := ha.le; have e1 := hb.cap; have e2 := hb.le
    clear ha hb
    have nn : ((n : Int) != (n : Int)) = false := by simp
    go_enter Tryz.func19, Tryz.ntmps19
    go_wp2_with fail
    go_loopw [5] (fun v5 wr => SdL w a b v5 wr) (fun v5 _ => n - (intOf v5).toNat)
    case atStart => exact ⟨0, Nat.zero_le _, rfl, fun i hi => absurd hi (Nat.not_lt_zero _), Qt.refl _⟩
    obtain ⟨k, hk, rfl, hf, hQ⟩ := hrel
    have F := Lib.hid hf; have Q := Lib.hid hQ
    rw [NA.out] at hk
    clear hf hQ
    by_cases hlt : k < n
    · obtain ⟨g, o, rfl, dd⟩ := HA.out.read (by omega)
      obtain ⟨p0, p1⟩ := dd k hlt
      clear dd
      obtain ⟨g', o', rfl, dd⟩ := HB.out.read (by omega)
      obtain ⟨q0, q1⟩ := dd k hlt
      clear dd
      obtain ⟨x, hx⟩ : ∃ x, (sp a k).1 = x := ⟨_, rfl⟩
      obtain ⟨y, hy⟩ : ∃ y, (sp a k).2 = y := ⟨_, rfl⟩
      obtain ⟨x', hx'⟩ : ∃ x', (sp b k).1 = x' := ⟨_, rfl⟩
      obtain ⟨y', hy'⟩ : ∃ y', (sp b k).2 = y' := ⟨_, rfl⟩
      have SE : Hid (sp a k = sp b k ↔ x = x' ∧ y = y') := by show _ ↔ _; rw [Prod.ext_iff, hx, hy, hx', hy']
      rw [hx] at p0
      rw [hy] at p1
      rw [hx'] at q0
      rw [hy'] at q1
      have p0 := Q.out.cell p0
      have p1 := Q.out.cell p1
      have q0 := Q.out.cell q0
      have q1 := Q.out.cell q1
      clear hx hy hx' hy'
      by_cases s : x = x' ∧ y = y'
      · obtain ⟨rfl, rfl⟩ := s
        have G : Hid (∀ i, i < k + 1 → sp a i = sp b i) := fun i hi => by
          by_cases e : i = k
          · subst e; exact SE.out.2 ⟨rfl, rfl⟩
          · exact F.out i (by omega)
        go_upto_region 6 with fail
        go_quiet (fail)
        go_wp2_with fail
        go_roundw
        case rel => exact ⟨k + 1, by rw [NA.out]; omega, by go_num, G.out, Q.out.trans ⟨nq, rfl⟩⟩
        simp [intOf]; omega
      · have E : Hid (decide (a = b) = false) := by
          show _ = _
          rw [decide_eq_false_iff_not]
          exact fun e => s (SE.out.1 (by rw [e]))
        by_cases xx : x = x'
        · subst xx
          have yy : (y == y') = false := by simpa using fun q => s ⟨rfl, q⟩
          have yy2 : y ≠ y' := fun q => s ⟨rfl, q⟩
          clear s
          go_upto_region 6 with fail
          go_quiet (fail)
          go_wp2_with fail
          go_ret
          exact ⟨by rw [E.out]; rfl, Q.out.trans ⟨nq, rfl⟩⟩
        · have xx' : (x == x') = false := by simpa using xx
          clear s
          go_upto_region 6 with fail
          go_quiet (fail)
          go_wp2_with fail
          go_ret
          exact ⟨by rw [E.out]; rfl, Q.out.trans ⟨nq, rfl⟩⟩
    · obtain rfl : n = k := by omega
      have E : Hid (decide (a = b) = true) := by
        show _ = _
        rw [decide_eq_true_eq]
        exact sp_ext (by rw [NA.out, NB.out]) (by rw [NA.out]; exact F.out)
      go_wp2_with fail
      go_ret
      exact ⟨by rw [E.out]; rfl, Q.out⟩
  · have E : Hid (decide (a = b) = false) := by
      show _ = _
      rw [decide_eq_false_iff_not]
      exact fun e => hnm (by rw [← ha.len, ← hb.len, e])
    have nn : ((n : Int) != (m : Int)) = true := by simp; omega
    clear ha hb hnm
    go_enter Tryz.func19, Tryz.ntmps19
    go_wp2_with fail
    go_ret
    exact ⟨by rw [E.out]; rfl, Qt.refl _⟩
theorem within_any (v : Int) (w : World) : Calls Tryz.prog 40 #[.int .i64 v] w fun e w' => e = .returned (.bool (decide (-16384 ≤ v) && decide (v ≤ 16384))) ∧ Qt w w' := by
  by_cases h1 : -16384 ≤ v
  · by_cases h2 : v ≤ 16384
    · have E : Hid ((decide (-16384 ≤ v) && decide (v ≤ 16384)) = true) := by show _ = _; simp [h1, h2]
      go_enter Tryz.func40, Tryz.ntmps40
      go_wp2_with fail
      go_ret
      exact ⟨by rw [E.out]; rfl, Qt.refl _⟩
    · have E : Hid ((decide (-16384 ≤ v) && decide (v ≤ 16384)) = false) := by show _ = _; simp [h2]
      have h4 : decide (v ≤ 16384) = false := by simp; omega
      go_enter Tryz.func40, Tryz.ntmps40
      go_wp2_with fail
      go_ret
      exact ⟨rfl, Qt.refl _⟩
  · have E : Hid ((decide (-16384 ≤ v) && decide (v ≤ 16384)) = false) := by show _ = _; simp [h1]
    have h3 : v < -16384 := by omega
    clear h1
    go_enter Tryz.func40, Tryz.ntmps40
    go_wp2_with fail
    go_ret
    exact ⟨by rw [E.out]; rfl, Qt.refl _⟩
/-- What is said of a set that was built: its error, and the set where there is none. -/
def ftE (d : Dm) : Int := if d.length = 0 then 15 else if 256 < d.length then 3 else 0
def ftD (d : Dm) : Dm := if ftE d = 0 then d else []
/-- A set and an error. -/
def DePost (w : World) (d : Dm) (z : Int) (e : Ending) (w' : World) : Prop := ∃ v, e = .returned (.tuple #[v, .int .i64 z]) ∧ DmV w' d v ∧ Below w.heap.size w w'
theorem DmV.nil (w : World) : DmV w [] (.slice none 0 0) := ⟨none, 0, rfl, Nat.le_refl _, by omega, DmB.nil _ _⟩
theorem fits_any {w : World} {d : Dm} {a : Option Addr} {n c : Nat} (h : DmS w d a n c) : Calls Tryz.prog 41 #[.slice a n c] w (DePost w (ftD d) (ftE d)) := by
  have HL := Lib.hid h.len
  have c1 := h.cap; have c2 := h.le
  by_cases h0 : n = 0
  · have E : Hid (ftE d = 15 ∧ ftD d = []) := by
      have e : ftE d = 15 := if_pos (by rw [HL.out]; exact h0)
      exact ⟨e, if_neg (by rw [e]; decide)⟩
    clear h
    subst h0
    go_enter Tryz.func41, Tryz.ntmps41
    go_wp2_with fail
    refine bodyPost_ret (v := .tuple #[.slice none 0 0, .int .i64 15]) (by simp [results, Tryz.results41, go_sem]) rfl ?_
    exact ⟨_, by rw [E.out.1], by rw [E.out.2]; exact DmV.nil _, Below.refl _ _⟩
  · have n0 : ((n : Int) == 0) = false := by simp; omega
    by_cases h2 : 256 < n
    · have E : Hid (ftE d = 3 ∧ ftD d = []) := by
        have e : ftE d = 3 := by unfold ftE; rw [if_neg (by rw [HL.out]; exact h0), if_pos (by rw [HL.out]; exact h2)]
        exact ⟨e, if_neg (by rw [e]; decide)⟩
      have h3 : (256 : Int) < (n : Int) := by omega
      clear h
      go_enter Tryz.func41, Tryz.ntmps41
      go_wp2_with fail
      refine bodyPost_ret (v := .tuple #[.slice none 0 0, .int .i64 3]) (by simp [results, Tryz.results41, go_sem]) rfl ?_
      exact ⟨_, by rw [E.out.1], by rw [E.out.2]; exact DmV.nil _, Below.refl _ _⟩
    · have E : Hid (ftE d = 0 ∧ ftD d = d) := by
        have e : ftE d = 0 := by unfold ftE; rw [if_neg (by rw [HL.out]; exact h0), if_neg (by rw [HL.out]; exact h2)]
        exact ⟨e, if_pos e⟩
      have h3 : (n : Int) ≤ 256 := by omega
      have C := Lib.hid (cloneD_any h (by omega))
      clear h
      go_enter Tryz.func41, Tryz.ntmps41
      go_wp2_with (go_at_call 67; refine C.out.mono ?_; rintro e w2 ⟨v, rfl, hv, hb⟩; have HV := Lib.hid hv; have B2 := Lib.hid hb; clear hv hb)
      refine bodyPost_ret (v := .tuple #[v, .int .i64 0]) (by simp [results, Tryz.results41, go_sem]) rfl ?_
      exact ⟨_, by rw [E.out.1], by rw [E.out.2]; exact HV.out, B2.out⟩
end Go.Proofs.YteiohgiecpibhaaGreat
set_option linter.unusedVariables false
set_option linter.unusedSimpArgs false
set_option maxRecDepth 100000
set_option maxHeartbeats 4000000
namespace Go.Proofs.YteiohgiecpibhaaGreat
open Go.RowKit Fdm

/-- The marked ones of the first i places, as numbers. -/
def mkI (l : List Bool) (i : Nat) : List Int := ((List.range i).filter fun j => l.getD j false).map fun (j : Nat) => (j : Int) - 16384
theorem mkI_next (l : List Bool) (i : Nat) : mkI l (i + 1) = if l.getD i false = true then mkI l i ++ [(i : Int) - 16384] else mkI l i := by
  unfold mkI
  rw [List.range_succ, List.filter_append]
  cases h : l.getD i false
  · simp [List.filter_cons, List.filter_nil]
    rw [List.getD_eq_getElem?_getD] at h; exact h
  · rw [if_pos rfl, List.map_append]
    congr 1
    simp only [List.filter_cons, List.filter_nil, h]
    rfl
theorem mkI_len (l : List Bool) (i : Nat) : (mkI l i).length ≤ i := by
  unfold mkI; rw [List.length_map]; exact Nat.le_trans (List.length_filter_le _ _) (by simp)
/-- The mark of a number. -/
def mkP (l : List Bool) (v : Int) : Bool := l.getD (v + 16384).toNat false
theorem mkI_all_of (l : List Bool) : ∀ n, mkI l n = ((List.range n).map fun (j : Nat) => (j : Int) - 16384).filter (mkP l) := by
  intro n
  unfold mkI
  rw [List.filter_map]
  congr 1
  refine List.filter_congr fun j _ => ?_
  show _ = mkP l _
  unfold mkP
  rw [show ((j : Int) - 16384 + 16384).toNat = j from by omega]
theorem mkI_all (l : List Bool) (n : Nat) (hn : n = 32769) : spnF (mkI l n) = pkF (mkP l) := by
  rw [mkI_all_of]; unfold pkF rng; rw [hn]
theorem mkI_up (l : List Bool) (n : Nat) : List.Pairwise (· < ·) (mkI l n) := by
  unfold mkI
  rw [List.pairwise_map]
  exact (List.pairwise_lt_range.filter _).imp fun h => by omega
theorem mkI_in {l : List Bool} {n : Nat} (hn : n ≤ 32769) : ∀ v ∈ mkI l n, -16384 ≤ v ∧ v ≤ 16384 := fun v hv => by
  unfold mkI at hv
  obtain ⟨j, hj, rfl⟩ := List.mem_map.1 hv
  have := List.mem_range.1 (List.mem_filter.1 hj).1
  omega
def PcL (w : World) (l : List Bool) (v4 v5 : Value) (wr : World) : Prop := ∃ i : Nat, i ≤ l.length ∧ v5 = .int .i64 (i : Int) ∧ InO wr w.heap.size v4 (mkI l i) ∧ Below w.heap.size w wr
theorem picked43_any {w : World} {g n : Nat} {l : List Bool} (h : BoF w g l) (hn : l.length = n) (h2 : n = 32769) : Calls Tryz.prog 43 #[.slice (some ⟨g, 0, none⟩) n n] w (DePost w (ftD (pkF (mkP l))) (ftE (pkF (mkP l)))) := by
  have H := Lib.hid h; have HN := Lib.hid hn
  have PK := Lib.hid (mkI_all l n h2)
  have nb : n ≤ 32769 := by omega
  clear h hn h2
  go_enter Tryz.func43, Tryz.ntmps43
  go_wp2_with fail
  go_loopw [4, 5] (fun v4 v5 wr => PcL w l v4 v5 wr) (fun _ v5 _ => n - (intOf v5).toNat)
  case atStart => exact ⟨0, Nat.zero_le _, rfl, InO.nil _ _, Below.refl _ _⟩
  obtain ⟨i, hi, rfl, hO, hBr⟩ := hrel
  have BR := Lib.hid hBr; have O := Lib.hid hO
  rw [HN.out] at hi
  clear hBr hO
  by_cases hlt : i < n
  · have hlt' : (i : Int) < (n : Int) := by omega
    have NX := Lib.hid (mkI_next l i)
    have ML := Lib.hid (mkI_len l i)
    have c0 := cell_later BR.out (Nat.le_refl _) (H.out.cs i (by rw [HN.out]; exact hlt))
    cases hb : l.getD i false with
    | false =>
      rw [hb] at c0 NX
      go_wp2_with fail
      go_roundw
      case rel => exact ⟨i + 1, by rw [HN.out]; omega, by go_num, by rw [NX.out, if_neg (by simp)]; exact O.out, BR.out⟩
      simp [intOf]; omega
    | true =>
      rw [hb] at c0 NX
      have wi : IntKind.i64.wrap ((i : Int) - 16384) = (i : Int) - 16384 := wrap_in (by omega) (by omega)
      go_wp2_with (at_builtin; refine wpList_pushI rfl _ _ rfl w.heap.size wr u4 (mkI l i) ((i : Int) - 16384) rfl rfl rfl O.out BR.out.size (by have := ML.out; omega) ?_; intro v4 w2 hO2 hB2 _; have O2 := Lib.hid hO2; have B2 := Lib.hid (BR.out.trans hB2); clear hO2 hB2)
      go_roundw
      case rel => exact ⟨i + 1, by rw [HN.out]; omega, by go_num, by rw [NX.out, if_pos rfl]; exact O2.out, B2.out⟩
      simp [intOf]; omega
  · obtain rfl : n = i := by omega
    obtain ⟨a, c, e, l1, l2, l3⟩ := O.out.v.ex
    subst e
    have ML := Lib.hid (mkI_len l n)
    obtain ⟨m, hm⟩ : ∃ m, (mkI l n).length = m := ⟨_, rfl⟩
    have SP := Lib.hid (spans_any l3.a hm (by rw [← hm]; exact l1) l2 (mkI_up l n) (mkI_in nb) (by have := ML.out; omega))
    rw [PK.out] at SP
    rw [hm] at l1
    have PL : Hid ((pkF (mkP l)).length ≤ n) := Lib.hid (by rw [← PK.out]; exact Nat.le_trans (spn_len _) (mkI_len _ _))
    rw [hm]
    clear l3 O hm ML
    obtain ⟨P, hP⟩ : ∃ P, pkF (mkP l) = P := ⟨_, rfl⟩
    have PH := Lib.hid hP
    rw [hP] at SP PL
    obtain ⟨pn, hpn⟩ : ∃ pn, P.length = pn := ⟨_, rfl⟩
    rw [hpn] at PL
    have PN := Lib.hid hpn
    have plt := PL.out
    clear hpn hP PK
    by_cases h0 : pn = 0
    · have E : Hid (ftE P = 15 ∧ ftD P = []) := by
        have e : ftE P = 15 := if_pos (by rw [PN.out]; exact h0)
        exact ⟨e, if_neg (by rw [e]; decide)⟩
      subst h0
      go_wp2_with (go_at_call 73; refine SP.out.mono ?_; rintro e w2 ⟨v, rfl, hv, hb⟩; obtain ⟨pa, pc, rfl, -⟩ := hv.ex; rw [PN.out]; have B2 := Lib.hid (over BR.out hb); clear hv hb)
      refine bodyPost_ret (v := .tuple #[.slice none 0 0, .int .i64 15]) (by simp [results, Tryz.results43, go_sem]) rfl ?_
      exact ⟨_, by rw [PH.out, E.out.1], by rw [PH.out, E.out.2]; exact DmV.nil _, B2.out⟩
    · have n0 : ((pn : Int) == 0) = false := by simp; omega
      by_cases h3 : 256 < pn
      · have E : Hid (ftE P = 3 ∧ ftD P = []) := by
          have e : ftE P = 3 := by unfold ftE; rw [if_neg (by rw [PN.out]; exact h0), if_pos (by rw [PN.out]; exact h3)]
          exact ⟨e, if_neg (by rw [e]; decide)⟩
        have h4 : (256 : Int) < (pn : Int) := by omega
        go_wp2_with (go_at_call 73; refine SP.out.mono ?_; rintro e w2 ⟨v, rfl, hv, hb⟩; obtain ⟨pa, pc, rfl, -⟩ := hv.ex; rw [PN.out]; have B2 := Lib.hid (over BR.out hb); clear hv hb)
        refine bodyPost_ret (v := .tuple #[.slice none 0 0, .int .i64 3]) (by simp [results, Tryz.results43, go_sem]) rfl ?_
        exact ⟨_, by rw [PH.out, E.out.1], by rw [PH.out, E.out.2]; exact DmV.nil _, B2.out⟩
      · have E : Hid (ftE P = 0 ∧ ftD P = P) := by
          have e : ftE P = 0 := by unfold ftE; rw [if_neg (by rw [PN.out]; exact h0), if_neg (by rw [PN.out]; exact h3)]
          exact ⟨e, if_pos e⟩
        have h4 : (pn : Int) ≤ 256 := by omega
        go_wp2_with (go_at_call 73; refine SP.out.mono ?_; rintro e w2 ⟨v, rfl, hv, hb⟩; have HV := Lib.hid hv; obtain ⟨pa, pc, rfl, -⟩ := hv.ex; rw [PN.out] at HV ⊢; have B2 := Lib.hid (over BR.out hb); clear hv hb)
        refine bodyPost_ret (v := .tuple #[.slice pa pn pc, .int .i64 0]) (by simp [results, Tryz.results43, go_sem]) rfl ?_
        exact ⟨_, by rw [PH.out, E.out.1], by rw [PH.out, E.out.2]; exact HV.out, B2.out⟩
end Go.Proofs.YteiohgiecpibhaaGreat
set_option linter.unusedVariables false
set_option linter.unusedSimpArgs false
set_option maxRecDepth 100000
set_option maxHeartbeats 4000000
namespace Go.Proofs.YteiohgiecpibhaaGreat
open Go.RowKit Fdm

theorem size20_any {w : World} {d : Dm} {a : Option Addr} {n c : Nat} (h : DmS w d a n c) : Calls Tryz.prog 20 #[.slice a n c] w fun e w' => e = .returned (.tuple #[.int .i64 (if chkD d = 0 then sizeF d else 0), .int .i64 (chkD d)]) ∧ Below w.heap.size w w' := by
  have CK := Lib.hid (check_any h)
  by_cases h0 : chkD d = 0
  · have SZ := Lib.hid (fun w' (hb : Below w.heap.size w w') => size_any (h.below hb) (ok_of_chk h0).1)
    have E : Hid ((if chkD d = 0 then sizeF d else 0) = sizeF d) := Lib.hid (if_pos h0)
    have E2 := Lib.hid h0
    rw [h0] at CK
    rw [E.out, h0]
    clear h h0
    go_enter Tryz.func20, Tryz.ntmps20
    go_wp2_with (first
      | (go_at_call 12; refine CK.out.mono ?_; rintro e w2 ⟨rfl, hb⟩; have B2 := Lib.hid hb; clear hb)
      | (go_at_call 44; refine (SZ.out _ B2.out).mono ?_; rintro e w3 ⟨rfl, hb⟩; have B3 := Lib.hid (over B2.out hb); clear hb))
    refine bodyPost_ret (v := .tuple #[.int .i64 (sizeF d), .int .i64 0]) (by simp [results, Tryz.results20, go_sem]) rfl ?_
    exact ⟨rfl, B3.out⟩
  · have E : Hid ((if chkD d = 0 then sizeF d else 0) = 0) := Lib.hid (if_neg h0)
    rw [E.out]
    obtain ⟨z, hz⟩ : ∃ z, chkD d = z := ⟨_, rfl⟩
    rw [hz] at CK h0 ⊢
    have z0 : (z != 0) = true := by simp [h0]
    clear h E hz
    go_enter Tryz.func20, Tryz.ntmps20
    go_wp2_with (go_at_call 12; refine CK.out.mono ?_; rintro e w2 ⟨rfl, hb⟩; have B2 := Lib.hid hb; clear hb)
    refine bodyPost_ret (v := .tuple #[.int .i64 0, .int .i64 z]) (by simp [results, Tryz.results20, go_sem]) rfl ?_
    exact ⟨rfl, B2.out⟩
theorem has21_any {w : World} {d : Dm} {a : Option Addr} {n c : Nat} (v : Int) (h : DmS w d a n c) : Calls Tryz.prog 21 #[.slice a n c, .int .i64 v] w fun e w' => e = .returned (.tuple #[.bool (decide (chkD d = 0) && memF d v), .int .i64 (chkD d)]) ∧ Below w.heap.size w w' := by
  have CK := Lib.hid (check_any h)
  by_cases h0 : chkD d = 0
  · have HS := Lib.hid (fun w' (hb : Below w.heap.size w w') => has_any (v := v) (h.below hb) (ok_of_chk h0).1 (by have := (ok_of_chk h0).2.1; have := h.len; omega))
    have E : Hid ((decide (chkD d = 0) && memF d v) = memF d v) := Lib.hid (by simp [h0])
    rw [h0] at CK
    rw [E.out, h0]
    clear h h0
    obtain ⟨z, hz⟩ : ∃ z, memF d v = z := ⟨_, rfl⟩
    rw [hz] at HS ⊢
    clear E hz
    go_enter Tryz.func21, Tryz.ntmps21
    go_wp2_with (first
      | (go_at_call 12; refine CK.out.mono ?_; rintro e w2 ⟨rfl, hb⟩; have B2 := Lib.hid hb; clear hb)
      | (go_at_call 45; refine (HS.out _ B2.out).mono ?_; rintro e w3 ⟨rfl, hb⟩; have B3 := Lib.hid (over B2.out hb); clear hb))
    refine bodyPost_ret (v := .tuple #[.bool z, .int .i64 0]) (by simp [results, Tryz.results21, go_sem]) rfl ?_
    exact ⟨rfl, B3.out⟩
  · have E : Hid ((decide (chkD d = 0) && memF d v) = false) := Lib.hid (by simp [h0])
    rw [E.out]
    obtain ⟨z, hz⟩ : ∃ z, chkD d = z := ⟨_, rfl⟩
    rw [hz] at CK h0 ⊢
    have z0 : (z != 0) = true := by simp [h0]
    clear h E hz
    go_enter Tryz.func21, Tryz.ntmps21
    go_wp2_with (go_at_call 12; refine CK.out.mono ?_; rintro e w2 ⟨rfl, hb⟩; have B2 := Lib.hid hb; clear hb)
    refine bodyPost_ret (v := .tuple #[.bool false, .int .i64 z]) (by simp [results, Tryz.results21, go_sem]) rfl ?_
    exact ⟨rfl, B2.out⟩
/-- The numbers of the first spans. -/
def upJ (s : Sp) (j : Nat) : List Int := (List.range j).map fun (i : Nat) => s.1 + (i : Int)
theorem upJ_next (s : Sp) (j : Nat) : upJ s (j + 1) = upJ s j ++ [s.1 + (j : Int)] := by simp [upJ, List.range_succ]
theorem vals_take {d : Dm} {k : Nat} (h : k < d.length) : valsF (d.take (k + 1)) = valsF (d.take k) ++ upTo (sp d k) := by
  rw [List.take_add_one, List.getElem?_eq_getElem h]
  simp only [valsF, Option.toList, List.flatMap_append, List.flatMap_cons, List.flatMap_nil, List.append_nil]
  congr 2
  unfold sp; rw [List.getD_eq_getElem?_getD, List.getElem?_eq_getElem h]; rfl
theorem vals_take_len {d : Dm} (ok : Ok d) : ∀ k, k ≤ d.length → ((valsF (d.take k)).length : Int) = sizeTo d k
  | 0, _ => rfl
  | k + 1, hk => by
    have ih := vals_take_len ok k (by omega)
    have z := spanF_zero (ok k (by omega))
    rw [vals_take (by omega), sizeTo_next (by omega), List.length_append, Int.natCast_add, ih]
    simp [upTo]
    omega
def VoL (w : World) (d : Dm) (v3 v4 : Value) (wr : World) : Prop := ∃ i : Nat, i ≤ d.length ∧ v4 = .int .i64 (i : Int) ∧ InO wr w.heap.size v3 (valsF (d.take i)) ∧ Below w.heap.size w wr
def ViL (w : World) (d : Dm) (i : Nat) (s : Sp) (m : Nat) (v3 v5 : Value) (wr : World) : Prop := ∃ j : Nat, j ≤ m ∧ v5 = .int .i64 (s.1 + (j : Int)) ∧ InO wr w.heap.size v3 (valsF (d.take i) ++ upJ s j) ∧ Below w.heap.size w wr
theorem values_any {w : World} {d : Dm} {a : Option Addr} {n c : Nat} (h : DmS w d a n c) (ok : Ok d) : Calls Tryz.prog 22 #[.slice a n c] w fun e w' => ∃ v, e = .returned v ∧ InV w' (valsF d) v ∧ Below w.heap.size w w' := by
  have H := Lib.hid h; have HN := Lib.hid h.len; have OK := Lib.hid ok
  have c1 := h.cap; have c2 := h.le
  clear h ok
  go_enter Tryz.func22, Tryz.ntmps22
  go_wp2_with fail
  go_loopw [3, 4] (fun v3 v4 wr => VoL w d v3 v4 wr) (fun _ v4 _ => n - (intOf v4).toNat)
  case atStart => exact ⟨0, Nat.zero_le _, rfl, InO.nil _ _, Below.refl _ _⟩
  obtain ⟨i, hi, rfl, hO, hBr⟩ := hrel
  have BR := Lib.hid hBr; have O := Lib.hid hO
  rw [HN.out] at hi
  clear hBr hO
  by_cases hlt : i < n
  · have hlt' : (i : Int) < (n : Int) := by omega
    obtain ⟨g, o, rfl, dd⟩ := H.out.read (by omega)
    obtain ⟨q0, q1⟩ := dd i hlt
    have Q1 := Lib.hid q1
    clear dd
    have z := spanF_zero (OK.out i (by rw [HN.out]; exact hlt))
    have VL := vals_take_len OK.out i (by rw [HN.out]; omega)
    have SZ := (ok_sizeTo OK.out i (by rw [HN.out]; omega))
    have VLB : Hid ((valsF (d.take i)).length ≤ 40000) := Lib.hid (by
      rcases Nat.eq_zero_or_pos i with e | e
      · subst e; simp [valsF]
      · have q := SZ.2 e
        have z2 := spanF_zero (OK.out (i - 1) (by rw [HN.out]; omega))
        omega)
    have NX := Lib.hid (vals_take (d := d) (k := i) (by rw [HN.out]; exact hlt))
    obtain ⟨s, hs⟩ : ∃ s, sp d i = s := ⟨_, rfl⟩
    rw [hs] at q0 Q1 z NX
    have q1 := Q1.out
    obtain ⟨m, hm⟩ : ∃ m, (s.2 - s.1 + 1).toNat = m := ⟨_, rfl⟩
    have UM : Hid (upTo s = upJ s m) := Lib.hid (by unfold upTo upJ; rw [hm])
    obtain ⟨x, hx⟩ : ∃ x, s.1 = x := ⟨_, rfl⟩
    obtain ⟨y, hy⟩ : ∃ y, s.2 = y := ⟨_, rfl⟩
    have z1 : -16384 ≤ x := by rw [← hx]; exact z.1
    have z2 : y ≤ 16384 := by rw [← hy]; exact z.2.1
    have z3 : x ≤ y := by rw [← hx, ← hy]; exact z.2.2.1
    rw [hx, hy] at hm
    rw [hx] at q0
    rw [hy] at q1
    have HX := Lib.hid hx
    have p0 := cell_later BR.out (Nat.le_refl _) q0
    have P1 := Lib.hid q1
    clear q0 q1 Q1 z VL SZ hs hx hy
    go_wp2_with fail
    go_loopw [3, 5] (fun v3 v5 wr => ViL w d i s m v3 v5 wr) (fun _ v5 _ => (y + 1 - intOf v5).toNat)
    case atStart => exact ⟨0, Nat.zero_le _, by rw [HX.out]; simp, by simpa [upJ] using O.out, BR.out⟩
    case round =>
      clear p0 O BR
      obtain ⟨j, hj, rfl, hO, hBr⟩ := hrel
      have BR := Lib.hid hBr; have O := Lib.hid hO
      have JN := Lib.hid (upJ_next s j)
      rw [HX.out] at JN ⊢
      have p1 := cell_later BR.out (Nat.le_refl _) P1.out
      clear hBr hO
      by_cases hjm : j < m
      · have hle : x + (j : Int) ≤ y := by omega
        have wj : IntKind.i64.wrap (x + (j : Int) + 1) = x + (j : Int) + 1 := wrap_in (by omega) (by omega)
        have JL : Hid ((valsF (d.take i) ++ upJ s j).length ≤ 100000) := Lib.hid (by rw [List.length_append]; have := VLB.out; simp [upJ]; omega)
        go_wp2_with (at_builtin; refine wpList_pushI rfl _ _ rfl w.heap.size wr _ (valsF (d.take i) ++ upJ s j) (x + (j : Int)) rfl rfl rfl O.out BR.out.size (by have := JL.out; omega) ?_; intro v3 w2 hO2 hB2 _; have O2 := Lib.hid hO2; have B2 := Lib.hid (BR.out.trans hB2); clear hO2 hB2)
        go_roundw
        case rel => exact ⟨j + 1, by omega, by rw [HX.out]; go_num, by rw [JN.out, ← List.append_assoc]; exact O2.out, B2.out⟩
        simp [intOf]; omega
      · obtain rfl : j = m := by omega
        have hgt : y < x + (j : Int) := by omega
        go_wp2_with fail
        go_roundw
        case rel => exact ⟨i + 1, by rw [HN.out]; omega, by go_num, by rw [NX.out, UM.out]; exact O.out, BR.out⟩
        simp [intOf]; omega
  · obtain rfl : n = i := by omega
    have E : Hid (d.take n = d) := Lib.hid (List.take_of_length_le (by rw [HN.out]; exact Nat.le_refl _))
    have OV := Lib.hid (by have := O.out.v; rw [E.out] at this; exact this)
    go_wp2_with fail
    go_ret
    exact ⟨_, rfl, OV.out, BR.out⟩
def HaL (w : World) (d : Dm) (v : Int) (v5 : Value) (wr : World) : Prop := ∃ k : Nat, k ≤ d.length ∧ v5 = .int .i64 (k : Int) ∧ (∀ t, t < k → ¬ ((sp d t).1 ≤ v ∧ v ≤ (sp d t).2)) ∧ wr = w
theorem has23_any {w : World} {d : Dm} {a : Option Addr} {n c : Nat} (v : Int) (h : DmS w d a n c) : Calls Tryz.prog 23 #[.slice a n c, .int .i64 v] w fun e w' => e = .returned (.bool (memF d v)) ∧ w' = w := by
  have H := Lib.hid h; have HN := Lib.hid h.len
  have c1 := h.cap; have c2 := h.le
  clear h
  go_enter Tryz.func23, Tryz.ntmps23
  go_wp2_with fail
  go_loopw [5] (fun v5 wr => HaL w d v v5 wr) (fun v5 _ => n - (intOf v5).toNat)
  case atStart => exact ⟨0, Nat.zero_le _, rfl, fun t ht => absurd ht (Nat.not_lt_zero _), rfl⟩
  obtain ⟨k, hk, rfl, hA, rfl⟩ := hrel
  have A := Lib.hid hA
  rw [HN.out] at hk
  clear hA
  by_cases hlt : k < n
  · have hlt' : (k : Int) < (n : Int) := by omega
    obtain ⟨g, o, rfl, dd⟩ := H.out.read (by omega)
    obtain ⟨p0, p1⟩ := dd k hlt
    clear dd
    have LK : Hid (k < d.length) := Lib.hid (by rw [HN.out]; exact hlt)
    obtain ⟨x, hx⟩ : ∃ x, (sp d k).1 = x := ⟨_, rfl⟩
    obtain ⟨y, hy⟩ : ∃ y, (sp d k).2 = y := ⟨_, rfl⟩
    rw [hx] at p0
    rw [hy] at p1
    have HX := Lib.hid hx; have HY := Lib.hid hy
    clear hx hy
    by_cases q : x ≤ v ∧ v ≤ y
    · obtain ⟨q1, q2⟩ := q
      have E : Hid (memF d v = true) := Lib.hid (mem_at.2 ⟨k, LK.out, by rw [HX.out]; exact q1, by rw [HY.out]; exact q2⟩)
      go_wp2_with fail
      go_ret
      exact ⟨by rw [E.out]; rfl, rfl⟩
    · have NA : Hid (∀ t, t < k + 1 → ¬ ((sp d t).1 ≤ v ∧ v ≤ (sp d t).2)) := Lib.hid fun t ht => by
        by_cases e : t = k
        · subst e; rw [HX.out, HY.out]; exact q
        · exact A.out t (by omega)
      by_cases q1 : x ≤ v
      · have q2 : y < v := by omega
        have q3 : decide (v ≤ y) = false := by simp; omega
        clear q
        go_wp2_with fail
        go_roundw
        case rel => exact ⟨k + 1, by rw [HN.out]; omega, by go_num, NA.out, rfl⟩
        simp [intOf]; omega
      · have q2 : v < x := by omega
        clear q q1
        go_wp2_with fail
        go_roundw
        case rel => exact ⟨k + 1, by rw [HN.out]; omega, by go_num, NA.out, rfl⟩
        simp [intOf]; omega
  · obtain rfl : n = k := by omega
    have E : Hid (memF d v = false) := Lib.hid (by
      rw [← Bool.not_eq_true]
      intro q
      obtain ⟨t, ht, h1⟩ := mem_at.1 q
      exact A.out t (by rw [← HN.out]; exact ht) h1)
    go_wp2_with fail
    go_ret
    exact ⟨by rw [E.out]; rfl, rfl⟩
end Go.Proofs.YteiohgiecpibhaaGreat
