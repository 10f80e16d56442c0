/- different, of two variables: what follows the first loop. -/
import Derived.Test.YteiohgiecpibhaaGreatMP
import Derived.Test.YteiohgiecpibhaaGreatMB
set_option linter.unusedVariables false
set_option linter.unusedSimpArgs false
set_option maxRecDepth 100000
set_option maxHeartbeats 4000000
namespace Go.Proofs.YteiohgiecpibhaaGreat
open Go.RowKit Go.Shelf Fdm

def tailC : Nat → Code → Code
  | 0, c => c
  | n + 1, .seq _ b => tailC n b
  | _ + 1, c => c
def restC (f : Func) (n : Nat) : Code := match f.body with | some c => tailC n c | none => .skip
theorem isort_mem {l : List Int} {v : Int} (h : v ∈ isort l) : v ∈ l := by
  induction l with
  | nil => simp [isort] at h
  | cons x l ih =>
    have h : v ∈ ((isort l).takeWhile (· < x)) ++ x :: (isort l).dropWhile (· < x) := h
    rcases List.mem_append.1 h with q | q
    · exact List.mem_cons_of_mem _ (ih ((List.takeWhile_sublist _).subset q))
    · rcases List.mem_cons.1 q with rfl | q
      · simp
      · exact List.mem_cons_of_mem _ (ih ((List.dropWhile_sublist _).subset q))
theorem ok_len {d : Dm} (h : Ok d) : d.length ≤ 20000 := by
  have key : ∀ k, k < d.length → -16384 + 2 * (k : Int) ≤ (sp d k).1 := by
    intro k
    induction k with
    | zero => intro hk; have := (spanF_zero (h 0 hk)).1; omega
    | succ k ih =>
      intro hk
      have a := ih (by omega)
      have b := spanF_zero (h k (by omega))
      have c := (spanF_zero (h (k + 1) hk)).2.2.2 (by omega)
      rw [Nat.add_sub_cancel] at c
      omega
  by_cases e : d.length = 0
  · omega
  · have a := key (d.length - 1) (by omega)
    have b := spanF_zero (h (d.length - 1) (by omega))
    omega
theorem ok_one {v : Int} (h1 : -16384 ≤ v) (h2 : v ≤ 16384) : Ok (spanD v v) := by
  have e : spanD v v = [(v, v)] := if_neg (by omega)
  rw [e]
  exact nr_ok ⟨h1, Int.le_refl _, trivial⟩ fun s hs => by simp at hs; subst hs; exact h2
/-- The fold, number by number. -/
def outTo (x : List Dm) (i : Nat) (cr : List Int) : Dm := cr.foldl (fun o v => if memF (dm x i) v && !freeF x i v then minusF o (spanD v v) else o) (dm x i)
theorem outTo_next (x : List Dm) (i : Nat) {cr : List Int} {j : Nat} (h : j < cr.length) : outTo x i (cr.take (j + 1)) = if (memF (dm x i) (cr.getD j 0) && !freeF x i (cr.getD j 0)) = true then minusF (outTo x i (cr.take j)) (spanD (cr.getD j 0) (cr.getD j 0)) else outTo x i (cr.take j) := by
  unfold outTo
  rw [List.take_add_one, List.getElem?_eq_getElem h, List.getD_eq_getElem?_getD, List.getElem?_eq_getElem h]
  simp only [Option.toList, List.foldl_append, List.foldl_cons, List.foldl_nil, Option.getD_some]
theorem outTo_ok {x : List Dm} {i : Nat} {cr : List Int} (h : Ok (dm x i)) (hc : ∀ v ∈ cr, -16384 ≤ v ∧ v ≤ 16384) : ∀ j, j ≤ cr.length → Ok (outTo x i (cr.take j))
  | 0, _ => h
  | j + 1, hj => by
    have ih := outTo_ok h hc j (by omega)
    rw [outTo_next x i (by omega)]
    have hv := hc (cr.getD j 0) (getD_mem (by omega))
    split
    · exact (minus_ok ih (ok_one hv.1 hv.2)).1
    · exact ih
theorem crit_in {D : List Dm} (hn : D.length = 2) (ok : okD D = true) : ∀ v ∈ isort (critF D), -16384 ≤ v ∧ v ≤ 16384 := fun v hv => by
  have h := isort_mem hv
  unfold critF at h
  obtain ⟨i, hi, rfl⟩ := List.mem_map.1 h
  obtain ⟨m1, m2⟩ := smallF_mem.1 hi
  have o := okD_at ok m1
  rw [hn] at m2
  exact (one_of o.2.2 (List.length_pos_iff.2 o.1) (by simpa using m2)).2
theorem difF_dm {D : List Dm} {i : Nat} (h : i < D.length) : dm (difF D) i = outTo D i (isort (critF D)) := by
  unfold difF dm
  rw [List.getD_eq_getElem?_getD, List.getElem?_map, List.getElem?_range h]; rfl
/-- All blocks below k but one stay. -/
def Kb (k b6 : Nat) (w w' : World) : Prop := ∀ b, b < k → b ≠ b6 → w'.heap[b]? = w.heap[b]?
theorem InA.kb {w w' : World} {l : List Int} {la : Option Addr} {b6 : Nat} {t : TypeId} (h : InA w l la) (k : Kb w.heap.size b6 w w') (hb : w.heap[b6]? = some (.cells #[.slice none 0 0] t (0, 0)) ∨ ∃ a n c, w.heap[b6]? = some (.cells #[.slice a n c] t (0, 0))) : InA w' l la := fun hne => by
  obtain ⟨g, o, e, q⟩ := h hne
  refine ⟨g, o, e, fun i hi => ?_⟩
  have hc := q i hi
  refine (cells_same (k g (lt_of_cell hc) ?_) _).trans hc
  rintro rfl
  rcases hb with hb | ⟨a, n, c, hb⟩
  · rw [cell_of_row _ _ _ _ _ _ hb] at hc
    rcases hx : o + i with _ | j
    · rw [hx] at hc; simp at hc
    · rw [hx] at hc; simp at hc
  · rw [cell_of_row _ _ _ _ _ _ hb] at hc
    rcases hx : o + i with _ | j
    · rw [hx] at hc; simp at hc
    · rw [hx] at hc; simp at hc
theorem DsG.made2 {w : World} {base g : Nat} (h : w.ownsRow base 23 1 (.slice (some ⟨g, 0, none⟩) 2 2) 2 (madeCells (Value.slice none 0 0).cells (2 * 1)).toList) : DsG w g [[], []] ∧ base ≤ g := by
  obtain ⟨F, b⟩ := DsF.made (f := fun _ => []) h
  refine ⟨⟨F.blk, fun i hi => ⟨.slice none 0 0, ?_, ?_⟩⟩, b⟩
  · rw [h.cellAt i (by simpa using hi), show (madeCells (Value.slice none 0 0).cells (2 * 1)).toList = List.replicate 2 (.slice none 0 0) from toList_madeCells_one _ _]
    obtain rfl | rfl : i = 0 ∨ i = 1 := by simp at hi; omega
    · rfl
    · rfl
  · have e : dm [[], []] i = [] := by
      obtain rfl | rfl : i = 0 ∨ i = 1 := by simp at hi; omega
      · rfl
      · rfl
    rw [e]
    exact ⟨none, 0, rfl, Nat.le_refl _, by omega, DmB.nil _ _⟩
theorem kb_of {w w' : World} {b6 : Nat} (h : Below w.heap.size w w') : Kb w.heap.size b6 w w' := fun b hb _ => h.block b hb
theorem dm_set_ne {X : List Dm} {i t : Nat} (d : Dm) (h : t ≠ i) : dm (X.set i d) t = dm X t := by simp [dm, List.getD_eq_getElem?_getD, List.getElem?_set_ne (Ne.symm h)]
theorem dm_set_eq {X : List Dm} {i : Nat} (d : Dm) (h : i < X.length) : dm (X.set i d) i = d := by simp [dm, List.getD_eq_getElem?_getD, h]
/-- What the last loop keeps: the list that is being made. -/
structure Ou (W2 : World) (g : Nat) (D : List Dm) (i : Nat) (f : Dm) (wr : World) : Prop where
  X : ∃ X : List Dm, X.length = 2 ∧ DsG wr g X ∧ (∀ t, t < i → dm X t = dm (difF D) t) ∧ (i < 2 → f = [] ∨ dm X i = f)
  but : But g W2 wr
/-- Left by a return alone. -/
def RetO (KK : Act → World → Prop) : Exit → Act → World → Prop
  | .ret, a, w => KK a w
  | _, _, _ => False
theorem diff_rest {w W : World} {D : List Dm} {a la : Option Addr} {c0 ln lc b6 sn sc : Nat} {sa : Option Addr} {cl : List Int} {ds : List Deferred} {KK : Act → World → Prop} {u0 u2 u3 u4 u7 u8 u9 u10 u11 u12 u13 u14 u15 u16 u17 u18 u19 u20 u21 u22 u23 u24 u25 u26 u27 u28 u29 u30 u31 u32 u33 u34 u35 u36 u37 u38 u39 u40 u41 u42 u43 u44 u45 u46 u47 u48 u49 u50 u51 u52 u53 u54 u55 u56 u57 u58 u59 u60 u61 u62 u63 u64 u65 u66 u67 u68 u69 u70 u71 u72 u73 u74 u75 u76 u77 u78 u79 u80 u81 u82 u83 u84 u85 u86 u87 u88 u89 u90 u91 u92 : Value}
    (hD : DsA w D a) (hn : D.length = 2) (hc : 2 ≤ c0) (hc2 : c0 ≤ 9223372036854775807) (hok : okD D = true) (S : Sml D (smallI D) 2) (hB : Below w.heap.size w W) (hb6 : w.heap.size ≤ b6)
    (hbox : W.heap[b6]? = some (.cells #[.slice sa sn sc] 30 (0, 0))) (hI : Sv.Ints W.heap.size W (.slice sa sn sc) cl) (hcl : cl.length ≤ 2) (hcr : Lib.compact (srt cl) = isort (critF D))
    (hl : InA W (smallI D) la) (hll : (smallI D).length = ln) (hl1 : ln ≤ lc) (hl2 : lc ≤ 9223372036854775807)
    (hQ : ∀ tm v W', tm.getD 4 undef = v → DsW W' w.heap.size (difF D) v → Below w.heap.size w W' → Kb W.heap.size b6 W W' → KK ⟨tm, ds⟩ W') :
    (restC Tryz.f151 4).wp Tryz.prog (RetO KK) ⟨#[u0, .slice a 2 c0, u2, u3, u4, .slice la ln lc, .pointer (some ⟨b6, 0, none⟩), u7, u8, u9, u10, u11, u12, u13, u14, u15, u16, u17, u18, u19, u20, u21, u22, u23, u24, u25, u26, u27, u28, u29, u30, u31, u32, u33, u34, u35, u36, u37, u38, u39, u40, u41, u42, u43, u44, u45, u46, u47, u48, u49, u50, u51, u52, u53, u54, u55, u56, u57, u58, u59, u60, u61, u62, u63, u64, u65, u66, u67, u68, u69, u70, u71, u72, u73, u74, u75, u76, u77, u78, u79, u80, u81, u82, u83, u84, u85, u86, u87, u88, u89, u90, u91, u92], ds⟩ W := by
  rw [show restC Tryz.f151 4 = _ from by (simp only [restC, Tryz.f151, tailC]; rfl)]
  have HD := Lib.hid hD; have DN := Lib.hid hn; have OK := Lib.hid hok; have SS := Lib.hid S; have BW := Lib.hid hB; have BOX := Lib.hid hbox; have HI := Lib.hid hI; have HCL := Lib.hid hcl;  have HL := Lib.hid hl; have LL := Lib.hid hll; have HQ := Lib.hid hQ
  obtain ⟨cr, hcr0⟩ : ∃ cr, isort (critF D) = cr := ⟨_, rfl⟩
  obtain ⟨m, hm⟩ : ∃ m, cr.length = m := ⟨_, rfl⟩
  have CRI := Lib.hid (crit_in hn hok); have OK2 : Hid (∀ i, i < 2 → dm (difF D) i = outTo D i cr ∧ Ok (dm D i) ∧ (dm D i).length ≤ 1000) := Lib.hid fun i hi => ⟨by rw [difF_dm (by omega), hcr0], (okD_at hok (by omega)).2.2, (okD_at hok (by omega)).2.1⟩
  rw [hcr0] at hcr CRI
  have M := Lib.hid hm; have CR := Lib.hid hcr
  have ML : m ≤ 2 := by rw [← hm, ← hcr]; exact Nat.le_trans (Lib.compact_length_le _) (by rw [srt_len]; exact hcl)
  obtain ⟨gd, od, ea, dd⟩ := hD (by intro e; rw [e] at hn; simp at hn)
  subst ea
  have L6 := Lib.hid (Array.getElem?_eq_some_iff.1 hbox).1
  obtain ⟨i23, hi23, hz0, hz1, hz2⟩ := info_parts info23
  clear hD hn hok S hB hbox hI hcl hcr hl hll hQ hm hcr0
  go_upto_region 12 with fail
  go_upto_region 13 with (at_make; refine wpList_make_full _ rfl _ _ 28 rfl W.heap.size 23 i23 _ 1 Tryz.underlying28 hi23 hz0 hz1 .i64 .i64 _ _ 2 rfl rfl (by omega) (by omega) (by rw [hz2]; omega) (by unfold maxLen; omega) (Nat.le_refl _) ?_; intro W1 hown1 hg1; have OW1 := Lib.hid hown1; have B1 := Lib.hid (below_grown hg1); clear hown1 hg1)
  have G1 := Lib.hid (DsG.made2 OW1.out).1
  have BO0 : Hid (W.heap[b6]? = some (.cells #[.slice none 0 0] 30 (0, 0)) ∨ ∃ a n c, W.heap[b6]? = some (.cells #[.slice a n c] 30 (0, 0))) := Lib.hid (.inr ⟨_, _, _, BOX.out⟩)
  have MA : Hid (∀ W', Below w.heap.size w W' → Kb W.heap.size b6 W W' → ∀ but wo use, Calls Tryz.prog 168 #[.slice (some ⟨gd, od, none⟩) 2 c0, .slice la ln lc, .int .i64 but, .int .i64 wo, .bool use] W' fun e w' => e = .returned (.bool (okM D (smallI D) but wo use)) ∧ Below W'.heap.size W' w') :=
    fun W' h1 h2 but wo use => matched_any (HD.out.below h1) DN.out hc hc2 (HL.out.kb h2 BO0.out) LL.out hl1 hl2 SS.out
  have OF : Hid (okM D (smallI D) (-1) 0 false = true) := okM_first
  have M1 := Lib.hid (MA.out W1 (over BW.out B1.out) (kb_of B1.out) (-1) 0 false)
  go_wp2_with (go_at_call 168; refine M1.out.mono ?_; rw [OF.out]; rintro e W2 ⟨rfl, hb⟩; have B2 := Lib.hid (over B1.out hb); have G2 := Lib.hid (G1.out.below hb); have BX2 : W2.cell? ⟨b6, 0, none⟩ = some (.slice sa sn sc) := (by rw [cell_of_row _ _ _ _ _ _ ((B2.out.block _ L6.out).trans BOX.out)]; rfl); clear hb)
  have z2 := W2.heap.size
  obtain ⟨W3, hW3⟩ : ∃ W3, W2.alloc (.cells #[.slice sa sn sc] 30) = W3 := ⟨_, rfl⟩
  have q3 := heap_alloc_new W2 (.cells #[.slice sa sn sc] 30)
  have b3 := below_new W2 (.cells #[.slice sa sn sc] 30)
  have VA := Lib.hid (callsIn_wide.1 (Sv.values_in Fence.wide 1 trivial rfl sa sn sc W2))
  have z3 : Hid (W3.heap.size = W2.heap.size + 1) := by show _ = _; rw [← hW3]; simp
  rw [hW3] at q3 b3 VA
  have SO := Lib.hid (sorted_any (w := W3) (Bs := W2.heap.size) (sv := .slice sa sn sc) (zs := cl) (by have := HCL.out; omega) (by rw [z3.out]; omega) (by rw [cell_of_row _ _ _ _ _ _ q3]; rfl) (HI.out.below (n₀ := W.heap.size) (A := W) (B := W3) (B2.out.trans (b3.mono B2.out.size)) |> fun q => (by
    rcases q with q | ⟨b, off, cap, e, hb, hc⟩
    · exact .inl q
    · exact .inr ⟨b, off, cap, e, by have := B2.out.size; rw [z3.out]; omega, hc⟩)))
  have B3 := Lib.hid (B2.out.trans (b3.mono B2.out.size))
  have b23 := Lib.hid b3; have B1s := Lib.hid B1.out.size
  clear hW3 q3 b3
  go_upto_region 16 with (first | (go_at_call 72; refine VA.out.mono ?_; rintro e W3 ⟨rfl, rfl⟩) | (go_at_call 71; refine SO.out.mono ?_; rintro e W4 ⟨ta, tc, rfl, ow, hb⟩; have cp := compact_own2 ow (by have := HCL.out; omega) hb.size; rw [CR.out, M.out] at cp; have CP := Lib.hid cp; have B4 := Lib.hid (B3.out.trans (hb.mono B3.out.size)); have B34 := Lib.hid hb; clear ow hb cp) | (go_at_call 70; refine CP.out.mono ?_; rintro e W5 ⟨rfl, hin, hge, hb⟩; have IN5 := Lib.hid hin; have GE5 := Lib.hid hge; have B35 := Lib.hid (B34.out.trans hb); have B5 := Lib.hid (B4.out.trans (hb.mono B3.out.size)); clear hin hge hb; have r5 := (B5.out.block _ L6.out).trans BOX.out; have R5 := Lib.hid r5; have c5 : W5.cell? ⟨b6, 0, none⟩ = some (.slice sa sn sc) := (by rw [cell_of_row _ _ _ _ _ _ r5]; rfl); have f5 : W5.frozen? ⟨b6, 0, none⟩ = false := (by simp [World.frozen?, r5]); clear r5))
  obtain ⟨W6, hW6⟩ : ∃ W6, W5.setCell ⟨b6, 0, none⟩ (.slice ta m tc) = W6 := ⟨_, rfl⟩
  have T6 := Lib.hid (hW6 ▸ But.setCell b6 W5 0 (.slice ta m tc))
  have C6 : Hid (W6.cell? ⟨b6, 0, none⟩ = some (.slice ta m tc)) := by show _ = _; rw [← hW6]; exact World.cell?_setCell_same' _ _ _ (by rw [c5]; rfl)
  have B25 : Hid (Below W2.heap.size W2 W5) := Lib.hid (b23.out.trans (B35.out.mono (by rw [z3.out]; omega)))
  have G6 : Hid (DsG W6 W.heap.size [[], []]) := Lib.hid ((G2.out.below B25.out).kpx (T6.out.kpx ⟨_, R5.out⟩) (by decide) (by decide))
  have N6 : Hid (∀ b, ta.map (·.block) = some b → b ≠ b6 ∧ b ≠ W.heap.size) := Lib.hid fun b hb => by have := GE5.out b hb; have := z3.out; have := B2.out.size; have := L6.out; have := B1s.out; omega
  have IN6 : Hid (InA W6 cr ta) := Lib.hid fun hne => by
    obtain ⟨q1, q2, q3, q4⟩ := IN5.out hne
    subst q3
    exact ⟨q1, q2, rfl, fun i hi => (cells_same (T6.out.block _ (lt_of_cell (q4 i hi)) (N6.out q1 rfl).1) _).trans (q4 i hi)⟩
  have K6 : Hid (Kb W.heap.size b6 W W6) := Lib.hid fun b hb hne => (T6.out.block b (by have := B5.out.size; omega) hne).trans (B5.out.block b hb)
  have BW6 : Hid (Below w.heap.size w W6) := Lib.hid (T6.out.below hb6 (over BW.out B5.out).size (over BW.out B5.out))
  have LT6 : Hid (W.heap.size < W6.heap.size) := Lib.hid (G6.out.blk.lt)
  rw [hW6]
  clear hW6 c5 f5 BX2 VA SO CP
  go_wp2_with fail
  go_loopw [53] (fun v53 wr => ∃ i : Nat, i ≤ 2 ∧ v53 = .int .i64 (i : Int) ∧ ∃ X : List Dm, X.length = 2 ∧ DsG wr W.heap.size X ∧ (∀ t, t < i → dm X t = dm (difF D) t) ∧ But W.heap.size W6 wr) (fun v53 _ => 2 - (intOf v53).toNat)
  case atStart => exact ⟨0, Nat.zero_le _, rfl, [[], []], rfl, G6.out, fun t ht => absurd ht (Nat.not_lt_zero _), But.refl _ _⟩
  obtain ⟨i, hi, rfl, X, hX, hG, hE, hBt⟩ := hrel
  have XL := Lib.hid hX; have G := Lib.hid hG; have E := Lib.hid hE; have BT := Lib.hid hBt
  clear hX hG hE hBt
  by_cases hlt : i < 2
  · obtain ⟨u, cu, du⟩ := dd i (by rw [DN.out]; exact hlt)
    have hi2 : (i : Int) < 2 := by omega
    obtain ⟨da, dc, rfl, dms⟩ := du.s
    obtain ⟨dn, hdn⟩ : ∃ dn, (dm D i).length = dn := ⟨_, rfl⟩
    rw [hdn] at cu dms
    obtain ⟨o2, ok2, l2⟩ := OK2.out i hlt
    rw [hdn] at l2
    have GDL : Hid (gd < w.heap.size) := Lib.hid (lt_of_cell cu)
    have BWR : Hid (Below w.heap.size w wr) := Lib.hid (BT.out.below (BW.out.size) BW6.out.size BW6.out)
    have CU := Lib.hid (cell_later BWR.out (Nat.le_refl _) cu)
    obtain ⟨x0, p0, -⟩ := G.out.cs i (by rw [XL.out]; exact hlt)
    have fz := G.out.blk.free i
    have DV : Hid (DmV wr (dm D i) (.slice da dn dc)) := Lib.hid (by rw [← hdn]; exact du.below BWR.out)
    have G2 := Lib.hid (G.out.set (by rw [XL.out]; exact hlt) DV.out)
    have T2 := Lib.hid (BT.out.trans (But.setCell W.heap.size wr i (.slice da dn dc)))
    obtain ⟨w1, hw1⟩ : ∃ w1, wr.setCell ⟨W.heap.size, i, none⟩ (.slice da dn dc) = w1 := ⟨_, rfl⟩
    rw [hw1] at G2 T2
    have C7 : w1.cell? ⟨b6, 0, none⟩ = some (.slice ta m tc) := (cells_same (T2.out.block b6 (lt_of_cell C6.out) (by have := L6.out; omega)) _).trans C6.out
    have cu := CU.out
    have O2 := Lib.hid o2; have OKI := Lib.hid ok2; have DMS := Lib.hid dms
    clear dms du hdn o2 ok2 CU
    go_wp2_with fail
    go_loopw [64] (fun v64 wr => ∃ j : Nat, j ≤ m ∧ v64 = .int .i64 (j : Int) ∧ ∃ X : List Dm, X.length = 2 ∧ DsG wr W.heap.size X ∧ (∀ t, t < i → dm X t = dm (difF D) t) ∧ dm X i = outTo D i (cr.take j) ∧ But W.heap.size W6 wr) (fun v64 _ => m - (intOf v64).toNat)
    case atStart =>
      refine ⟨0, Nat.zero_le _, rfl, X.set i (dm D i), by rw [List.length_set]; exact XL.out, ?_, fun t ht => ?_, ?_, ?_⟩
      · first | exact G2.out | (rw [hw1]; exact G2.out)
      · rw [dm_set_ne _ (by omega)]; exact E.out t ht
      · exact dm_set_eq _ (by rw [XL.out]; exact hlt)
      · first | exact T2.out | (rw [hw1]; exact T2.out)
    case round =>
      clear XL G E BT G2 T2 DV p0 fz cu C7 hw1 BWR
      obtain ⟨j, hj, rfl, X2, hX, hG, hE, hF, hBt⟩ := hrel
      have XL := Lib.hid hX; have G := Lib.hid hG; have E := Lib.hid hE; have F := Lib.hid hF; have BT := Lib.hid hBt
      clear hX hG hE hF hBt
      by_cases hjm : j < m
      · have hjm2 : (j : Int) < (m : Int) := by omega
        have WB : Hid (Below w.heap.size w wr) := Lib.hid (BT.out.below BW.out.size BW6.out.size BW6.out)
        have KB : Hid (Kb W.heap.size b6 W wr) := Lib.hid fun b hb hne => (BT.out.block b (by have := LT6.out; omega) (by omega)).trans (K6.out b hb hne)
        obtain ⟨gt, ot, hta, hct⟩ := IN6.out (by intro e; have := M.out; rw [e] at this; simp at this; omega)
        subst hta
        have ct := (cells_same (BT.out.block gt (lt_of_cell (hct j (by rw [M.out]; exact hjm))) (N6.out gt rfl).2) _).trans (hct j (by rw [M.out]; exact hjm))
        have JM : Hid (j < cr.length) := Lib.hid (by rw [M.out]; exact hjm)
        have NX := Lib.hid (outTo_next D i JM.out)
        have hv := CRI.out _ (getD_mem JM.out)
        have OKJ := Lib.hid (outTo_ok OKI.out CRI.out j (by have := JM.out; omega))
        obtain ⟨v, hvv⟩ : ∃ v, cr.getD j 0 = v := ⟨_, rfl⟩
        rw [hvv] at ct hv NX
        have HA := Lib.hid (has_any (v := v) (DMS.out.below WB.out) OKI.out (by omega))
        have DN2 := l2
        clear hct hvv
        cases hmem : memF (dm D i) v with
        | false =>
          rw [hmem] at HA NX
          go_wp2_with (go_at_call 45; refine HA.out.mono ?_; rintro e W7 ⟨rfl, hb⟩; have B7 := Lib.hid hb; clear hb)
          go_roundw
          case measure => simp [intOf]; omega
          case rel => exact ⟨j + 1, by omega, by go_num, X2, XL.out, G.out.below B7.out, E.out, by rw [NX.out, if_neg (by simp)]; exact F.out, BT.out.trans (But.of_below B7.out)⟩
        | true =>
          rw [hmem] at HA NX
          have FR : Hid (okM D (smallI D) (i : Int) v true = freeF D i v) := Lib.hid okM_free
          cases hfr : freeF D i v with
          | true =>
            rw [hfr] at FR NX
            go_wp2_with (first | (go_at_call 45; refine HA.out.mono ?_; rintro e W7 ⟨rfl, hb⟩; have B7 := Lib.hid hb; have M7 := Lib.hid (MA.out W7 (over WB.out hb) (fun b h1 h2 => (hb.block b (by have := LT6.out; have := BT.out.size; omega)).trans (KB.out b h1 h2)) (i : Int) v true); clear hb) | (go_at_call 168; refine M7.out.mono ?_; rw [FR.out]; rintro e W8 ⟨rfl, hb⟩; have B8 := Lib.hid (over B7.out hb); clear hb))
            go_roundw
            case measure => simp [intOf]; omega
            case rel => exact ⟨j + 1, by omega, by go_num, X2, XL.out, G.out.below B8.out, E.out, by rw [NX.out, if_neg (by simp)]; exact F.out, BT.out.trans (But.of_below B8.out)⟩
          | false =>
            rw [hfr] at FR NX
            go_upto_region 24 with (first | (go_at_call 45; refine HA.out.mono ?_; rintro e W7 ⟨rfl, hb⟩; have B7 := Lib.hid hb; have M7 := Lib.hid (MA.out W7 (over WB.out hb) (fun b h1 h2 => (hb.block b (by have := LT6.out; have := BT.out.size; omega)).trans (KB.out b h1 h2)) (i : Int) v true); clear hb) | (go_at_call 168; refine M7.out.mono ?_; rw [FR.out]; rintro e W8 ⟨rfl, hb⟩; have B8 := Lib.hid (over B7.out hb); clear hb))
            have G8 := Lib.hid (G.out.below B8.out)
            obtain ⟨x8, p8, q8⟩ := G8.out.cs i (by rw [XL.out]; exact hlt)
            rw [F.out] at q8
            obtain ⟨oa, oc, rfl, oms⟩ := q8.s
            have OL := Lib.hid (ok_len OKJ.out)
            obtain ⟨on, hon⟩ : ∃ on, (outTo D i (cr.take j)).length = on := ⟨_, rfl⟩
            rw [hon] at p8 oms OL
            have OMS := Lib.hid oms
            have es : spanD v v = [(v, v)] := if_neg (by omega)
            have SP := Lib.hid (fun WD => span_any v v WD)
            have OV := Lib.hid (ok_one hv.1 hv.2)
            rw [es] at SP NX OV
            have FZ := Lib.hid (G8.out.blk)
            clear q8 oms hon es
            refine Rg.s0 11 [] fun WD DW => ?_
            refine Rg.t 0 ?_
            refine Rg.t 1 ?_
            refine Rg.t 2 ?_
            refine Rg.t 3 ?_
            refine Rg.t 4 ?_
            refine Rg.t 5 ?_
            refine Rg.t 6 ?_
            refine Rg.t 7 ?_
            refine Rg.c1 8 fun K' hK => ?_
            go_simp
            go_at_call 98
            refine (SP.out WD).mono ?_
            rintro e w9 ⟨sv, rfl, hsv, hb⟩
            obtain ⟨a9, c9, rfl, ms⟩ := hsv.s
            have D9 := over DW hb
            refine Rg.e1 hK D9 ?_
            clear hK K' hb hsv
            refine Rg.c1 9 fun K' hK => ?_
            go_simp
            go_at_call 49
            refine (minus_any (OMS.out.below D9) ms OV.out (by have := OL.out; omega) (by simp)).mono ?_
            rintro e w10 ⟨mv, rfl, hmv, hb⟩
            have D10 := over D9 hb
            refine Rg.e1 hK D10 ?_
            clear hK K' hb
            obtain ⟨ma, mc, rfl, -⟩ := hmv.ex
            have HMV := Lib.hid hmv
            have p10 := cell_later D10 (Nat.le_refl _) p8
            have f10 := (FZ.out.keep (D10.block _ FZ.out.lt)).free i
            have T10 := Lib.hid ((BT.out.trans (But.of_below B8.out)).trans ((But.of_below D10).trans (But.setCell W.heap.size w10 i (.slice ma (minusF (outTo D i (cr.take j)) [(v, v)]).length mc))))
            have G10 := Lib.hid ((G8.out.below D10).set (by rw [XL.out]; exact hlt) HMV.out)
            clear hmv ms
            refine Rg.t 10 ?_
            refine Rg.l1 ?_
            go_simp
            go_wp2_with fail
            go_roundw
            case measure => simp [intOf]; omega
            case rel => exact ⟨j + 1, by omega, by go_num, X2.set i (minusF (outTo D i (cr.take j)) [(v, v)]), by rw [List.length_set]; exact XL.out, G10.out, fun t ht => by rw [dm_set_ne _ (by omega)]; exact E.out t ht, by rw [dm_set_eq _ (by rw [XL.out]; exact hlt), NX.out, if_pos (by simp)], T10.out⟩
      · obtain rfl : j = m := by omega
        go_wp2_with fail
        go_roundw
        case measure => simp [intOf]; omega
        case rel => exact ⟨i + 1, by omega, by go_num, X2, XL.out, G.out, fun t ht => by
          by_cases e : t = i
          · subst e; rw [F.out, O2.out, List.take_of_length_le (by rw [M.out]; exact Nat.le_refl _)]
          · exact E.out t (by omega), BT.out⟩
  · obtain rfl : i = 2 := by omega
    go_wp2_with fail
    show KK _ _
    refine HQ.out _ _ _ rfl ?_ (BT.out.below BW.out.size BW6.out.size BW6.out) (fun b hb hne => (BT.out.block b (by have := LT6.out; omega) (by omega)).trans (K6.out b hb hne))
    have L2 : (difF D).length = 2 := by simp [difF, DN.out]
    refine ⟨some ⟨W.heap.size, 0, none⟩, 2, by rw [L2]; rfl, by omega, by omega, fun _ => ⟨W.heap.size, 0, rfl, BW.out.size, G.out.blk.lt, fun t ht => ?_⟩⟩
    obtain ⟨x, p, q⟩ := G.out.cs t (by rw [XL.out]; omega)
    rw [E.out t (by omega)] at q
    exact ⟨x, by rw [Nat.zero_add]; exact p, q⟩
end Go.Proofs.YteiohgiecpibhaaGreat
