/- dirty, wakes, stable. -/
import Derived.Test.YteiohgiecpibhaaGreatMF
set_option linter.unusedVariables false
set_option linter.unusedSimpArgs false
set_option maxRecDepth 100000
set_option maxHeartbeats 4000000
namespace Go.Proofs.YteiohgiecpibhaaGreat
open Go.RowKit Fdm

theorem idxF112 {w : World} {l : List Int} {a : Option Addr} {n c gc : Nat} {p : Int → Bool} (h : InA w l a) (hn : l.length = n) (h0 : n ≤ c) (h1 : c ≤ 9223372036854775807)
    (hf : ∀ i, i < n → Calls Tryz.prog 112 #[.int .i64 (l.getD i 0), .pointer (some ⟨gc, 0, none⟩)] w fun e w' => e = .returned (.bool (p (l.getD i 0))) ∧ w' = w) :
    Calls Tryz.prog 78 #[.slice a n c, .func (.func 112) #[] #[.pointer (some ⟨gc, 0, none⟩)]] w fun e w' => (∃ x : Int, e = .returned (.int .i64 x) ∧ (0 ≤ x ↔ l.any p = true)) ∧ w' = w := by
  have H := Lib.hid h; have N := Lib.hid hn; have HF := Lib.hid hf
  clear h hn hf
  go_enter Tryz.func78, Tryz.ntmps78
  go_wp2_with fail
  go_loopw [8] (fun v8 wr => ∃ k : Nat, k ≤ l.length ∧ v8 = .int .i64 (k : Int) ∧ (∀ i, i < k → p (l.getD i 0) = false) ∧ wr = w) (fun v8 _ => n - (intOf v8).toNat)
  case atStart => exact ⟨0, Nat.zero_le _, rfl, fun i hi => absurd hi (Nat.not_lt_zero _), rfl⟩
  obtain ⟨k, hk, rfl, hf, rfl⟩ := hrel
  have G0 := Lib.hid hf
  rw [N.out] at hk
  clear hf
  by_cases hlt : k < n
  · obtain ⟨g, o, rfl, dd⟩ := H.out (by intro e; have := N.out; rw [e] at this; simp at this; omega)
    have p0 := dd k (by rw [N.out]; exact hlt)
    clear dd
    have MM := Lib.hid (getD_mem (l := l) (k := k) (by rw [N.out]; exact hlt))
    have CF := Lib.hid (HF.out k hlt)
    obtain ⟨b, hb⟩ : ∃ b, l.getD k 0 = b := ⟨_, rfl⟩
    rw [hb] at p0 MM CF
    have HB := Lib.hid hb
    clear hb
    by_cases pb : p b = true
    · rw [pb] at CF
      have AN : Hid (l.any p = true) := List.any_eq_true.2 ⟨b, MM.out, pb⟩
      clear pb
      go_wp2_with fail
      refine CF.out.mono ?_
      rintro e w2 ⟨rfl, rfl⟩
      go_wp2_with fail
      go_ret
      exact ⟨⟨k, rfl, ⟨fun _ => AN.out, fun _ => by omega⟩⟩, rfl⟩
    · have pb : p b = false := by simpa using pb
      rw [pb] at CF
      have G : Hid (∀ i, i < k + 1 → p (l.getD i 0) = false) := fun i hi => by
        by_cases e : i = k
        · subst e; rw [HB.out]; exact pb
        · exact G0.out i (by omega)
      clear pb
      go_wp2_with fail
      refine CF.out.mono ?_
      rintro e w2 ⟨rfl, rfl⟩
      go_wp2_with fail
      go_roundw
      case rel => exact ⟨k + 1, by rw [N.out]; omega, by go_num, G.out, trivial⟩
      simp [intOf]; omega
  · obtain rfl : n = k := by omega
    go_wp2_with fail
    go_ret
    refine ⟨⟨-1, rfl, ⟨fun q => absurd q (by omega), fun q => ?_⟩⟩, rfl⟩
    obtain ⟨x, hx, e⟩ := List.any_eq_true.1 q
    obtain ⟨i, hi, rfl⟩ := List.getElem_of_mem hx
    have := G0.out i (by rw [N.out] at hi; exact hi)
    rw [List.getD_eq_getElem?_getD, List.getElem?_eq_getElem hi] at this
    rw [Option.getD_some] at this
    rw [this] at e; cases e
theorem conF112 {w : World} {l : List Int} {a : Option Addr} {n c gc : Nat} {p : Int → Bool} (h : InA w l a) (hn : l.length = n) (h0 : n ≤ c) (h1 : c ≤ 9223372036854775807)
    (hf : ∀ i, i < n → Calls Tryz.prog 112 #[.int .i64 (l.getD i 0), .pointer (some ⟨gc, 0, none⟩)] w fun e w' => e = .returned (.bool (p (l.getD i 0))) ∧ w' = w) :
    Calls Tryz.prog 50 #[.slice a n c, .func (.func 112) #[] #[.pointer (some ⟨gc, 0, none⟩)]] w fun e w' => e = .returned (.bool (l.any p)) ∧ w' = w := by
  have C := Lib.hid (idxF112 h hn h0 h1 hf)
  clear h hn hf
  go_enter Tryz.func50, Tryz.ntmps50
  go_wp2_with fail
  refine C.out.mono ?_
  rintro e w2 ⟨⟨x, rfl, hx⟩, rfl⟩
  have X : Hid (l.any p = decide (0 ≤ x)) := by show _ = _; rw [Bool.eq_iff_iff, decide_eq_true_eq, hx]
  clear hx
  go_wp2_with fail
  go_ret
  exact ⟨by rw [X.out]; rfl, rfl⟩

theorem idxF115 {w : World} {l : List Int} {a : Option Addr} {n c gc : Nat} {p : Int → Bool} (h : InA w l a) (hn : l.length = n) (h0 : n ≤ c) (h1 : c ≤ 9223372036854775807)
    (hf : ∀ i, i < n → Calls Tryz.prog 115 #[.int .i64 (l.getD i 0), .pointer (some ⟨gc, 0, none⟩)] w fun e w' => e = .returned (.bool (p (l.getD i 0))) ∧ w' = w) :
    Calls Tryz.prog 78 #[.slice a n c, .func (.func 115) #[] #[.pointer (some ⟨gc, 0, none⟩)]] w fun e w' => (∃ x : Int, e = .returned (.int .i64 x) ∧ (0 ≤ x ↔ l.any p = true)) ∧ w' = w := by
  have H := Lib.hid h; have N := Lib.hid hn; have HF := Lib.hid hf
  clear h hn hf
  go_enter Tryz.func78, Tryz.ntmps78
  go_wp2_with fail
  go_loopw [8] (fun v8 wr => ∃ k : Nat, k ≤ l.length ∧ v8 = .int .i64 (k : Int) ∧ (∀ i, i < k → p (l.getD i 0) = false) ∧ wr = w) (fun v8 _ => n - (intOf v8).toNat)
  case atStart => exact ⟨0, Nat.zero_le _, rfl, fun i hi => absurd hi (Nat.not_lt_zero _), rfl⟩
  obtain ⟨k, hk, rfl, hf, rfl⟩ := hrel
  have G0 := Lib.hid hf
  rw [N.out] at hk
  clear hf
  by_cases hlt : k < n
  · obtain ⟨g, o, rfl, dd⟩ := H.out (by intro e; have := N.out; rw [e] at this; simp at this; omega)
    have p0 := dd k (by rw [N.out]; exact hlt)
    clear dd
    have MM := Lib.hid (getD_mem (l := l) (k := k) (by rw [N.out]; exact hlt))
    have CF := Lib.hid (HF.out k hlt)
    obtain ⟨b, hb⟩ : ∃ b, l.getD k 0 = b := ⟨_, rfl⟩
    rw [hb] at p0 MM CF
    have HB := Lib.hid hb
    clear hb
    by_cases pb : p b = true
    · rw [pb] at CF
      have AN : Hid (l.any p = true) := List.any_eq_true.2 ⟨b, MM.out, pb⟩
      clear pb
      go_wp2_with fail
      refine CF.out.mono ?_
      rintro e w2 ⟨rfl, rfl⟩
      go_wp2_with fail
      go_ret
      exact ⟨⟨k, rfl, ⟨fun _ => AN.out, fun _ => by omega⟩⟩, rfl⟩
    · have pb : p b = false := by simpa using pb
      rw [pb] at CF
      have G : Hid (∀ i, i < k + 1 → p (l.getD i 0) = false) := fun i hi => by
        by_cases e : i = k
        · subst e; rw [HB.out]; exact pb
        · exact G0.out i (by omega)
      clear pb
      go_wp2_with fail
      refine CF.out.mono ?_
      rintro e w2 ⟨rfl, rfl⟩
      go_wp2_with fail
      go_roundw
      case rel => exact ⟨k + 1, by rw [N.out]; omega, by go_num, G.out, trivial⟩
      simp [intOf]; omega
  · obtain rfl : n = k := by omega
    go_wp2_with fail
    go_ret
    refine ⟨⟨-1, rfl, ⟨fun q => absurd q (by omega), fun q => ?_⟩⟩, rfl⟩
    obtain ⟨x, hx, e⟩ := List.any_eq_true.1 q
    obtain ⟨i, hi, rfl⟩ := List.getElem_of_mem hx
    have := G0.out i (by rw [N.out] at hi; exact hi)
    rw [List.getD_eq_getElem?_getD, List.getElem?_eq_getElem hi] at this
    rw [Option.getD_some] at this
    rw [this] at e; cases e
theorem conF115 {w : World} {l : List Int} {a : Option Addr} {n c gc : Nat} {p : Int → Bool} (h : InA w l a) (hn : l.length = n) (h0 : n ≤ c) (h1 : c ≤ 9223372036854775807)
    (hf : ∀ i, i < n → Calls Tryz.prog 115 #[.int .i64 (l.getD i 0), .pointer (some ⟨gc, 0, none⟩)] w fun e w' => e = .returned (.bool (p (l.getD i 0))) ∧ w' = w) :
    Calls Tryz.prog 50 #[.slice a n c, .func (.func 115) #[] #[.pointer (some ⟨gc, 0, none⟩)]] w fun e w' => e = .returned (.bool (l.any p)) ∧ w' = w := by
  have C := Lib.hid (idxF115 h hn h0 h1 hf)
  clear h hn hf
  go_enter Tryz.func50, Tryz.ntmps50
  go_wp2_with fail
  refine C.out.mono ?_
  rintro e w2 ⟨⟨x, rfl, hx⟩, rfl⟩
  have X : Hid (l.any p = decide (0 ≤ x)) := by show _ = _; rw [Bool.eq_iff_iff, decide_eq_true_eq, hx]
  clear hx
  go_wp2_with fail
  go_ret
  exact ⟨by rw [X.out]; rfl, rfl⟩

/-- Marks of a list of numbers. -/
def MpM (w : World) (b : Nat) (l : List Int) : Prop := ∃ L, MpI w b L ∧ ∀ k, ((fi k L).map (·.2)).getD nvb = .bool (l.contains k)
theorem MpM.of_block {w w' : World} {b : Nat} {l : List Int} (h : MpM w b l) (hb : w'.heap[b]? = w.heap[b]?) : MpM w' b l := by
  obtain ⟨L, h1, h2⟩ := h
  exact ⟨L, h1.of_block hb, h2⟩
theorem MpM.lt {w : World} {b : Nat} {l : List Int} (h : MpM w b l) : b < w.heap.size := by obtain ⟨L, h1, h2⟩ := h; exact h1.lt
theorem dirty_any {w : World} {g7 b : Nat} {l : List Int} (v : Int) (h : MpM w b l) (hc : w.cell? ⟨g7, 0, none⟩ = some (.map (some b))) : Calls Tryz.prog 112 #[.int .i64 v, .pointer (some ⟨g7, 0, none⟩)] w fun e w' => e = .returned (.bool (l.contains v)) ∧ w' = w := by
  obtain ⟨L, h1, h2⟩ := h
  have M := Lib.hid h1; have F := Lib.hid (h2 v)
  clear h1 h2
  go_enter Tryz.func112, Tryz.ntmps112
  go_wp2_with ((with_reducible show wpList _ _ _ (⟨some 6, _, _, _, _, _⟩ :: _) _ _); refine wpList_mp_lookb _ rfl _ _ false rfl b L v rfl rfl M.out ?_; rw [if_neg (by decide), F.out])
  go_ret
  exact ⟨by simp, rfl⟩
theorem wakes_any {w : World} {gc : Nat} {x1 : Value} {vs : List Int} (v : Int) (h : InV w vs x1) (hc : w.cell? ⟨gc, 1, none⟩ = some x1) : Calls Tryz.prog 115 #[.int .i64 v, .pointer (some ⟨gc, 0, none⟩)] w fun e w' => e = .returned (.bool (vs.contains v)) ∧ w' = w := by
  obtain ⟨a, c, rfl, l1, l2, hB⟩ := h.ex
  have C := Lib.hid (contains_any v hB.a rfl l1 l2)
  clear h hB
  go_enter Tryz.func115, Tryz.ntmps115
  go_wp2_with fail
  refine C.out.mono ?_
  rintro e w2 ⟨rfl, rfl⟩
  go_wp2_with fail
  go_ret
  exact ⟨by simp, rfl⟩
end Go.Proofs.YteiohgiecpibhaaGreat
set_option linter.unusedVariables false
set_option linter.unusedSimpArgs false
set_option maxRecDepth 100000
set_option maxHeartbeats 4000000
namespace Go.Proofs.YteiohgiecpibhaaGreat
open Go.RowKit Fdm

theorem But.of_setBlock (w : World) (b : Nat) (o : Obj) : But b w (ChangeMaps.setBlock w b o) :=
  ⟨rfl, rfl, rfl, by simp [ChangeMaps.setBlock], fun k _ hk => setBlock_oth hk⟩
/-- What is kept of a constraint: its cells. -/
theorem PsV.read {w : World} {P : List Con} {a : Option Addr} {n c : Nat} (h : PsV w P (.slice a n c)) (h0 : 0 < n) : ∃ g o, a = some ⟨g, o, none⟩ ∧ Blk w g 33 ∧ ∀ i, i < n → ∃ x1 x2 x3 x6,
    w.cell? ⟨g, o + i * 7, none⟩ = some (.int .i64 (con P i).kind) ∧ w.cell? ⟨g, o + i * 7 + 1, none⟩ = some x1 ∧ w.cell? ⟨g, o + i * 7 + 2, none⟩ = some x2 ∧ w.cell? ⟨g, o + i * 7 + 3, none⟩ = some x3 ∧
    w.cell? ⟨g, o + i * 7 + 4, none⟩ = some (.int .i64 (con P i).rel) ∧ w.cell? ⟨g, o + i * 7 + 5, none⟩ = some (.int .i64 (con P i).bound) ∧ w.cell? ⟨g, o + i * 7 + 6, none⟩ = some x6 ∧ Kc w (con P i) x1 x2 x3 x6 := by
  obtain ⟨a', c', e, h1, h2, hB⟩ := h.ex
  simp only [Value.slice.injEq] at e
  obtain ⟨rfl, rfl, rfl⟩ := e
  obtain ⟨g, o, e, b, k⟩ := hB (by intro q; rw [q] at h0; simp at h0)
  exact ⟨g, o, e, b, k⟩
theorem InV.kpx {t : Nat} {w w' : World} {l : List Int} {v : Value} (h : InV w l v) (k : KpX t w w') (ht : 3 ≠ t) : InV w' l v := by
  obtain ⟨a, c, e, h1, h2, h3⟩ := h.ex
  refine ⟨a, c, e, h1, h2, fun hne => ?_⟩
  obtain ⟨g, o, e, b, q⟩ := h3 hne
  have z := k g 3 b ht
  exact ⟨g, o, e, b.keep z, fun i hi => (cells_same z _).trans (q i hi)⟩
theorem TuV.kpx {t : Nat} {w w' : World} {T : List (List Int)} {v : Value} (h : TuV w T v) (k : KpX t w w') (ht : 3 ≠ t) (ht2 : 30 ≠ t) : TuV w' T v := by
  obtain ⟨a, c, e, h1, h2, h3⟩ := h
  refine ⟨a, c, e, h1, h2, fun hne => ?_⟩
  obtain ⟨g, o, e, b, q⟩ := h3 hne
  have z := k g 30 b ht2
  refine ⟨g, o, e, b.keep z, fun i hi => ?_⟩
  obtain ⟨u, p, r⟩ := q i hi
  exact ⟨u, (cells_same z _).trans p, r.kpx k ht⟩
theorem Kc.kpx {t : Nat} {w w' : World} {c : Con} {x1 x2 x3 x6 : Value} (h : Kc w c x1 x2 x3 x6) (k : KpX t w w') (ht : 3 ≠ t) (ht2 : 30 ≠ t) : Kc w' c x1 x2 x3 x6 := ⟨h.vars.kpx k ht, h.coefs.kpx k ht, h.needs.kpx k ht, h.tups.kpx k ht ht2⟩
theorem But.kpx {t g : Nat} {w w' : World} (h : But g w w') (hg : Blk w g t) : KpX t w w' := fun b ty hb ht => h.block b hb.lt fun e => (hb.ne (e ▸ hg) ht) rfl
theorem InV.below {w w' : World} {l : List Int} {v : Value} (h : InV w l v) (hb : Below w.heap.size w w') : InV w' l v := h.kp (KpT.of_below hb)
theorem InV.sh {w : World} {l : List Int} {v : Value} (h : InV w l v) : ∃ a n c, v = .slice a n c := by obtain ⟨a, c, e, _⟩ := h.ex; exact ⟨a, _, c, e⟩
theorem TuV.sh {w : World} {T : List (List Int)} {v : Value} (h : TuV w T v) : ∃ a n c, v = .slice a n c := by obtain ⟨a, c, e, _⟩ := h; exact ⟨a, _, c, e⟩
def wTo (P : List Con) (vs : List Int) (first k : Nat) : List Bool := (List.range P.length).map fun i => decide (i < k) && (decide (first ≤ i) || (con P i).vars.any fun v => vs.contains v)
theorem wTo_len (P : List Con) (vs : List Int) (first k : Nat) : (wTo P vs first k).length = P.length := by simp [wTo]
theorem wTo_next {P : List Con} {vs : List Int} {first k : Nat} (hk : k < P.length) : (wTo P vs first k).set k (decide (first ≤ k) || (con P k).vars.any fun v => vs.contains v) = wTo P vs first (k + 1) := by
  refine List.ext_getElem (by simp [wTo]) fun i h1 h2 => ?_
  rw [List.getElem_set]
  have hi : i < P.length := by simpa [wTo] using h2
  by_cases e : k = i
  · subst e; simp [wTo]
  · rw [if_neg e]
    simp only [wTo, List.getElem_map, List.getElem_range]
    congr 1
    rw [decide_eq_decide]
    omega
theorem wTo_all (P : List Con) (vs : List Int) (first : Nat) : wTo P vs first P.length = waitsF P vs first := by
  refine List.ext_getElem (by simp [wTo, waitsF]) fun i h1 h2 => ?_
  have hi : i < P.length := by simpa [wTo] using h1
  simp [wTo, waitsF, hi]
theorem BoF.made {w : World} {base g n : Nat} {P : List Con} {vs : List Int} {first : Nat} (h : w.ownsRow base 4 1 (.slice (some ⟨g, 0, none⟩) n n) n (madeCells (Value.bool false).cells (n * 1)).toList) (hn : P.length = n) : BoF w g (wTo P vs first 0) := by
  rcases h.2 with ⟨e, _⟩ | ⟨g', cap, cur, e, hb, hg, hnc, hcm, hcs, htake⟩
  · simp at e
  · simp only [Value.slice.injEq, Option.some.injEq, Addr.mk.injEq] at e
    obtain ⟨⟨rfl, -⟩, -, rfl⟩ := e
    refine ⟨⟨_, hg⟩, fun i hi => ?_⟩
    rw [wTo_len, hn] at hi
    have hc := h.cellAt (g := g) (j := i) (by omega)
    rw [hc]
    have e2 : (wTo P vs first 0).getD i false = false := by
      unfold wTo
      rw [List.getD_eq_getElem?_getD, List.getElem?_map]
      cases (List.range P.length)[i]? <;> simp
    rw [e2]
    have e3 : i % (Value.bool false).cells.size = 0 := Nat.mod_one i
    simp [madeCells, hi, e3]
    rfl
theorem wakeTo_len (P : List Con) (ch : List Nat) (w : List Bool) : ∀ k, (wakeTo P ch w k).length = w.length
  | 0 => rfl
  | k + 1 => by
    unfold wakeTo
    split
    · rw [List.length_set]; exact wakeTo_len P ch w k
    · exact wakeTo_len P ch w k
theorem wakeTo_kept (P : List Con) (ch : List Nat) (w : List Bool) : ∀ k i, k ≤ i → (wakeTo P ch w k).getD i false = w.getD i false
  | 0, _, _ => rfl
  | k + 1, i, h => by
    unfold wakeTo
    split
    · rw [List.getD_eq_getElem?_getD, List.getElem?_set_ne (by omega), ← List.getD_eq_getElem?_getD]; exact wakeTo_kept P ch w k i (by omega)
    · exact wakeTo_kept P ch w k i (by omega)
theorem set_same {l : List Bool} {k : Nat} (h : l.getD k false = true) : l.set k true = l := by
  refine List.ext_getElem (by simp) fun i h1 h2 => ?_
  rw [List.getElem_set]
  by_cases e : k = i
  · subst e
    rw [List.getD_eq_getElem?_getD, List.getElem?_eq_getElem h2] at h
    simpa using h.symm
  · rw [if_neg e]
theorem firstT_at : ∀ {l : List Bool} {i : Nat}, firstT l 0 = some i → i < l.length
  | [], i, h => by simp [firstT] at h
  | true :: l, i, h => by simp [firstT] at h; subst h; simp
  | false :: l, i, h => by
    simp only [firstT, Bool.false_eq_true, if_false] at h
    rw [firstT_from] at h
    obtain ⟨j, hj, rfl⟩ := Option.map_eq_some_iff.1 h
    have := firstT_at hj
    simp; omega
/-- What a rule's call answers. -/
structure RuOk (ru : Con → List Dm → List Dm) (c : Con) (D : List Dm) : Prop where
  kind : c.kind = 3
  len : (ru c (pickF D c)).length = c.vars.length
  sm : ∀ i, (dm (ru c (pickF D c)) i).length ≤ 1000
  smD : ∀ v, (dm D v).length ≤ 1000
  call : ∀ (W : World) (x1 x2 x3 x6 xv : Value), Kc W c x1 x2 x3 x6 → DsV W (pickF D c) xv → Calls Tryz.prog 151 #[.agg #[.int .i64 c.kind, x1, x2, x3, .int .i64 c.rel, .int .i64 c.bound, x6], xv] W fun e W' => ∃ v, e = .returned v ∧ DsW W' W.heap.size (ru c (pickF D c)) v ∧ Below W.heap.size W W'
theorem alloc3 (w : World) (x y z : Obj) : (((w.alloc x).alloc y).alloc z).heap[w.heap.size]? = some x ∧ (((w.alloc x).alloc y).alloc z).heap[w.heap.size + 1]? = some y ∧ (((w.alloc x).alloc y).alloc z).heap[w.heap.size + 2]? = some z ∧ Below w.heap.size w (((w.alloc x).alloc y).alloc z) ∧ (((w.alloc x).alloc y).alloc z).heap.size = w.heap.size + 3 := by
  obtain ⟨h0, h1, h2, h3⟩ := alloc2 w x y
  have h := heap_alloc_new ((w.alloc x).alloc y) z
  rw [h3] at h
  have b := below_new ((w.alloc x).alloc y) z
  exact ⟨(b.block _ (by omega)).trans h0, (b.block _ (by omega)).trans h1, h, over h2 b, by rw [World.size_alloc, h3]⟩
theorem MpM.none_ {w : World} {b : Nat} (h : w.heap[b]? = some (.map #[] 0)) : MpM w b [] := ⟨[], ⟨#[], 0, h, rfl⟩, fun k => rfl⟩
theorem apTo_len {c : Con} {X D : List Dm} : ∀ {k : Nat} {D' : List Dm} {ch : List Nat}, apTo c X D k = some (D', ch) → D'.length = D.length
  | 0, D', ch, h => by simp only [apTo, Option.some.injEq, Prod.mk.injEq] at h; rw [h.1]
  | k + 1, D', ch, h => by
    have h : (match apTo c X D k with | none => none | some (D', ch) => if meetF (dm X k) (dm D' (vr c k)) = [] then none else if meetF (dm X k) (dm D' (vr c k)) = dm D' (vr c k) then some (D', ch) else some (D'.set (vr c k) (meetF (dm X k) (dm D' (vr c k))), ch ++ [vr c k])) = some (D', ch) := h
    cases q : apTo c X D k with
    | none => rw [q] at h; simp at h
    | some x =>
      obtain ⟨D1, c1⟩ := x
      have ih := apTo_len q
      rw [q] at h
      simp only at h
      split at h
      · simp at h
      · split at h
        · simp only [Option.some.injEq, Prod.mk.injEq] at h; rw [← h.1]; exact ih
        · simp only [Option.some.injEq, Prod.mk.injEq] at h; rw [← h.1, List.length_set]; exact ih
theorem wakes_chI (c : Con) (ch : List Nat) : ((chI ch).any fun v => c.vars.contains v) = wakes c ch := by unfold chI wakes; rw [List.any_map]; rfl
theorem wake_yes {P : List Con} {ch : List Nat} {w : List Bool} {k : Nat} (h : wakes (con P k) ch = true) : wakeTo P ch w (k + 1) = (wakeTo P ch w k).set k true := by show (if _ then _ else _) = _; rw [if_pos h]
theorem wake_no {P : List Con} {ch : List Nat} {w : List Bool} {k : Nat} (h : wakes (con P k) ch = false) : wakeTo P ch w (k + 1) = wakeTo P ch w k := by show (if _ then _ else _) = _; rw [if_neg (by rw [h]; simp)]
theorem wake_on {P : List Con} {ch : List Nat} {w : List Bool} {k : Nat} (h : w.getD k false = true) : wakeTo P ch w (k + 1) = wakeTo P ch w k := by
  have e : (wakeTo P ch w k).getD k false = true := by rw [wakeTo_kept _ _ _ _ _ (Nat.le_refl _)]; exact h
  cases q : wakes (con P k) ch with
  | true => rw [wake_yes q, set_same e]
  | false => exact wake_no q
def StPost (g : Nat) (w : World) (r : List Dm × Bool) (e : Ending) (w' : World) : Prop := e = .returned (.bool r.2) ∧ But g w w' ∧ (r.2 = true → DsG w' g r.1)
def StL (ru : Con → List Dm → List Dm) (G : Con → List Dm → Bool) (P : List Con) (r : List Dm × Bool) (w : World) (g gs gw n c0 : Nat) (vp : Value) (f : Nat) (wr : World) : Prop :=
  ∃ D1 wts, stN ru G P f D1 wts = some r ∧ D1.length = n ∧ wts.length = P.length ∧ DsG wr g D1 ∧ BoF wr gw wts ∧ But g w wr ∧ wr.heap[gs]? = some (.cells #[.slice (some ⟨g, 0, none⟩) n c0, vp] 86 (0, 0))
theorem info4 : (Tryz.prog.info? 4).map (fun i => (i.zero, i.size, i.bytes)) = some (some (.bool false), 1, 1) := by kernel_rfl
theorem stable_any {w : World} {g n c0 np pc nv cv first f : Nat} {D : List Dm} {P : List Con} {pa va : Option Addr} {vs : List Int} {ru : Con → List Dm → List Dm} {G : Con → List Dm → Bool} {r : List Dm × Bool}
    (hG : DsG w g D) (hn : D.length = n) (hc : n ≤ c0) (hc2 : c0 ≤ 9223372036854775807) (hP : PsV w P (.slice pa np pc)) (hV : InA w vs va) (hvl : vs.length = nv) (hv1 : nv ≤ cv) (hv2 : cv ≤ 9223372036854775807) (hf : (first : Int) ≤ 9223372036854775807)
    (hPv : ∀ i, i < np → VarsIn (con P i) n ∧ (con P i).vars.length ≤ 90) (hp : np ≤ 1000) (hst : stF ru G P f D vs first = some r) (hR : ∀ i D, i < np → G (con P i) D = true → RuOk ru (con P i) D) :
    Calls Tryz.prog 102 #[.agg #[.slice (some ⟨g, 0, none⟩) n c0, .slice pa np pc], .slice va nv cv, .int .i64 (first : Int)] w (StPost g w r) := by
  obtain ⟨R, hRr⟩ : ∃ R : Ending → World → Prop, R = StPost g w r := ⟨_, rfl⟩
  rw [← hRr]
  have HR := Lib.hid hRr
  have PL : Hid (P.length = np) := by
    obtain ⟨a', c', e, _⟩ := hP.ex
    simp only [Value.slice.injEq] at e
    exact e.2.1.symm
  have PC : Hid (np ≤ pc ∧ pc ≤ 9223372036854775807) := by
    obtain ⟨a', c', e, h1, h2, _⟩ := hP.ex
    simp only [Value.slice.injEq] at e
    obtain ⟨rfl, rfl, rfl⟩ := e
    exact ⟨h1, h2⟩
  have G0 := Lib.hid hG; have DN := Lib.hid hn; have PS := Lib.hid hP; have VS := Lib.hid hV; have VL := Lib.hid hvl; have PV := Lib.hid hPv; have ST := Lib.hid hst; have RU := Lib.hid hR
  have GL : Hid (g < w.heap.size) := hG.blk.lt
  obtain ⟨b0, b1, b2, b3, b4⟩ := alloc3 w (.cells #[.slice (some ⟨g, 0, none⟩) n c0, .slice pa np pc] 86) (.map #[] 0) (.cells #[.map (some (w.heap.size + 1))] 128)
  have B0 := Lib.hid b0; have B1 := Lib.hid b1; have B2 := Lib.hid b2; have B3 := Lib.hid b3; have B4 := Lib.hid b4
  obtain ⟨pc1, pc2⟩ := PC.out
  clear hRr hG hn hP hV hvl hPv hst hR b0 b1 b2 b3 b4
  have hmm := @run_makeMap Tryz.prog
  go_enter Tryz.func102, Tryz.ntmps102
  go_upto_region 1 with fail
  go_upto_region 2 with fail
  clear hmm
  generalize ((w.alloc (.cells #[.slice (some ⟨g, 0, none⟩) n c0, .slice pa np pc] 86)).alloc (.map #[] 0)).alloc (.cells #[.map (some (w.heap.size + 1))] 128) = W1 at *
  obtain ⟨gs, hgs⟩ : ∃ gs, w.heap.size = gs := ⟨_, rfl⟩
  rw [hgs] at B0 B1 B2 B4 ⊢
  have GS := Lib.hid hgs
  clear hgs
  have M0 : Hid (MpM W1 (gs + 1) []) := MpM.none_ B1.out
  go_wp2_with fail
  go_loopw [21] (fun v21 wr => ∃ k : Nat, k ≤ nv ∧ v21 = .int .i64 (k : Int) ∧ MpM wr (gs + 1) ((vs.take k).reverse) ∧ But (gs + 1) W1 wr) (fun v21 _ => nv - (intOf v21).toNat)
  case atStart => exact ⟨0, Nat.zero_le _, rfl, M0.out, But.refl _ _⟩
  obtain ⟨k, hk, rfl, hM, hBt⟩ := hrel
  have MM := Lib.hid hM; have BT := Lib.hid hBt
  clear hM hBt
  by_cases hlt : k < nv
  · obtain ⟨gv, ov, rfl, dd⟩ := VS.out (by intro e; have := VL.out; rw [e] at this; simp at this; omega)
    have p0 := dd k (by rw [VL.out]; exact hlt)
    clear dd
    have lg : gv < w.heap.size := lt_of_cell p0
    have p0 := (cells_same (BT.out.block gv (by have := B3.out.size; omega) (by have := GS.out; omega)) _).trans (cell_later B3.out (Nat.le_refl _) p0)
    have s2 : wr.cell? ⟨gs + 2, 0, none⟩ = some (.map (some (gs + 1))) := by rw [cells_same (BT.out.block (gs + 2) (by have := B4.out; omega) (by omega)) 0, cell_of_row _ _ _ _ _ _ B2.out]; rfl
    obtain ⟨L, ml, mf⟩ := MM.out
    have ML := Lib.hid ml; have MF := Lib.hid mf
    have VK : Hid ((vs.take (k + 1)).reverse = vs.getD k 0 :: (vs.take k).reverse) := by
      show _ = _
      rw [List.take_add_one, List.getElem?_eq_getElem (by rw [VL.out]; exact hlt), List.getD_eq_getElem?_getD, List.getElem?_eq_getElem (by rw [VL.out]; exact hlt)]; simp
    obtain ⟨x, hx⟩ : ∃ x, vs.getD k 0 = x := ⟨_, rfl⟩
    rw [hx] at p0 VK
    have NX : Hid (∀ q, ((fi q (mpS L x (.bool true))).map (·.2)).getD nvb = .bool ((x :: (vs.take k).reverse).contains q)) := fun q => by
      rw [mpS_fi]
      by_cases e : q = x
      · subst e; simp
      · rw [if_neg e, MF.out q]; simp [e]
    clear hx ml mf
    go_wp2_with (refine wpList_mp_storeb _ rfl _ _ _ rfl (gs + 1) L x (.bool true) rfl rfl rfl ML.out ?_; intro ob hob; have OB := Lib.hid hob; clear hob)
    go_roundw
    case rel => exact ⟨k + 1, by omega, by go_num, ⟨_, OB.out, by rw [VK.out]; exact NX.out⟩, BT.out.trans (But.of_setBlock _ _ _)⟩
    simp [intOf]; omega
  · obtain rfl : nv = k := by omega
    have M2 : Hid (MpM wr (gs + 1) vs) := by
      obtain ⟨L, m1, m2⟩ := MM.out
      refine ⟨L, m1, fun q => ?_⟩
      rw [m2 q, ← VL.out, List.take_length]
      congr 1
      rw [Bool.eq_iff_iff]; simp
    have S2 : Hid (wr.heap[gs]? = some (.cells #[.slice (some ⟨g, 0, none⟩) n c0, .slice pa np pc] 86 (0, 0))) := (BT.out.block gs (by have := B4.out; omega) (by omega)).trans B0.out
    have C2 : Hid (wr.cell? ⟨gs + 2, 0, none⟩ = some (.map (some (gs + 1)))) := by show _ = _; rw [cells_same (BT.out.block (gs + 2) (by have := B4.out; omega) (by omega)) 0, cell_of_row _ _ _ _ _ _ B2.out]; rfl
    have BW : Hid (Below w.heap.size w wr) := BT.out.below (by have := GS.out; omega) (by have := B4.out; have := GS.out; omega) B3.out
    have Z2 : Hid (gs + 3 ≤ wr.heap.size) := by have := BT.out.size; have := B4.out; show _ ≤ _; omega
    clear MM BT B0 B1 B2 B4 M0
    obtain ⟨W2, rfl⟩ : ∃ W2 : World, W2 = wr := ⟨_, rfl⟩
    have s1 : W2.cell? ⟨gs, 1, none⟩ = some (.slice pa np pc) := by rw [cell_of_row _ _ _ _ _ _ S2.out]; rfl
    obtain ⟨i4, hi4, hz0, hz1, hz2⟩ := info_parts info4
    go_upto_region 8 with (at_make; refine wpList_make_full _ rfl _ _ 69 rfl 0 4 i4 (.bool false) 1 Tryz.underlying69 hi4 hz0 hz1 .i64 .i64 _ _ np rfl rfl (by omega) (by omega) (by rw [hz2]; omega) (by unfold maxLen; omega) (Nat.zero_le _) ?_; intro w3 hown3 hg3; have F3 := Lib.hid (BoF.made (P := P) (vs := vs) (first := first) hown3 PL.out); have BB3 := Lib.hid (below_grown hg3); clear hown3 hg3)
    obtain ⟨gw, hgw⟩ : ∃ gw, W2.heap.size = gw := ⟨_, rfl⟩
    rw [hgw] at F3 ⊢
    have GW := Lib.hid hgw
    clear hgw
    have S3 : Hid (w3.heap[gs]? = some (.cells #[.slice (some ⟨g, 0, none⟩) n c0, .slice pa np pc] 86 (0, 0))) := (BB3.out.block gs (by have := Z2.out; omega)).trans S2.out
    have C3 : Hid (w3.cell? ⟨gs + 2, 0, none⟩ = some (.map (some (gs + 1)))) := cell_later BB3.out (Nat.le_refl _) C2.out
    have M3 : Hid (MpM w3 (gs + 1) vs) := M2.out.of_block (BB3.out.block _ M2.out.lt)
    have BW3 : Hid (Below w.heap.size w w3) := over BW.out BB3.out
    have PS3 : Hid (PsV w3 P (.slice pa np pc)) := PS.out.kp (KpT.of_below BW3.out)
    have Z3 : Hid (gw < w3.heap.size) := F3.out.blk.lt
    have s1 := cell_later BB3.out (Nat.le_refl _) s1
    clear S2 C2 M2 BW
    go_wp2_with fail
    go_loopw [35] (fun v35 wr => ∃ k : Nat, k ≤ np ∧ v35 = .int .i64 (k : Int) ∧ BoF wr gw (wTo P vs first k) ∧ But gw w3 wr) (fun v35 _ => np - (intOf v35).toNat)
    case atStart => exact ⟨0, Nat.zero_le _, rfl, F3.out, But.refl _ _⟩
    obtain ⟨k, hk, rfl, hF, hBt⟩ := hrel
    have F := Lib.hid hF; have BT := Lib.hid hBt
    clear hF hBt s1
    by_cases hlt : k < np
    · have KP : Hid (KpX 4 w3 wr) := BT.out.kpx F3.out.blk
      obtain ⟨gp, op, rfl, bp, dd⟩ := PS3.out.read (by omega)
      obtain ⟨x1, x2, x3, x6, p0, p1, p2, p3, p4, p5, p6, hkc⟩ := dd k hlt
      clear dd
      have ep := KP.out gp 33 bp (by decide)
      have p0 := (cells_same ep _).trans p0; have p1 := (cells_same ep _).trans p1; have p2 := (cells_same ep _).trans p2; have p3 := (cells_same ep _).trans p3; have p4 := (cells_same ep _).trans p4; have p5 := (cells_same ep _).trans p5; have p6 := (cells_same ep _).trans p6
      have KC := Lib.hid (hkc.kpx KP.out (by decide) (by decide))
      have MR : Hid (MpM wr (gs + 1) vs) := M3.out.of_block (BT.out.block _ M3.out.lt (by have := Z2.out; have := GW.out; omega))
      have CR : Hid (wr.cell? ⟨gs + 2, 0, none⟩ = some (.map (some (gs + 1)))) := (cells_same (BT.out.block (gs + 2) (by have := Z3.out; have := Z2.out; have := GW.out; omega) (by have := Z2.out; have := GW.out; omega)) 0).trans C3.out
      have NXT := Lib.hid (wTo_next (P := P) (vs := vs) (first := first) (k := k) (by rw [PL.out]; exact hlt))
      have WL := Lib.hid (wTo_len P vs first k)
      obtain ⟨va', vc', rfl, l1, l2, hB⟩ := KC.out.vars.ex
      obtain ⟨a2, n2, c2, rfl⟩ := KC.out.coefs.sh
      obtain ⟨a3, n3, c3, rfl⟩ := KC.out.needs.sh
      obtain ⟨a6, n6, c6, rfl⟩ := KC.out.tups.sh
      have HB := Lib.hid hB
      have nb := heap_alloc_new wr (.cells #[.int .i64 (con P k).kind, .slice va' (con P k).vars.length vc', .slice a2 n2 c2, .slice a3 n3 c3, .int .i64 (con P k).rel, .int .i64 (con P k).bound, .slice a6 n6 c6] 33)
      have bb := below_new wr (.cells #[.int .i64 (con P k).kind, .slice va' (con P k).vars.length vc', .slice a2 n2 c2, .slice a3 n3 c3, .int .i64 (con P k).rel, .int .i64 (con P k).bound, .slice a6 n6 c6] 33)
      have NB := Lib.hid nb; have BB := Lib.hid bb
      clear hkc hB ep bp nb bb
      go_upto_region 11 with fail
      generalize wr.alloc (.cells #[.int .i64 (con P k).kind, .slice va' (con P k).vars.length vc', .slice a2 n2 c2, .slice a3 n3 c3, .int .i64 (con P k).rel, .int .i64 (con P k).bound, .slice a6 n6 c6] 33) = WA at *
      clear p0 p1 p2 p3 p4 p5 p6
      obtain ⟨gc, hgc⟩ : ∃ gc, wr.heap.size = gc := ⟨_, rfl⟩
      rw [hgc] at NB ⊢
      clear hgc
      have c1 : WA.cell? ⟨gc, 1, none⟩ = some (.slice va' (con P k).vars.length vc') := by rw [cell_of_row _ _ _ _ _ _ NB.out]; rfl
      have MA : Hid (MpM WA (gs + 1) vs) := MR.out.of_block (BB.out.block _ MR.out.lt)
      have CA := cell_later BB.out (Nat.le_refl _) CR.out
      have FA := Lib.hid (F.out.below BB.out)
      have cw := FA.out.cs k (by rw [WL.out, PL.out]; exact hlt)
      have fz := FA.out.blk.free k
      have CON := Lib.hid (conF112 (p := fun v => vs.contains v) (gc := gs + 2) (HB.out.a.below BB.out) rfl l1 l2 fun i hi => dirty_any _ MA.out CA)
      by_cases hfk : first ≤ k
      · have e1 : (decide (first ≤ k) || (con P k).vars.any fun v => vs.contains v) = true := by simp [hfk]
        rw [e1] at NXT
        have hfk' : (first : Int) ≤ (k : Int) := by omega
        have hfd : decide (first ≤ k) = true := by simp [hfk]
        clear e1 CON CA
        obtain ⟨W7, hW7⟩ : ∃ W7, WA.setCell ⟨gw, k, none⟩ (.bool true) = W7 := ⟨_, rfl⟩
        have F7 : Hid (BoF W7 gw (wTo P vs first (k + 1))) := by show BoF _ _ _; rw [← hW7, ← NXT.out]; exact FA.out.set (by rw [WL.out, PL.out]; exact hlt) true
        have BT7 : Hid (But gw w3 W7) := by show But _ _ _; rw [← hW7]; exact (BT.out.trans (But.of_below BB.out)).trans (But.setCell _ _ _ _)
        go_wp2_with fail
        go_roundw
        case rel => exact ⟨k + 1, by omega, by go_num, F7.out, BT7.out⟩
        simp [intOf]; omega
      · have e1 : (decide (first ≤ k) || (con P k).vars.any fun v => vs.contains v) = (con P k).vars.any fun v => vs.contains v := by simp [hfk]
        rw [e1] at NXT
        have hfk' : (k : Int) < (first : Int) := by omega
        have hfd : decide (first ≤ k) = false := by simp; omega
        obtain ⟨t, ht⟩ : ∃ t, ((con P k).vars.any fun v => vs.contains v) = t := ⟨_, rfl⟩
        rw [ht] at NXT CON
        clear e1 CA ht hfk
        obtain ⟨W7, hW7⟩ : ∃ W7, WA.setCell ⟨gw, k, none⟩ (.bool t) = W7 := ⟨_, rfl⟩
        have F7 : Hid (BoF W7 gw (wTo P vs first (k + 1))) := by show BoF _ _ _; rw [← hW7, ← NXT.out]; exact FA.out.set (by rw [WL.out, PL.out]; exact hlt) t
        have BT7 : Hid (But gw w3 W7) := by show But _ _ _; rw [← hW7]; exact (BT.out.trans (But.of_below BB.out)).trans (But.setCell _ _ _ _)
        go_wp2_with (go_at_call 50; refine CON.out.mono ?_; rintro e w' ⟨rfl, hw⟩; have hw := hw.symm; subst hw)
        go_roundw
        case rel => exact ⟨k + 1, by omega, by go_num, F7.out, BT7.out⟩
        simp [intOf]; omega
    · obtain rfl : np = k := by omega
      have BW4 : Hid (Below w.heap.size w wr) := BT.out.below (by have := Z2.out; have := GW.out; have := GS.out; omega) (by have := BW3.out.size; omega) BW3.out
      have J0 : Hid (StL ru G P r w g gs gw n c0 (.slice pa np pc) f wr) := by
        refine ⟨D, _, ST.out, DN.out, ?_, G0.out.below BW4.out, ?_, But.of_below BW4.out, ?_⟩
        · simp [waitsF]
        · rw [← wTo_all, PL.out]; exact F.out
        · exact (BT.out.block gs (by have := Z3.out; have := Z2.out; have := GW.out; omega) (by have := Z2.out; have := GW.out; omega)).trans S3.out
      have KK : Hid (gs < gw ∧ w.heap.size ≤ gs) := ⟨by have := Z2.out; have := GW.out; omega, by have := GS.out; omega⟩
      clear F BT F3 BB3 S3 C3 M3 PS3 Z3 BW3 BW4 ST Z2 GW VS VL B3 GS
      go_wp2_with fail
      go_loopg [] f (fun gk wr => StL ru G P r w g gs gw n c0 (.slice pa np pc) gk wr)
      case atStart => exact J0.out
      case round =>
        clear J0
        obtain ⟨D1, wts, hs, hdl, hwl, hG1, hF1, hB1, hS1⟩ := hrel
        have G1 := Lib.hid hG1; have F1 := Lib.hid hF1; have B1 := Lib.hid hB1; have S1 := Lib.hid hS1; have DL := Lib.hid hdl
        rw [PL.out] at hwl
        have WL := Lib.hid hwl
        have IX := index_any hF1 hwl (by omega)
        cases gk with
        | zero => simp [stN] at hs
        | succ f1 =>
          cases hfi : firstT wts 0 with
          | none =>
            have rr : Hid (r = (D1, true)) := by
              show _ = _
              simp only [stN, hfi] at hs
              exact (Option.some.inj hs).symm
            have ix : idxT wts = -1 := by unfold idxT; rw [hfi]
            rw [ix] at IX
            have IX := Lib.hid IX
            clear hs hfi ix hG1 hF1 hB1 hS1 hdl hwl
            go_wp2_with (go_at_call 113; refine IX.out.mono ?_; rintro e w' ⟨rfl, hw⟩; have hw := hw.symm; subst hw)
            rw [HR.out]
            exact ⟨by rw [rr.out]; rfl, B1.out, fun _ => by rw [rr.out]; exact G1.out⟩
          | some i =>
            have ix : idxT wts = (i : Int) := by unfold idxT; rw [hfi]
            rw [ix] at IX
            have hi := firstT_at hfi
            rw [hwl] at hi
            have IX := Lib.hid IX
            simp only [stN, hfi] at hs
            by_cases hg : G (con P i) D1 = true
            · rw [if_pos hg] at hs
              have RO := Lib.hid (RU.out i D1 hi hg)
              have HI := Lib.hid (PV.out i hi)
              have PR := Lib.hid (PS.out.kp (B1.out.kp G0.out.blk))
              clear hg ix hfi hG1 hF1 hB1 hS1 hdl hwl
              obtain ⟨gp, op, rfl, bp, dd⟩ := PR.out.read (by omega)
              obtain ⟨x1, x2, x3, x6, p0, p1, p2, p3, p4, p5, p6, hkc⟩ := dd i hi
              clear dd
              obtain ⟨a1, n1, c1, rfl⟩ := hkc.vars.sh
              obtain ⟨a2, n2, c2, rfl⟩ := hkc.coefs.sh
              obtain ⟨a3, n3, c3, rfl⟩ := hkc.needs.sh
              obtain ⟨a6, n6, c6, rfl⟩ := hkc.tups.sh
              have fz := F1.out.blk.free i
              have cw := F1.out.cs i (by rw [WL.out]; exact hi)
              have i0 : (0 : Int) ≤ (i : Int) := by omega
              obtain ⟨W5, hW5⟩ : ∃ W5, wr.setCell ⟨gw, i, none⟩ (.bool false) = W5 := ⟨_, rfl⟩
              have BW : But gw wr W5 := by rw [← hW5]; exact But.setCell _ _ _ _
              have KX := BW.kpx F1.out.blk
              have F5 : Hid (BoF W5 gw (wts.set i false)) := by show BoF _ _ _; rw [← hW5]; exact F1.out.set (by rw [WL.out]; exact hi) false
              have G5 := Lib.hid (G1.out.kpx KX (by decide) (by decide))
              have S5 : Hid (W5.heap[gs]? = some (.cells #[.slice (some ⟨g, 0, none⟩) n c0, .slice (some ⟨gp, op, none⟩) np pc] 86 (0, 0))) := (KX gs 86 ⟨_, S1.out⟩ (by decide)).trans S1.out
              have B5 : Hid (But g w W5) := B1.out.then (by rw [← hW5]; exact (Below.refl _ _).setCell (p := ⟨gw, i, none⟩) (by have := KK.out; show w.heap.size ≤ gw; omega) _)
              have K5 := Lib.hid (hkc.kpx KX (by decide) (by decide))
              have ep := KX gp 33 bp (by decide)
              have P0 := Lib.hid ((cells_same ep _).trans p0); have P1 := Lib.hid ((cells_same ep _).trans p1); have P2 := Lib.hid ((cells_same ep _).trans p2); have P3 := Lib.hid ((cells_same ep _).trans p3); have P4 := Lib.hid ((cells_same ep _).trans p4); have P5 := Lib.hid ((cells_same ep _).trans p5); have P6 := Lib.hid ((cells_same ep _).trans p6)
              have D5 : Below W5.heap.size W5 W5.drew := (Below.refl _ _).drew
              have K5D := K5.out.kp (KpT.of_below D5)
              have AP := apply3_any (vp := .slice (some ⟨gp, op, none⟩) np pc) (c0 := c0) (G5.out.below D5) DL.out hc hc2 K5D HI.out.1 HI.out.2 RO.out.kind RO.out.smD RO.out.len RO.out.sm fun W xv hk hx => RO.out.call W _ _ _ _ xv (K5D.kp hk) hx
              rw [show apTo (con P i) (ru (con P i) (pickF D1 (con P i))) D1 (con P i).vars.length = apF ru (con P i) D1 from rfl] at AP
              clear hkc bp ep p0 p1 p2 p3 p4 p5 p6 KX BW D5 K5D G1 F1 B1 S1 PR
              go_upto_region 16 with (go_at_call 113; refine IX.out.mono ?_; rintro e w' ⟨rfl, hw⟩; have hw := hw.symm; subst hw)
              cases hap : apF ru (con P i) D1 with
              | none =>
                rw [hap] at hs AP
                have rr : Hid (r = (D1, false)) := (Option.some.inj hs).symm
                have AP := Lib.hid AP
                clear hs hap
                go_upto_region 17 with fail
                have s0 : W5.cell? ⟨gs, 0, none⟩ = some (.slice (some ⟨g, 0, none⟩) n c0) := by rw [cell_of_row _ _ _ _ _ _ S5.out]; rfl
                have s1 : W5.cell? ⟨gs, 1, none⟩ = some (.slice (some ⟨gp, op, none⟩) np pc) := by rw [cell_of_row _ _ _ _ _ _ S5.out]; rfl
                have p0 := P0.out; have p1 := P1.out; have p2 := P2.out; have p3 := P3.out; have p4 := P4.out; have p5 := P5.out; have p6 := P6.out
                go_cut [14, 15] (fun _ v15 W => v15 = .bool false ∧ But g W5 W)
                case first =>
                  go_region_with ((go_at_call 114; go_loud (refine AP.out.mono ?_; rintro e w6 ⟨hb6, v6, rfl⟩; have BB6 := Lib.hid hb6; clear hb6)))
                  all_goals
                    go_wp2_with fail
                    go_meet
                    case rel => exact ⟨rfl, (But.of_below (Below.refl _ _).drew).trans BB6.out⟩
                obtain ⟨rfl, hb6⟩ := hcut
                have BB6 := Lib.hid (B5.out.trans hb6)
                clear hb6 s0 s1 p0 p1 p2 p3 p4 p5 p6
                go_wp2_with fail
                rw [HR.out]
                exact ⟨by rw [rr.out]; rfl, BB6.out, fun q => by rw [rr.out] at q; cases q⟩
              | some q =>
                obtain ⟨D2, ch⟩ := q
                rw [hap] at hs AP
                have HS := Lib.hid hs
                have DL2 : Hid (D2.length = n) := by show _ = _; rw [apTo_len hap, DL.out]
                have AP := Lib.hid AP
                clear hs hap
                go_upto_region 17 with fail
                have s0 : W5.cell? ⟨gs, 0, none⟩ = some (.slice (some ⟨g, 0, none⟩) n c0) := by rw [cell_of_row _ _ _ _ _ _ S5.out]; rfl
                have s1 : W5.cell? ⟨gs, 1, none⟩ = some (.slice (some ⟨gp, op, none⟩) np pc) := by rw [cell_of_row _ _ _ _ _ _ S5.out]; rfl
                have p0 := P0.out; have p1 := P1.out; have p2 := P2.out; have p3 := P3.out; have p4 := P4.out; have p5 := P5.out; have p6 := P6.out
                go_cut [14, 15] (fun v14 v15 W => v15 = .bool true ∧ InV W (chI ch) v14 ∧ DsG W g D2 ∧ But g W5 W)
                case first =>
                  go_region_with ((go_at_call 114; go_loud (refine AP.out.mono ?_; rintro e w6 ⟨hb6, v6, rfl, hv6, hg6⟩; have BB6 := Lib.hid hb6; have V6 := Lib.hid hv6; have G6 := Lib.hid hg6; clear hb6 hv6 hg6)))
                  all_goals
                    go_wp2_with fail
                    go_meet
                    case rel => exact ⟨rfl, V6.out, G6.out, (But.of_below (Below.refl _ _).drew).trans BB6.out⟩
                obtain ⟨rfl, hv6, hg6, hb6⟩ := hcut
                have BB6 := Lib.hid (B5.out.trans hb6)
                have KT := hb6.kp G5.out.blk
                have KX6 : KpX 23 W5 wc := KT
                have V6 := Lib.hid hv6; have G6 := Lib.hid hg6
                have S6 : Hid (wc.heap[gs]? = some (.cells #[.slice (some ⟨g, 0, none⟩) n c0, .slice (some ⟨gp, op, none⟩) np pc] 86 (0, 0))) := (KT gs 86 ⟨_, S5.out⟩ (by decide)).trans S5.out
                have F6 : Hid (BoF wc gw (wts.set i false)) := F5.out.keep (KT gw 4 F5.out.blk (by decide))
                have PR6 := Lib.hid (PS.out.kp (BB6.out.kp G0.out.blk))
                clear hb6 s0 s1 p0 p1 p2 p3 p4 p5 p6 KT KX6 hv6 hg6 AP P0 P1 P2 P3 P4 P5 P6 S5 F5 G5 B5 K5
                obtain ⟨W6, rfl⟩ : ∃ W6 : World, W6 = wc := ⟨_, rfl⟩
                have s1 : W6.cell? ⟨gs, 1, none⟩ = some (.slice (some ⟨gp, op, none⟩) np pc) := by rw [cell_of_row _ _ _ _ _ _ S6.out]; rfl
                go_wp2_with fail
                go_loopw [75] (fun v75 wr => ∃ k : Nat, k ≤ np ∧ v75 = .int .i64 (k : Int) ∧ BoF wr gw (wakeTo P ch (wts.set i false) k) ∧ But gw W6 wr) (fun v75 _ => np - (intOf v75).toNat)
                case atStart => exact ⟨0, Nat.zero_le _, rfl, F6.out, But.refl _ _⟩
                obtain ⟨k, hk, rfl, hF, hBt⟩ := hrel
                have F := Lib.hid hF; have BT := Lib.hid hBt
                clear hF hBt s1
                by_cases hlt : k < np
                · have KP := BT.out.kpx F6.out.blk
                  obtain ⟨gp', op', ee, bp, dd⟩ := PR6.out.read (by omega)
                  simp only [Option.some.injEq, Addr.mk.injEq, and_true] at ee
                  obtain ⟨rfl, rfl⟩ := ee
                  obtain ⟨x1, x2, x3, x6, p0, p1, p2, p3, p4, p5, p6, hkc⟩ := dd k hlt
                  clear dd
                  have ep := KP gp 33 bp (by decide)
                  have p0 := (cells_same ep _).trans p0; have p1 := (cells_same ep _).trans p1; have p2 := (cells_same ep _).trans p2; have p3 := (cells_same ep _).trans p3; have p4 := (cells_same ep _).trans p4; have p5 := (cells_same ep _).trans p5; have p6 := (cells_same ep _).trans p6
                  have KC := Lib.hid (hkc.kpx KP (by decide) (by decide))
                  have VR := Lib.hid (V6.out.kpx KP (by decide))
                  obtain ⟨a1, n1, c1, rfl⟩ := KC.out.vars.sh
                  obtain ⟨a2, n2, c2, rfl⟩ := KC.out.coefs.sh
                  obtain ⟨a3, n3, c3, rfl⟩ := KC.out.needs.sh
                  obtain ⟨a6, n6, c6, rfl⟩ := KC.out.tups.sh
                  obtain ⟨va6, vc6, rfl, lv1, lv2, hvb⟩ := VR.out.ex
                  have HVB := Lib.hid hvb
                  have nb := heap_alloc_new wr (.cells #[.int .i64 (con P k).kind, .slice a1 n1 c1, .slice a2 n2 c2, .slice a3 n3 c3, .int .i64 (con P k).rel, .int .i64 (con P k).bound, .slice a6 n6 c6] 33)
                  have bb := below_new wr (.cells #[.int .i64 (con P k).kind, .slice a1 n1 c1, .slice a2 n2 c2, .slice a3 n3 c3, .int .i64 (con P k).rel, .int .i64 (con P k).bound, .slice a6 n6 c6] 33)
                  have NB := Lib.hid nb; have BB := Lib.hid bb
                  have WKL : Hid ((wakeTo P ch (wts.set i false) k).length = np) := by show _ = _; rw [wakeTo_len, List.length_set, WL.out]
                  clear hkc hvb ep bp nb bb KP
                  go_upto_region 23 with fail
                  generalize wr.alloc (.cells #[.int .i64 (con P k).kind, .slice a1 n1 c1, .slice a2 n2 c2, .slice a3 n3 c3, .int .i64 (con P k).rel, .int .i64 (con P k).bound, .slice a6 n6 c6] 33) = WA at *
                  clear p0 p1 p2 p3 p4 p5 p6
                  obtain ⟨gc, hgc⟩ : ∃ gc, wr.heap.size = gc := ⟨_, rfl⟩
                  rw [hgc] at NB ⊢
                  clear hgc
                  have FA := Lib.hid (F.out.below BB.out)
                  have BTA := Lib.hid (BT.out.trans (But.of_below BB.out))
                  have cw := FA.out.cs k (by rw [WKL.out]; exact hlt)
                  have cw0 : (wakeTo P ch (wts.set i false) k).getD k false = (wts.set i false).getD k false := wakeTo_kept _ _ _ _ _ (Nat.le_refl _)
                  have fz := FA.out.blk.free k
                  obtain ⟨b, hb⟩ : ∃ b, (wts.set i false).getD k false = b := ⟨_, rfl⟩
                  rw [cw0, hb] at cw
                  clear cw0
                  cases b with
                  | true =>
                    have WN := Lib.hid (wake_on (P := P) (ch := ch) hb)
                    clear hb
                    go_wp2_with fail
                    go_roundw
                    case rel => exact ⟨k + 1, by omega, by go_num, by rw [WN.out]; exact FA.out, BTA.out⟩
                    simp [intOf]; omega
                  | false =>
                    have c1 : WA.cell? ⟨gc, 1, none⟩ = some (.slice a1 n1 c1) := by rw [cell_of_row _ _ _ _ _ _ NB.out]; rfl
                    have KCA := KC.out.vars.below BB.out
                    have CON := conF115 (p := fun v => (con P k).vars.contains v) (gc := gc) (HVB.out.a.below BB.out) rfl lv1 lv2 fun j hj => wakes_any _ KCA c1
                    rw [wakes_chI] at CON
                    clear KCA c1 hb
                    obtain ⟨t, ht⟩ : ∃ t, wakes (con P k) ch = t := ⟨_, rfl⟩
                    rw [ht] at CON
                    have CON := Lib.hid CON
                    cases t with
                    | true =>
                      have WN := Lib.hid (wake_yes (w := wts.set i false) ht)
                      clear ht
                      obtain ⟨W7, hW7⟩ : ∃ W7, WA.setCell ⟨gw, k, none⟩ (.bool true) = W7 := ⟨_, rfl⟩
                      have F7 : Hid (BoF W7 gw (wakeTo P ch (wts.set i false) (k + 1))) := by show BoF _ _ _; rw [← hW7, WN.out]; exact FA.out.set (by rw [WKL.out]; exact hlt) true
                      have BT7 : Hid (But gw W6 W7) := by show But _ _ _; rw [← hW7]; exact BTA.out.trans (But.setCell _ _ _ _)
                      go_wp2_with (go_at_call 50; refine CON.out.mono ?_; rintro e w' ⟨rfl, hw⟩; have hw := hw.symm; subst hw)
                      go_roundw
                      case rel => exact ⟨k + 1, by omega, by go_num, F7.out, BT7.out⟩
                      simp [intOf]; omega
                    | false =>
                      have WN := Lib.hid (wake_no (w := wts.set i false) ht)
                      clear ht
                      go_wp2_with (go_at_call 50; refine CON.out.mono ?_; rintro e w' ⟨rfl, hw⟩; have hw := hw.symm; subst hw)
                      go_roundw
                      case rel => exact ⟨k + 1, by omega, by go_num, by rw [WN.out]; exact FA.out, BTA.out⟩
                      simp [intOf]; omega
                · obtain rfl : np = k := by omega
                  have KX := BT.out.kpx F6.out.blk
                  have FIN : Hid (StL ru G P r w g gs gw n c0 (.slice (some ⟨gp, op, none⟩) np pc) f1 wr) := ⟨D2, _, HS.out, DL2.out, by rw [wakeTo_len, List.length_set, WL.out, PL.out], G6.out.kpx KX (by decide) (by decide), by rw [PL.out]; exact F.out, BB6.out.then (BT.out.below (by have := KK.out; omega) BB6.out.size (Below.refl _ _)), (KX gs 86 ⟨_, S6.out⟩ (by decide)).trans S6.out⟩
                  clear KX
                  go_wp2_with fail
                  go_roundg f1
                  case measure => omega
                  case rel => exact FIN.out
            · rw [if_neg hg] at hs; simp at hs
end Go.Proofs.YteiohgiecpibhaaGreat
