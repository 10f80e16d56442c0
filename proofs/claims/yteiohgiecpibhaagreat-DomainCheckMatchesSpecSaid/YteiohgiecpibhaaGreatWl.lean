/- Lists of numbers that are built; state.apply. -/
import Derived.Test.YteiohgiecpibhaaGreatWk
set_option linter.unusedVariables false
set_option linter.unusedSimpArgs false
set_option maxRecDepth 100000
set_option maxHeartbeats 4000000
namespace Go.Proofs.YteiohgiecpibhaaGreat
open Go.RowKit Fdm

/-- Numbers that are being built. -/
structure InO (w : World) (base : Nat) (v : Value) (l : List Int) : Prop where
  op : OwP (fun _ => True) w base 3 1 v l.length (l.map (Value.int .i64))
theorem InO.nil (w : World) (base : Nat) : InO w base (.slice none 0 0) [] := ⟨OwP.nil _ w base 3 1⟩
theorem InO.below {w w' : World} {base : Nat} {v : Value} {l : List Int} (h : InO w base v l) (hb : Below w.heap.size w w') : InO w' base v l := ⟨h.op.below hb⟩
theorem InO.lt {w : World} {base : Nat} {v : Value} {l : List Int} (h : InO w base v l) {g : Nat} (hg : v.ownBlock = some g) : base ≤ g ∧ g < w.heap.size := h.op.own.lt g hg
theorem InO.v {w : World} {base : Nat} {v : Value} {l : List Int} (h : InO w base v l) : InV w l v := by
  rcases h.op.own.2 with ⟨rfl, h0⟩ | ⟨g, cap, cur, rfl, hb, hg, hnc, hcm, hcs, htake⟩
  · have : l = [] := List.length_eq_zero_iff.1 h0
    subst this
    exact InV.nil _
  · refine ⟨_, _, rfl, hnc, by unfold maxLen at hcm; omega, fun _ => ⟨g, 0, rfl, ⟨_, hg⟩, fun i hi => ?_⟩⟩
    have := h.op.own.cellAt (g := g) (j := i) (by simpa using hi)
    rw [Nat.zero_add, this, List.getElem?_map, List.getElem?_eq_getElem hi, List.getD_eq_getElem?_getD, List.getElem?_eq_getElem hi]; rfl
theorem wpList_pushI {ops : Array Oper} {rest : List Oper} {o : Oper} {a : Act} {Q : Exit → Act → World → Prop} {w : World} (hgd : o.guard = none) (s x : Operand)
    (ho : o.op = .call { callee := .builtin .append, args := #[s, x], argTypes := #[30, 30] })
    (n : Nat) (w1 : World) (v : Value) (l : List Int) (z : Int) (hw : w = w1.alloc (.cells #[.int .i64 z] 3)) (hs : a.eval s = v) (hx : a.eval x = .slice (some ⟨w1.heap.size, 0, none⟩) 1 1)
    (hO : InO w1 n v l) (hn : n ≤ w1.heap.size) (hl : l.length ≤ 8000000000000)
    (h : ∀ v' w', InO w' n v' (l ++ [z]) → Below n w1 w' → Psh w1 w' v v' → wpList Tryz.prog ops Q rest (a.put o.dst v') w') : wpList Tryz.prog ops Q (o :: rest) a w := by
  subst hw
  obtain ⟨i0, hi0, hz0, hz1, hz2⟩ := info_parts info3
  have OW := (hO.below (below_new w1 (.cells #[.int .i64 z] 3))).op
  have B1 : Below n w1 (w1.alloc (.cells #[.int .i64 z] 3)) := (below_new _ _).mono hn
  refine wpList_append_op hgd s x 30 ho n 3 i0 _ 1 8 Tryz.underlying30 hi0 hz0 hz1 hz2 rfl (by omega) (fun _ _ => trivial) v l.length (l.map (Value.int .i64)) hs OW ⟨w1.heap.size, 0, none⟩ 1 1 [.int .i64 z] hx rfl ?_ ?_ (fun _ _ => trivial) (by unfold maxLen; omega) (by omega) (Nat.le_trans hn B1.size) ?_
  · intro j u hu
    have hh := heap_alloc_new w1 (.cells #[.int .i64 z] 3)
    rw [add_at, Nat.zero_add, cell_of_row _ _ j _ _ _ hh]
    simpa using hu
  · intro u hu
    simp at hu
    subst hu; rfl
  · intro v' w' h1 h2 h3
    refine h v' w' ⟨?_⟩ (below_own B1 OW.own (Nat.le_trans hn B1.size) h2) ⟨fun b hb hn => (h2.block b (by simp; omega) (fun e => hn e.symm)).trans ((below_new w1 _).block b hb), fun g hg => ?_, ?_⟩
    · rw [List.map_append, List.length_append]
      exact h1
    · rcases h3 g hg with q | q
      · exact .inl q
      · exact .inr (by simp at q; omega)
    · have := h2.size; simp at this; omega

theorem meetN_len : ∀ (f : Nat) (a b : Dm), (meetN f a b).length ≤ a.length + b.length
  | 0, a, b => by simp [meetN]
  | f + 1, [], b => by simp [meetN]
  | f + 1, _ :: _, [] => by simp [meetN]
  | f + 1, a :: x, b :: y => by
    simp only [meetN, List.length_append]
    have h1 := meetN_len f x (b :: y)
    have h2 := meetN_len f (a :: x) y
    simp only [List.length_cons] at h1 h2 ⊢
    split <;> split <;> simp <;> omega
theorem meetF_len (a b : Dm) : (meetF a b).length ≤ a.length + b.length := meetN_len _ a b
/-- A list of domains in memory from some block on. -/
def DsW (w : World) (base : Nat) (X : List Dm) (v : Value) : Prop := ∃ a c, v = .slice a X.length c ∧ X.length ≤ c ∧ c ≤ 9223372036854775807 ∧ (X ≠ [] → ∃ g o, a = some ⟨g, o, none⟩ ∧ base ≤ g ∧ g < w.heap.size ∧ ∀ i, i < X.length → ∃ u, w.cell? ⟨g, o + i, none⟩ = some u ∧ DmV w (dm X i) u)
theorem DmV.s {w : World} {d : Dm} {v : Value} (h : DmV w d v) : ∃ a c, v = .slice a d.length c ∧ DmS w d a d.length c := by
  obtain ⟨a, c, e, h1, h2, h3⟩ := h.ex
  exact ⟨a, c, e, h3.at_, rfl, h1, h2⟩
def chI (ch : List Nat) : List Int := ch.map fun (v : Nat) => (v : Int)
def ApPost (g : Nat) (w : World) (r : Option (List Dm × List Nat)) (e : Ending) (w' : World) : Prop := But g w w' ∧ match r with
  | none => ∃ v, e = .returned (.tuple #[v, .bool false])
  | some (D, ch) => ∃ v, e = .returned (.tuple #[v, .bool true]) ∧ InV w' (chI ch) v ∧ DsG w' g D
def ApL (w3 : World) (g : Nat) (c : Con) (X D : List Dm) (v4 v20 : Value) (wr : World) : Prop :=
  ∃ (i : Nat) (D' : List Dm) (ch : List Nat), i ≤ c.vars.length ∧ v20 = .int .i64 (i : Int) ∧ apTo c X D i = some (D', ch) ∧ D'.length = D.length ∧ (∀ v, (dm D' v).length ≤ 1000 + 1000 * i) ∧ ch.length ≤ i ∧ InO wr w3.heap.size v4 (chI ch) ∧ DsG wr g D' ∧ But g w3 wr
/-- What is in blocks of another kind than t is kept. -/
def KpX (t : Nat) (w w' : World) : Prop := ∀ b ty, Blk w b ty → ty ≠ t → w'.heap[b]? = w.heap[b]?
theorem DmV.kpx {t : Nat} {w w' : World} {d : Dm} {v : Value} (h : DmV w d v) (k : KpX t w w') (ht : 63 ≠ t) : DmV w' d v := by
  obtain ⟨a, c, e, h1, h2, h3⟩ := h.ex
  refine ⟨a, c, e, h1, h2, fun hne => ?_⟩
  obtain ⟨g, o, e, b, q⟩ := h3 hne
  have z := k g 63 b ht
  exact ⟨g, o, e, b.keep z, fun i hi => ⟨(cells_same z _).trans (q i hi).1, (cells_same z _).trans (q i hi).2⟩⟩
theorem DsG.kpx {t g : Nat} {w w' : World} {D : List Dm} (h : DsG w g D) (k : KpX t w w') (ht : 63 ≠ t) (ht2 : 23 ≠ t) : DsG w' g D := by
  have z := k g 23 h.blk ht2
  exact ⟨h.blk.keep z, fun i hi => by obtain ⟨u, p, q⟩ := h.cs i hi; exact ⟨u, (cells_same z _).trans p, q.kpx k ht⟩⟩
theorem OwP.blk {P : Value → Prop} {w : World} {base e size n : Nat} {v : Value} {xs : List Value} (h : OwP P w base e size v n xs) {g : Nat} (hg : v.ownBlock = some g) : Blk w g e := by
  rcases h.own.2 with ⟨rfl, _⟩ | ⟨g', cap, cur, rfl, hb, hgg, _⟩
  · simp [Value.ownBlock] at hg
  · simp [Value.ownBlock] at hg
    subst hg
    exact ⟨_, hgg⟩
theorem InO.psh {w w' : World} {base : Nat} {v v' : Value} {l : List Int} (h : InO w base v l) (p : Psh w w' v v') : KpX 3 w w' := fun b ty hb ht => p.keep b hb.lt fun e => (hb.ne (h.op.blk e) ht) rfl
theorem But.grown {g : Nat} {w w' : World} (h : But g w w') : w.grownBy w' (some g) := ⟨h.os, h.tape, h.output, h.size, fun b hb hn => h.block b hb fun e => hn (by rw [e])⟩
theorem But.then {g : Nat} {a b c : World} (h : But g a b) (k : Below a.heap.size b c) : But g a c :=
  ⟨k.os.trans h.os, k.tape.trans h.tape, k.output.trans h.output, Nat.le_trans h.size k.size, fun x hx hg => (k.block x hx).trans (h.block x hx hg)⟩
theorem InO.but {g : Nat} {w w' : World} {base : Nat} {v : Value} {l : List Int} (h : InO w base v l) (k : But g w w') (hg : g < base) : InO w' base v l := by
  refine ⟨h.op.kept k.grown ?_⟩
  by_cases e : v.ownBlock = none
  · exact .inl e
  · refine .inr fun q => ?_
    have := (h.lt q).1
    omega
theorem apTo_none {c : Con} {X D : List Dm} {k : Nat} (h : apTo c X D k = none) : ∀ d, apTo c X D (k + d) = none
  | 0 => h
  | d + 1 => by show (match apTo c X D (k + d) with | none => none | some (D', ch) => _) = none; rw [apTo_none h d]
theorem three_cells7 {w : World} {g : Nat} {c0 c1 c2 c3 c4 c5 c6 : Value} {t : Nat} {z : Nat × Nat} (h : w.heap[g]? = some (.cells #[c0, c1, c2, c3, c4, c5, c6] t z)) : w.cell? ⟨g, 0, none⟩ = some c0 ∧ w.cell? ⟨g, 1, none⟩ = some c1 ∧ w.cell? ⟨g, 2, none⟩ = some c2 ∧ w.cell? ⟨g, 3, none⟩ = some c3 ∧ w.cell? ⟨g, 4, none⟩ = some c4 ∧ w.cell? ⟨g, 5, none⟩ = some c5 ∧ w.cell? ⟨g, 6, none⟩ = some c6 :=
  ⟨by rw [cell_of_row _ _ _ _ _ _ h]; rfl, by rw [cell_of_row _ _ _ _ _ _ h]; rfl, by rw [cell_of_row _ _ _ _ _ _ h]; rfl, by rw [cell_of_row _ _ _ _ _ _ h]; rfl, by rw [cell_of_row _ _ _ _ _ _ h]; rfl, by rw [cell_of_row _ _ _ _ _ _ h]; rfl, by rw [cell_of_row _ _ _ _ _ _ h]; rfl⟩
theorem apply3_any {w : World} {g n c0 : Nat} {D X : List Dm} {vp : Value} {c : Con} {x1 x2 x3 x6 : Value} (hG : DsG w g D) (hn : D.length = n) (hc : n ≤ c0) (hc2 : c0 ≤ 9223372036854775807) (hkc : Kc w c x1 x2 x3 x6) (hv : VarsIn c n) (hm : c.vars.length ≤ 90)
    (hk : c.kind = 3) (hd : ∀ v, (dm D v).length ≤ 1000) (hX : X.length = c.vars.length) (hx : ∀ i, (dm X i).length ≤ 1000)
    (hR : ∀ W xv, KpT w W → DsV W (pickF D c) xv → Calls Tryz.prog 151 #[.agg #[.int .i64 c.kind, x1, x2, x3, .int .i64 c.rel, .int .i64 c.bound, x6], xv] W fun e W' => ∃ v, e = .returned v ∧ DsW W' W.heap.size X v ∧ Below W.heap.size W W') :
    Calls Tryz.prog 114 #[.agg #[.slice (some ⟨g, 0, none⟩) n c0, vp], .agg #[.int .i64 c.kind, x1, x2, x3, .int .i64 c.rel, .int .i64 c.bound, x6]] w (ApPost g w (apTo c X D c.vars.length)) := by
  obtain ⟨R, hRr⟩ : ∃ R : Ending → World → Prop, R = ApPost g w (apTo c X D c.vars.length) := ⟨_, rfl⟩
  rw [← hRr]
  have HR := Lib.hid hRr
  obtain ⟨b0, b1, b2, b3⟩ := alloc2 w (.cells #[.slice (some ⟨g, 0, none⟩) n c0, vp] 86) (.cells #[.int .i64 c.kind, x1, x2, x3, .int .i64 c.rel, .int .i64 c.bound, x6] 33)
  have G := Lib.hid hG; have KC := Lib.hid hkc; have HV := Lib.hid hv; have DN := Lib.hid hn; have HD := Lib.hid hd; have XL := Lib.hid hX; have HX := Lib.hid hx; have RU := Lib.hid hR
  have DA : Hid (DsA w D (some ⟨g, 0, none⟩)) := fun _ => ⟨g, 0, rfl, fun i hi => by obtain ⟨u, p, q⟩ := hG.cs i hi; exact ⟨u, by rw [Nat.zero_add]; exact p, q⟩⟩
  have GL : Hid (g < w.heap.size) := hG.blk.lt
  have KK := Lib.hid hk
  have B0 := Lib.hid b0; have B1 := Lib.hid b1; have B2 := Lib.hid b2; have B3 := Lib.hid b3
  clear hRr hG hkc hv hn hd hX hx hR hk b0 b1 b2 b3
  go_enter Tryz.func114, Tryz.ntmps114
  go_upto_region 1 with fail
  generalize (w.alloc (.cells #[.slice (some ⟨g, 0, none⟩) n c0, vp] 86)).alloc (.cells #[.int .i64 c.kind, x1, x2, x3, .int .i64 c.rel, .int .i64 c.bound, x6] 33) = W1 at *
  obtain ⟨gb, hgb⟩ : ∃ gb, w.heap.size = gb := ⟨_, rfl⟩
  have GB := Lib.hid hgb
  rw [hgb] at B0 B1 B3 ⊢
  clear hgb
  have s0 : W1.cell? ⟨gb, 0, none⟩ = some (.slice (some ⟨g, 0, none⟩) n c0) := by rw [cell_of_row W1 gb 0 _ _ _ B0.out]; rfl
  have s1 : W1.cell? ⟨gb, 1, none⟩ = some vp := by rw [cell_of_row W1 gb 1 _ _ _ B0.out]; rfl
  obtain ⟨p0, p1, p2, p3, p4, p5, p6⟩ := three_cells7 B1.out
  go_wp2_with (go_at_call 132; refine (picked_any (DA.out.below B2.out) DN.out hc hc2 (KC.out.kp (KpT.of_below B2.out)) HV.out (by omega)).mono ?_; rintro e w2 ⟨xv, rfl, hx2, hb2⟩; have X2 := Lib.hid hx2; have BB2 := Lib.hid hb2; clear hx2 hb2)
  have q0 := cell_later BB2.out (Nat.le_refl _) p0; have q1 := cell_later BB2.out (Nat.le_refl _) p1; have q2 := cell_later BB2.out (Nat.le_refl _) p2; have q3 := cell_later BB2.out (Nat.le_refl _) p3; have q4 := cell_later BB2.out (Nat.le_refl _) p4; have q5 := cell_later BB2.out (Nat.le_refl _) p5; have q6 := cell_later BB2.out (Nat.le_refl _) p6
  rw [KK.out] at q0
  clear p0 p1 p2 p3 p4 p5 p6 s0 s1
  go_upto_region 2 with fail
  rw [KK.out] at RU
  have RUN : Hid (∀ W, Below w2.heap.size w2 W → Calls Tryz.prog 151 #[.agg #[.int .i64 3, x1, x2, x3, .int .i64 c.rel, .int .i64 c.bound, x6], xv] W fun e W' => ∃ v, e = .returned v ∧ DsW W' W.heap.size X v ∧ Below W.heap.size W W') := fun W hW =>
    RU.out W xv (KpT.of_below (over B2.out (over BB2.out hW))) (X2.out.below hW)
  go_region_held3 (fun W => W.cell? ⟨gb + 1, 0, none⟩ = some (.int .i64 3) ∧ W.cell? ⟨gb + 1, 1, none⟩ = some x1 ∧ W.cell? ⟨gb + 1, 2, none⟩ = some x2 ∧ W.cell? ⟨gb + 1, 3, none⟩ = some x3 ∧ W.cell? ⟨gb + 1, 4, none⟩ = some (.int .i64 c.rel) ∧ W.cell? ⟨gb + 1, 5, none⟩ = some (.int .i64 c.bound) ∧ W.cell? ⟨gb + 1, 6, none⟩ = some x6)
    (first | (with_reducible exact ⟨q0, q1, q2, q3, q4, q5, q6⟩) | (with_reducible exact ⟨r0, r1, r2, r3, r4, r5, r6⟩) | (with_reducible exact ⟨t0, t1, t2, t3, t4, t5, t6⟩) | go_keep)
    (first
      | (go_at_call 133; go_loud (refine (ruleOf_any 3 (by decide) (by decide) _).mono ?_; rintro e w3 ⟨rfl, hb3⟩; have BB3 := Lib.hid (undrew hb3); have r0 := cell_later BB3.out (Nat.le_refl _) q0; have r1 := cell_later BB3.out (Nat.le_refl _) q1; have r2 := cell_later BB3.out (Nat.le_refl _) q2; have r3 := cell_later BB3.out (Nat.le_refl _) q3; have r4 := cell_later BB3.out (Nat.le_refl _) q4; have r5 := cell_later BB3.out (Nat.le_refl _) q5; have r6 := cell_later BB3.out (Nat.le_refl _) q6; clear hb3))
      | (go_at_call 151; go_loud (refine (RUN.out w3 BB3.out).mono ?_; rintro e w4 ⟨xw, rfl, hX4, hb4⟩; have X4 := Lib.hid hX4; have BB4 := Lib.hid hb4; obtain ⟨xa, xc, rfl, lx1, lx2, hXX⟩ := hX4; have XX := Lib.hid hXX; have t0 := cell_later BB4.out (Nat.le_refl _) r0; have t1 := cell_later BB4.out (Nat.le_refl _) r1; have t2 := cell_later BB4.out (Nat.le_refl _) r2; have t3 := cell_later BB4.out (Nat.le_refl _) r3; have t4 := cell_later BB4.out (Nat.le_refl _) r4; have t5 := cell_later BB4.out (Nat.le_refl _) r5; have t6 := cell_later BB4.out (Nat.le_refl _) r6; clear hb4 hXX)))
  clear q0 q1 q2 q3 q4 q5 q6 r0 r1 r2 r3 r4 r5 r6 t0 t1 t2 t3 t4 t5 t6
  obtain ⟨m, hmm⟩ : ∃ m, c.vars.length = m := ⟨_, rfl⟩
  rw [hmm] at hm XL HR
  have MM := Lib.hid hmm
  rw [XL.out] at lx1 ⊢
  have BW4 : Hid (Below w.heap.size w w4) := over B2.out (over BB2.out (over BB3.out BB4.out))
  have BX4 : Hid (Below W1.heap.size W1 w4) := over BB2.out (over BB3.out BB4.out)
  have G4 := Lib.hid (G.out.below BW4.out)
  have G4L : Hid (g < w4.heap.size) := G4.out.blk.lt
  have C1 : Hid (w4.heap[gb + 1]? = some (.cells #[.int .i64 c.kind, x1, x2, x3, .int .i64 c.rel, .int .i64 c.bound, x6] 33 (0, 0))) := (BX4.out.block _ (by have := B3.out; omega)).trans B1.out
  have C0 : Hid (w4.heap[gb]? = some (.cells #[.slice (some ⟨g, 0, none⟩) n c0, vp] 86 (0, 0))) := (BX4.out.block _ (by have := B3.out; omega)).trans B0.out
  have XW : Hid (DsW w4 w3.heap.size X (.slice xa m xc)) := ⟨xa, xc, by rw [XL.out], by rw [XL.out]; exact lx1, lx2, XX.out⟩
  have LG3 : Hid (g < w3.heap.size) := by have := (over B2.out (over BB2.out BB3.out)).size; have := GL.out; show _ < _; omega
  have LB4 : Hid (gb + 1 < w4.heap.size) := by have := BX4.out.size; have := B3.out; show _ < _; omega
  clear hmm X4 RU RUN BX4 X2 DA XX
  go_wp2_with fail
  go_loopw [4, 20] (fun v4 v20 wr => ApL w4 g c X D v4 v20 wr) (fun _ v20 _ => m - (intOf v20).toNat)
  case atStart => exact ⟨0, D, [], Nat.zero_le _, rfl, rfl, rfl, (fun v => by have := HD.out v; omega), Nat.zero_le _, InO.nil _ _, G4.out, But.refl _ _⟩
  obtain ⟨i, D', ch, hi, rfl, hap, hDl, hDn, hcl, hO, hGd, hBt⟩ := hrel
  have AP := Lib.hid hap; have DL := Lib.hid hDl; have DS := Lib.hid hDn; have O := Lib.hid hO; have GD := Lib.hid hGd; have BT := Lib.hid hBt
  rw [MM.out] at hi
  clear hap hDl hDn hO hGd hBt
  by_cases hlt : i < m
  · obtain ⟨xa', xc', xe, -, -, xx⟩ := XW.out
    simp only [Value.slice.injEq] at xe
    obtain ⟨rfl, -, rfl⟩ := xe
    obtain ⟨gx, ox, rfl, xg1, xg2, xx⟩ := xx (by intro e; have := XL.out; rw [e] at this; simp at this; omega)
    obtain ⟨u, z0, z1⟩ := xx i (by rw [XL.out]; exact hlt)
    clear xx
    obtain ⟨vv, vlt⟩ := HV.out i (by rw [MM.out]; exact hlt)
    have KW : Hid (KpT w wr) := (KpT.of_below BW4.out).trans (BT.out.kp G4.out.blk)
    have KX : Hid (KpT w4 wr) := BT.out.kp G4.out.blk
    obtain ⟨av, cv, xe1, lv1, lv2, hvB⟩ := (KC.out.vars.kp KW.out).ex
    obtain ⟨gv, ov, rfl, -, ve⟩ := hvB (by intro e; have := MM.out; rw [e] at this; simp at this; omega)
    have y0 := ve i (by rw [MM.out]; exact hlt)
    clear ve
    rw [MM.out] at xe1 lv1
    have ST : Hid (apTo c X D (i + 1) = if meetF (dm X i) (dm D' (vr c i)) = [] then none else if meetF (dm X i) (dm D' (vr c i)) = dm D' (vr c i) then some (D', ch) else some (D'.set (vr c i) (meetF (dm X i) (dm D' (vr c i))), ch ++ [vr c i])) := by
      show (match apTo c X D i with | none => none | some (D', ch) => _) = _
      rw [AP.out]
    rw [vv] at y0
    obtain ⟨v, hvv⟩ : ∃ v, vr c i = v := ⟨_, rfl⟩
    rw [hvv] at y0 vlt ST
    clear vv hvv
    have z0 := (cells_same (BT.out.block gx xg2 (by have := LG3.out; omega)) _).trans z0
    have Z1 := Lib.hid (z1.kp KX.out)
    obtain ⟨u', r0, r1⟩ := GD.out.cs v (by rw [DL.out, DN.out]; exact vlt)
    have b0 : wr.cell? ⟨gb, 0, none⟩ = some (.slice (some ⟨g, 0, none⟩) n c0) := by rw [cells_same (BT.out.block gb (by have := LB4.out; omega) (by have := GL.out; have := GB.out; omega)) 0, cell_of_row _ _ _ _ _ _ C0.out]; rfl
    have b1 : wr.cell? ⟨gb + 1, 1, none⟩ = some (.slice (some ⟨gv, ov, none⟩) m cv) := by rw [cells_same (BT.out.block (gb + 1) LB4.out (by have := GL.out; have := GB.out; omega)) 1, cell_of_row _ _ _ _ _ _ C1.out, ← xe1]; rfl
    have e1 := HX.out i; have e2 := DS.out v
    obtain ⟨ua, uc, rfl, us⟩ := z1.s
    obtain ⟨ua', uc', rfl, us'⟩ := r1.s
    obtain ⟨ua2, uc2, ue2, us2⟩ := Z1.out.s
    simp only [Value.slice.injEq] at ue2
    obtain ⟨rfl, -, rfl⟩ := ue2
    have MT := Lib.hid (meet_any us2 us' (by omega) (by omega))
    obtain ⟨Z, hZ⟩ : ∃ Z, meetF (dm X i) (dm D' v) = Z := ⟨_, rfl⟩
    have ZL : Hid (Z.length ≤ 1000 + (1000 + 1000 * i)) := by have := meetF_len (dm X i) (dm D' v); rw [hZ] at this; show _ ≤ _; omega
    rw [hZ] at MT ST
    have R0 := Lib.hid r0
    have US' := Lib.hid us'
    clear hZ us us' us2 z1 r1 xe1
    go_upto_region 7 with (go_at_call 48; refine MT.out.mono ?_; rintro e w5 ⟨v5, rfl, hd5, hb5⟩; have DV5 := Lib.hid hd5; have BB5 := Lib.hid hb5; obtain ⟨a5, c5, rfl, us5⟩ := hd5.s; have US5 := Lib.hid us5; clear hd5 hb5 us5)
    by_cases zz : Z = []
    · have AN : Hid (apTo c X D m = none) := by
        show _ = _
        have := apTo_none (ST.out.trans (if_pos zz)) (m - (i + 1))
        rwa [show i + 1 + (m - (i + 1)) = m from by omega] at this
      subst zz
      have l0 : ((([] : Dm).length : Nat) : Int) = 0 := rfl
      go_wp2_with fail
      rw [HR.out, AN.out]
      exact ⟨(But.of_below BW4.out).trans (BT.out.trans (But.of_below BB5.out)), _, rfl⟩
    · have l0 : (((Z.length : Nat) : Int) == 0) = false := by simp; exact zz
      rw [if_neg zz] at ST
      have r0 := cell_later BB5.out (Nat.le_refl _) R0.out
      have b0 := cell_later BB5.out (Nat.le_refl _) b0
      have EQ := Lib.hid (equal_any US5.out (US'.out.below BB5.out))
      by_cases ze : Z = dm D' v
      · have NX : Hid (apTo c X D (i + 1) = some (D', ch)) := by show _ = _; rw [ST.out, if_pos ze]
        rw [decide_eq_true ze] at EQ
        clear zz ze
        go_wp2_with (go_at_call 111; refine EQ.out.mono ?_; rintro e w6 ⟨rfl, hq6⟩; have Q6 := Lib.hid hq6; clear hq6)
        go_roundw
        have B6 : Below wr.heap.size wr w6 := over BB5.out Q6.out.below
        case rel => exact ⟨i + 1, D', ch, by rw [MM.out]; omega, by go_num, NX.out, DL.out, fun v => by have := DS.out v; omega, by omega, O.out.below B6, GD.out.below B6, BT.out.trans (But.of_below B6)⟩
        simp [intOf]; omega
      · have NX : Hid (apTo c X D (i + 1) = some (D'.set v Z, ch ++ [v])) := by show _ = _; rw [ST.out, if_neg ze]
        rw [decide_eq_false ze] at EQ
        clear zz ze
        go_upto_region 10 with (go_at_call 111; refine EQ.out.mono ?_; rintro e w6 ⟨rfl, hq6⟩; have Q6 := Lib.hid hq6; clear hq6)
        have B6 : Hid (Below wr.heap.size wr w6) := over BB5.out Q6.out.below
        have b0 := Q6.out.cell b0
        have r0 := Q6.out.cell r0
        have G6 := Lib.hid (GD.out.below B6.out)
        have fz := G6.out.blk.free v
        have BT6 := Lib.hid (BT.out.trans (But.of_below B6.out))
        have O6 := Lib.hid (O.out.below B6.out)
        have D6 := Lib.hid (DV5.out.below Q6.out.below)
        obtain ⟨W7, hW7⟩ : ∃ W7, w6.setCell ⟨g, v, none⟩ (.slice a5 Z.length c5) = W7 := ⟨_, rfl⟩
        have BT7 : Hid (But g w4 W7) := by show But _ _ _; rw [← hW7]; exact BT6.out.trans (But.setCell g w6 v _)
        have G7 : Hid (DsG W7 g (D'.set v Z)) := by show DsG _ _ _; rw [← hW7]; exact G6.out.set (by rw [DL.out, DN.out]; exact vlt) D6.out
        have O7 : Hid (InO W7 w4.heap.size u4 (chI ch)) := by show InO _ _ _ _; rw [← hW7]; exact O6.out.but (But.setCell g w6 v _) G4L.out
        have CL : Hid ((chI ch).length ≤ 1000) := by show _ ≤ _; unfold chI; simp; omega
        have CE : Hid (chI (ch ++ [v]) = chI ch ++ [(v : Int)]) := by show _ = _; unfold chI; simp
        have LEN : Hid ((D'.set v Z).length = D.length ∧ ∀ j, (dm (D'.set v Z) j).length ≤ 1000 + 1000 * (i + 1)) := by
          refine ⟨by rw [List.length_set]; exact DL.out, fun j => ?_⟩
          have h1 := DS.out j
          by_cases e : j = v
          · subst e
            have : dm (D'.set j Z) j = Z := by unfold dm; rw [List.getD_eq_getElem?_getD, List.getElem?_set_self (by rw [DL.out, DN.out]; exact vlt)]; rfl
            rw [this]; have := ZL.out; omega
          · have : dm (D'.set v Z) j = dm D' j := by unfold dm; rw [List.getD_eq_getElem?_getD, List.getD_eq_getElem?_getD, List.getElem?_set_ne (Ne.symm e)]
            rw [this]; omega
        go_upto_region 11 with fail
        go_wp2_with (at_builtin; refine wpList_pushI rfl _ _ rfl w4.heap.size W7 _ (chI ch) (v : Int) rfl rfl rfl O7.out BT7.out.size (by have := CL.out; omega) ?_; intro v8 w8 hO8 hB8 hP8; have O8 := Lib.hid hO8; have B8 := Lib.hid hB8; have P8 := Lib.hid hP8; clear hO8 hB8 hP8)
        go_roundw
        case rel => exact ⟨i + 1, D'.set v Z, ch ++ [v], by rw [MM.out]; omega, by go_num, NX.out, LEN.out.1, LEN.out.2, by simp; omega, by rw [CE.out]; exact O8.out, G7.out.kpx (O7.out.psh P8.out) (by decide) (by decide), BT7.out.then B8.out⟩
        simp [intOf]; omega
  · obtain rfl : m = i := by omega
    go_wp2_with fail
    rw [HR.out, AP.out]
    exact ⟨(But.of_below BW4.out).trans BT.out, _, rfl, O.out.v, GD.out⟩
end Go.Proofs.YteiohgiecpibhaaGreat
