/- apply; maps. -/
import Derived.Test.YteiohgiecpibhaaGreatME
import Derived.Maps.Own
import Derived.Maps.OwnOps
set_option linter.unusedVariables false
set_option linter.unusedSimpArgs false
set_option maxRecDepth 100000
set_option maxHeartbeats 4000000
namespace Go.Proofs.YteiohgiecpibhaaGreat
open Go.RowKit Fdm

/-- Numbers that are being built. -/
structure InO (w : World) (base : Nat) (v : Value) (l : List Int) : Prop where
  op : OwP (fun _ => True) w base 3 1 v l.length (l.map (Value.int .i64))
theorem InO.nil (w : World) (base : Nat) : InO w base (.slice none 0 0) [] := ⟨OwP.nil _ w base 3 1⟩
theorem InO.below {w w' : World} {base : Nat} {v : Value} {l : List Int} (h : InO w base v l) (hb : Below w.heap.size w w') : InO w' base v l := ⟨h.op.below hb⟩
theorem InO.lt {w : World} {base : Nat} {v : Value} {l : List Int} (h : InO w base v l) {g : Nat} (hg : v.ownBlock = some g) : base ≤ g ∧ g < w.heap.size := h.op.own.lt g hg
theorem InO.v {w : World} {base : Nat} {v : Value} {l : List Int} (h : InO w base v l) : InV w l v := by
  rcases h.op.own.2 with ⟨rfl, h0⟩ | ⟨g, cap, cur, rfl, hb, hg, hnc, hcm, hcs, htake⟩
  · have : l = [] := List.length_eq_zero_iff.1 h0
    subst this
    exact InV.nil _
  · refine ⟨_, _, rfl, hnc, by unfold maxLen at hcm; omega, fun _ => ⟨g, 0, rfl, ⟨_, hg⟩, fun i hi => ?_⟩⟩
    have := h.op.own.cellAt (g := g) (j := i) (by simpa using hi)
    rw [Nat.zero_add, this, List.getElem?_map, List.getElem?_eq_getElem hi, List.getD_eq_getElem?_getD, List.getElem?_eq_getElem hi]; rfl
theorem wpList_pushI {ops : Array Oper} {rest : List Oper} {o : Oper} {a : Act} {Q : Exit → Act → World → Prop} {w : World} (hgd : o.guard = none) (s x : Operand)
    (ho : o.op = .call { callee := .builtin .append, args := #[s, x], argTypes := #[30, 30] })
    (n : Nat) (w1 : World) (v : Value) (l : List Int) (z : Int) (hw : w = w1.alloc (.cells #[.int .i64 z] 3)) (hs : a.eval s = v) (hx : a.eval x = .slice (some ⟨w1.heap.size, 0, none⟩) 1 1)
    (hO : InO w1 n v l) (hn : n ≤ w1.heap.size) (hl : l.length ≤ 8000000000000)
    (h : ∀ v' w', InO w' n v' (l ++ [z]) → Below n w1 w' → Psh w1 w' v v' → wpList Tryz.prog ops Q rest (a.put o.dst v') w') : wpList Tryz.prog ops Q (o :: rest) a w := by
  subst hw
  obtain ⟨i0, hi0, hz0, hz1, hz2⟩ := info_parts info3
  have OW := (hO.below (below_new w1 (.cells #[.int .i64 z] 3))).op
  have B1 : Below n w1 (w1.alloc (.cells #[.int .i64 z] 3)) := (below_new _ _).mono hn
  refine wpList_append_op hgd s x 30 ho n 3 i0 _ 1 8 Tryz.underlying30 hi0 hz0 hz1 hz2 rfl (by omega) (fun _ _ => trivial) v l.length (l.map (Value.int .i64)) hs OW ⟨w1.heap.size, 0, none⟩ 1 1 [.int .i64 z] hx rfl ?_ ?_ (fun _ _ => trivial) (by unfold maxLen; omega) (by omega) (Nat.le_trans hn B1.size) ?_
  · intro j u hu
    have hh := heap_alloc_new w1 (.cells #[.int .i64 z] 3)
    rw [add_at, Nat.zero_add, cell_of_row _ _ j _ _ _ hh]
    simpa using hu
  · intro u hu
    simp at hu
    subst hu; rfl
  · intro v' w' h1 h2 h3
    refine h v' w' ⟨?_⟩ (below_own B1 OW.own (Nat.le_trans hn B1.size) h2) ⟨fun b hb hn => (h2.block b (by simp; omega) (fun e => hn e.symm)).trans ((below_new w1 _).block b hb), fun g hg => ?_, ?_⟩
    · rw [List.map_append, List.length_append]
      exact h1
    · rcases h3 g hg with q | q
      · exact .inl q
      · exact .inr (by simp at q; omega)
    · have := h2.size; simp at this; omega

theorem meetN_len : ∀ (f : Nat) (a b : Dm), (meetN f a b).length ≤ a.length + b.length
  | 0, a, b => by simp [meetN]
  | f + 1, [], b => by simp [meetN]
  | f + 1, _ :: _, [] => by simp [meetN]
  | f + 1, a :: x, b :: y => by
    simp only [meetN, List.length_append]
    have h1 := meetN_len f x (b :: y)
    have h2 := meetN_len f (a :: x) y
    simp only [List.length_cons] at h1 h2 ⊢
    split <;> split <;> simp <;> omega
theorem meetF_len (a b : Dm) : (meetF a b).length ≤ a.length + b.length := meetN_len _ a b
/-- A list of domains in memory from some block on. -/
def DsW (w : World) (base : Nat) (X : List Dm) (v : Value) : Prop := ∃ a c, v = .slice a X.length c ∧ X.length ≤ c ∧ c ≤ 9223372036854775807 ∧ (X ≠ [] → ∃ g o, a = some ⟨g, o, none⟩ ∧ base ≤ g ∧ g < w.heap.size ∧ ∀ i, i < X.length → ∃ u, w.cell? ⟨g, o + i, none⟩ = some u ∧ DmV w (dm X i) u)
theorem DmV.s {w : World} {d : Dm} {v : Value} (h : DmV w d v) : ∃ a c, v = .slice a d.length c ∧ DmS w d a d.length c := by
  obtain ⟨a, c, e, h1, h2, h3⟩ := h.ex
  exact ⟨a, c, e, h3.at_, rfl, h1, h2⟩
def chI (ch : List Nat) : List Int := ch.map fun (v : Nat) => (v : Int)
def ApPost (g : Nat) (w : World) (r : Option (List Dm × List Nat)) (e : Ending) (w' : World) : Prop := But g w w' ∧ match r with
  | none => ∃ v, e = .returned (.tuple #[v, .bool false])
  | some (D, ch) => ∃ v, e = .returned (.tuple #[v, .bool true]) ∧ InV w' (chI ch) v ∧ DsG w' g D
def ApL (w3 : World) (g : Nat) (c : Con) (X D : List Dm) (v4 v20 : Value) (wr : World) : Prop :=
  ∃ (i : Nat) (D' : List Dm) (ch : List Nat), i ≤ c.vars.length ∧ v20 = .int .i64 (i : Int) ∧ apTo c X D i = some (D', ch) ∧ D'.length = D.length ∧ (∀ v, (dm D' v).length ≤ 1000 + 1000 * i) ∧ ch.length ≤ i ∧ InO wr w3.heap.size v4 (chI ch) ∧ DsG wr g D' ∧ But g w3 wr
/-- What is in blocks of another kind than t is kept. -/
def KpX (t : Nat) (w w' : World) : Prop := ∀ b ty, Blk w b ty → ty ≠ t → w'.heap[b]? = w.heap[b]?
theorem DmV.kpx {t : Nat} {w w' : World} {d : Dm} {v : Value} (h : DmV w d v) (k : KpX t w w') (ht : 63 ≠ t) : DmV w' d v := by
  obtain ⟨a, c, e, h1, h2, h3⟩ := h.ex
  refine ⟨a, c, e, h1, h2, fun hne => ?_⟩
  obtain ⟨g, o, e, b, q⟩ := h3 hne
  have z := k g 63 b ht
  exact ⟨g, o, e, b.keep z, fun i hi => ⟨(cells_same z _).trans (q i hi).1, (cells_same z _).trans (q i hi).2⟩⟩
theorem DsG.kpx {t g : Nat} {w w' : World} {D : List Dm} (h : DsG w g D) (k : KpX t w w') (ht : 63 ≠ t) (ht2 : 23 ≠ t) : DsG w' g D := by
  have z := k g 23 h.blk ht2
  exact ⟨h.blk.keep z, fun i hi => by obtain ⟨u, p, q⟩ := h.cs i hi; exact ⟨u, (cells_same z _).trans p, q.kpx k ht⟩⟩
theorem OwP.blk {P : Value → Prop} {w : World} {base e size n : Nat} {v : Value} {xs : List Value} (h : OwP P w base e size v n xs) {g : Nat} (hg : v.ownBlock = some g) : Blk w g e := by
  rcases h.own.2 with ⟨rfl, _⟩ | ⟨g', cap, cur, rfl, hb, hgg, _⟩
  · simp [Value.ownBlock] at hg
  · simp [Value.ownBlock] at hg
    subst hg
    exact ⟨_, hgg⟩
theorem InO.psh {w w' : World} {base : Nat} {v v' : Value} {l : List Int} (h : InO w base v l) (p : Psh w w' v v') : KpX 3 w w' := fun b ty hb ht => p.keep b hb.lt fun e => (hb.ne (h.op.blk e) ht) rfl
theorem But.grown {g : Nat} {w w' : World} (h : But g w w') : w.grownBy w' (some g) := ⟨h.os, h.tape, h.output, h.size, fun b hb hn => h.block b hb fun e => hn (by rw [e])⟩
theorem But.then {g : Nat} {a b c : World} (h : But g a b) (k : Below a.heap.size b c) : But g a c :=
  ⟨k.os.trans h.os, k.tape.trans h.tape, k.output.trans h.output, Nat.le_trans h.size k.size, fun x hx hg => (k.block x hx).trans (h.block x hx hg)⟩
theorem InO.but {g : Nat} {w w' : World} {base : Nat} {v : Value} {l : List Int} (h : InO w base v l) (k : But g w w') (hg : g < base) : InO w' base v l := by
  refine ⟨h.op.kept k.grown ?_⟩
  by_cases e : v.ownBlock = none
  · exact .inl e
  · refine .inr fun q => ?_
    have := (h.lt q).1
    omega
theorem apTo_none {c : Con} {X D : List Dm} {k : Nat} (h : apTo c X D k = none) : ∀ d, apTo c X D (k + d) = none
  | 0 => h
  | d + 1 => by show (match apTo c X D (k + d) with | none => none | some (D', ch) => _) = none; rw [apTo_none h d]
theorem three_cells7 {w : World} {g : Nat} {c0 c1 c2 c3 c4 c5 c6 : Value} {t : Nat} {z : Nat × Nat} (h : w.heap[g]? = some (.cells #[c0, c1, c2, c3, c4, c5, c6] t z)) : w.cell? ⟨g, 0, none⟩ = some c0 ∧ w.cell? ⟨g, 1, none⟩ = some c1 ∧ w.cell? ⟨g, 2, none⟩ = some c2 ∧ w.cell? ⟨g, 3, none⟩ = some c3 ∧ w.cell? ⟨g, 4, none⟩ = some c4 ∧ w.cell? ⟨g, 5, none⟩ = some c5 ∧ w.cell? ⟨g, 6, none⟩ = some c6 :=
  ⟨by rw [cell_of_row _ _ _ _ _ _ h]; rfl, by rw [cell_of_row _ _ _ _ _ _ h]; rfl, by rw [cell_of_row _ _ _ _ _ _ h]; rfl, by rw [cell_of_row _ _ _ _ _ _ h]; rfl, by rw [cell_of_row _ _ _ _ _ _ h]; rfl, by rw [cell_of_row _ _ _ _ _ _ h]; rfl, by rw [cell_of_row _ _ _ _ _ _ h]; rfl⟩
theorem apply3_any {w : World} {g n c0 : Nat} {D X : List Dm} {vp : Value} {c : Con} {x1 x2 x3 x6 : Value} (hG : DsG w g D) (hn : D.length = n) (hc : n ≤ c0) (hc2 : c0 ≤ 9223372036854775807) (hkc : Kc w c x1 x2 x3 x6) (hv : VarsIn c n) (hm : c.vars.length ≤ 90)
    (hk : c.kind = 3) (hd : ∀ v, (dm D v).length ≤ 1000) (hX : X.length = c.vars.length) (hx : ∀ i, (dm X i).length ≤ 1000)
    (hR : ∀ W xv, KpT w W → DsV W (pickF D c) xv → Calls Tryz.prog 151 #[.agg #[.int .i64 c.kind, x1, x2, x3, .int .i64 c.rel, .int .i64 c.bound, x6], xv] W fun e W' => ∃ v, e = .returned v ∧ DsW W' W.heap.size X v ∧ Below W.heap.size W W') :
    Calls Tryz.prog 114 #[.agg #[.slice (some ⟨g, 0, none⟩) n c0, vp], .agg #[.int .i64 c.kind, x1, x2, x3, .int .i64 c.rel, .int .i64 c.bound, x6]] w (ApPost g w (apTo c X D c.vars.length)) := by
  obtain ⟨R, hRr⟩ : ∃ R : Ending → World → Prop, R = ApPost g w (apTo c X D c.vars.length) := ⟨_, rfl⟩
  rw [← hRr]
  have HR := Lib.hid hRr
  obtain ⟨b0, b1, b2, b3⟩ := alloc2 w (.cells #[.slice (some ⟨g, 0, none⟩) n c0, vp] 86) (.cells #[.int .i64 c.kind, x1, x2, x3, .int .i64 c.rel, .int .i64 c.bound, x6] 33)
  have G := Lib.hid hG; have KC := Lib.hid hkc; have HV := Lib.hid hv; have DN := Lib.hid hn; have HD := Lib.hid hd; have XL := Lib.hid hX; have HX := Lib.hid hx; have RU := Lib.hid hR
  have DA : Hid (DsA w D (some ⟨g, 0, none⟩)) := fun _ => ⟨g, 0, rfl, fun i hi => by obtain ⟨u, p, q⟩ := hG.cs i hi; exact ⟨u, by rw [Nat.zero_add]; exact p, q⟩⟩
  have GL : Hid (g < w.heap.size) := hG.blk.lt
  have KK := Lib.hid hk
  have B0 := Lib.hid b0; have B1 := Lib.hid b1; have B2 := Lib.hid b2; have B3 := Lib.hid b3
  clear hRr hG hkc hv hn hd hX hx hR hk b0 b1 b2 b3
  go_enter Tryz.func114, Tryz.ntmps114
  go_upto_region 1 with fail
  generalize (w.alloc (.cells #[.slice (some ⟨g, 0, none⟩) n c0, vp] 86)).alloc (.cells #[.int .i64 c.kind, x1, x2, x3, .int .i64 c.rel, .int .i64 c.bound, x6] 33) = W1 at *
  obtain ⟨gb, hgb⟩ : ∃ gb, w.heap.size = gb := ⟨_, rfl⟩
  have GB := Lib.hid hgb
  rw [hgb] at B0 B1 B3 ⊢
  clear hgb
  have s0 : W1.cell? ⟨gb, 0, none⟩ = some (.slice (some ⟨g, 0, none⟩) n c0) := by rw [cell_of_row W1 gb 0 _ _ _ B0.out]; rfl
  have s1 : W1.cell? ⟨gb, 1, none⟩ = some vp := by rw [cell_of_row W1 gb 1 _ _ _ B0.out]; rfl
  obtain ⟨p0, p1, p2, p3, p4, p5, p6⟩ := three_cells7 B1.out
  go_wp2_with (go_at_call 132; refine (picked_any (DA.out.below B2.out) DN.out hc hc2 (KC.out.kp (KpT.of_below B2.out)) HV.out (by omega)).mono ?_; rintro e w2 ⟨xv, rfl, hx2, hb2⟩; have X2 := Lib.hid hx2; have BB2 := Lib.hid hb2; clear hx2 hb2)
  have q0 := cell_later BB2.out (Nat.le_refl _) p0; have q1 := cell_later BB2.out (Nat.le_refl _) p1; have q2 := cell_later BB2.out (Nat.le_refl _) p2; have q3 := cell_later BB2.out (Nat.le_refl _) p3; have q4 := cell_later BB2.out (Nat.le_refl _) p4; have q5 := cell_later BB2.out (Nat.le_refl _) p5; have q6 := cell_later BB2.out (Nat.le_refl _) p6
  rw [KK.out] at q0
  clear p0 p1 p2 p3 p4 p5 p6 s0 s1
  go_upto_region 2 with fail
  rw [KK.out] at RU
  have RUN : Hid (∀ W, Below w2.heap.size w2 W → Calls Tryz.prog 151 #[.agg #[.int .i64 3, x1, x2, x3, .int .i64 c.rel, .int .i64 c.bound, x6], xv] W fun e W' => ∃ v, e = .returned v ∧ DsW W' W.heap.size X v ∧ Below W.heap.size W W') := fun W hW =>
    RU.out W xv (KpT.of_below (over B2.out (over BB2.out hW))) (X2.out.below hW)
  go_region_held3 (fun W => W.cell? ⟨gb + 1, 0, none⟩ = some (.int .i64 3) ∧ W.cell? ⟨gb + 1, 1, none⟩ = some x1 ∧ W.cell? ⟨gb + 1, 2, none⟩ = some x2 ∧ W.cell? ⟨gb + 1, 3, none⟩ = some x3 ∧ W.cell? ⟨gb + 1, 4, none⟩ = some (.int .i64 c.rel) ∧ W.cell? ⟨gb + 1, 5, none⟩ = some (.int .i64 c.bound) ∧ W.cell? ⟨gb + 1, 6, none⟩ = some x6)
    (first | (with_reducible exact ⟨q0, q1, q2, q3, q4, q5, q6⟩) | (with_reducible exact ⟨r0, r1, r2, r3, r4, r5, r6⟩) | (with_reducible exact ⟨t0, t1, t2, t3, t4, t5, t6⟩) | go_keep)
    (first
      | (go_at_call 133; go_loud (refine (ruleOf_any 3 (by decide) (by decide) _).mono ?_; rintro e w3 ⟨rfl, hb3⟩; have BB3 := Lib.hid (undrew hb3); have r0 := cell_later BB3.out (Nat.le_refl _) q0; have r1 := cell_later BB3.out (Nat.le_refl _) q1; have r2 := cell_later BB3.out (Nat.le_refl _) q2; have r3 := cell_later BB3.out (Nat.le_refl _) q3; have r4 := cell_later BB3.out (Nat.le_refl _) q4; have r5 := cell_later BB3.out (Nat.le_refl _) q5; have r6 := cell_later BB3.out (Nat.le_refl _) q6; clear hb3))
      | (go_at_call 151; go_loud (refine (RUN.out w3 BB3.out).mono ?_; rintro e w4 ⟨xw, rfl, hX4, hb4⟩; have X4 := Lib.hid hX4; have BB4 := Lib.hid hb4; obtain ⟨xa, xc, rfl, lx1, lx2, hXX⟩ := hX4; have XX := Lib.hid hXX; have t0 := cell_later BB4.out (Nat.le_refl _) r0; have t1 := cell_later BB4.out (Nat.le_refl _) r1; have t2 := cell_later BB4.out (Nat.le_refl _) r2; have t3 := cell_later BB4.out (Nat.le_refl _) r3; have t4 := cell_later BB4.out (Nat.le_refl _) r4; have t5 := cell_later BB4.out (Nat.le_refl _) r5; have t6 := cell_later BB4.out (Nat.le_refl _) r6; clear hb4 hXX)))
  clear q0 q1 q2 q3 q4 q5 q6 r0 r1 r2 r3 r4 r5 r6 t0 t1 t2 t3 t4 t5 t6
  obtain ⟨m, hmm⟩ : ∃ m, c.vars.length = m := ⟨_, rfl⟩
  rw [hmm] at hm XL HR
  have MM := Lib.hid hmm
  rw [XL.out] at lx1 ⊢
  have BW4 : Hid (Below w.heap.size w w4) := over B2.out (over BB2.out (over BB3.out BB4.out))
  have BX4 : Hid (Below W1.heap.size W1 w4) := over BB2.out (over BB3.out BB4.out)
  have G4 := Lib.hid (G.out.below BW4.out)
  have G4L : Hid (g < w4.heap.size) := G4.out.blk.lt
  have C1 : Hid (w4.heap[gb + 1]? = some (.cells #[.int .i64 c.kind, x1, x2, x3, .int .i64 c.rel, .int .i64 c.bound, x6] 33 (0, 0))) := (BX4.out.block _ (by have := B3.out; omega)).trans B1.out
  have C0 : Hid (w4.heap[gb]? = some (.cells #[.slice (some ⟨g, 0, none⟩) n c0, vp] 86 (0, 0))) := (BX4.out.block _ (by have := B3.out; omega)).trans B0.out
  have XW : Hid (DsW w4 w3.heap.size X (.slice xa m xc)) := ⟨xa, xc, by rw [XL.out], by rw [XL.out]; exact lx1, lx2, XX.out⟩
  have LG3 : Hid (g < w3.heap.size) := by have := (over B2.out (over BB2.out BB3.out)).size; have := GL.out; show _ < _; omega
  have LB4 : Hid (gb + 1 < w4.heap.size) := by have := BX4.out.size; have := B3.out; show _ < _; omega
  clear hmm X4 RU RUN BX4 X2 DA XX
  go_wp2_with fail
  go_loopw [4, 20] (fun v4 v20 wr => ApL w4 g c X D v4 v20 wr) (fun _ v20 _ => m - (intOf v20).toNat)
  case atStart => exact ⟨0, D, [], Nat.zero_le _, rfl, rfl, rfl, (fun v => by have := HD.out v; omega), Nat.zero_le _, InO.nil _ _, G4.out, But.refl _ _⟩
  obtain ⟨i, D', ch, hi, rfl, hap, hDl, hDn, hcl, hO, hGd, hBt⟩ := hrel
  have AP := Lib.hid hap; have DL := Lib.hid hDl; have DS := Lib.hid hDn; have O := Lib.hid hO; have GD := Lib.hid hGd; have BT := Lib.hid hBt
  rw [MM.out] at hi
  clear hap hDl hDn hO hGd hBt
  by_cases hlt : i < m
  · obtain ⟨xa', xc', xe, -, -, xx⟩ := XW.out
    simp only [Value.slice.injEq] at xe
    obtain ⟨rfl, -, rfl⟩ := xe
    obtain ⟨gx, ox, rfl, xg1, xg2, xx⟩ := xx (by intro e; have := XL.out; rw [e] at this; simp at this; omega)
    obtain ⟨u, z0, z1⟩ := xx i (by rw [XL.out]; exact hlt)
    clear xx
    obtain ⟨vv, vlt⟩ := HV.out i (by rw [MM.out]; exact hlt)
    have KW : Hid (KpT w wr) := (KpT.of_below BW4.out).trans (BT.out.kp G4.out.blk)
    have KX : Hid (KpT w4 wr) := BT.out.kp G4.out.blk
    obtain ⟨av, cv, xe1, lv1, lv2, hvB⟩ := (KC.out.vars.kp KW.out).ex
    obtain ⟨gv, ov, rfl, -, ve⟩ := hvB (by intro e; have := MM.out; rw [e] at this; simp at this; omega)
    have y0 := ve i (by rw [MM.out]; exact hlt)
    clear ve
    rw [MM.out] at xe1 lv1
    have ST : Hid (apTo c X D (i + 1) = if meetF (dm X i) (dm D' (vr c i)) = [] then none else if meetF (dm X i) (dm D' (vr c i)) = dm D' (vr c i) then some (D', ch) else some (D'.set (vr c i) (meetF (dm X i) (dm D' (vr c i))), ch ++ [vr c i])) := by
      show (match apTo c X D i with | none => none | some (D', ch) => _) = _
      rw [AP.out]
    rw [vv] at y0
    obtain ⟨v, hvv⟩ : ∃ v, vr c i = v := ⟨_, rfl⟩
    rw [hvv] at y0 vlt ST
    clear vv hvv
    have z0 := (cells_same (BT.out.block gx xg2 (by have := LG3.out; omega)) _).trans z0
    have Z1 := Lib.hid (z1.kp KX.out)
    obtain ⟨u', r0, r1⟩ := GD.out.cs v (by rw [DL.out, DN.out]; exact vlt)
    have b0 : wr.cell? ⟨gb, 0, none⟩ = some (.slice (some ⟨g, 0, none⟩) n c0) := by rw [cells_same (BT.out.block gb (by have := LB4.out; omega) (by have := GL.out; have := GB.out; omega)) 0, cell_of_row _ _ _ _ _ _ C0.out]; rfl
    have b1 : wr.cell? ⟨gb + 1, 1, none⟩ = some (.slice (some ⟨gv, ov, none⟩) m cv) := by rw [cells_same (BT.out.block (gb + 1) LB4.out (by have := GL.out; have := GB.out; omega)) 1, cell_of_row _ _ _ _ _ _ C1.out, ← xe1]; rfl
    have e1 := HX.out i; have e2 := DS.out v
    obtain ⟨ua, uc, rfl, us⟩ := z1.s
    obtain ⟨ua', uc', rfl, us'⟩ := r1.s
    obtain ⟨ua2, uc2, ue2, us2⟩ := Z1.out.s
    simp only [Value.slice.injEq] at ue2
    obtain ⟨rfl, -, rfl⟩ := ue2
    have MT := Lib.hid (meet_any us2 us' (by omega) (by omega))
    obtain ⟨Z, hZ⟩ : ∃ Z, meetF (dm X i) (dm D' v) = Z := ⟨_, rfl⟩
    have ZL : Hid (Z.length ≤ 1000 + (1000 + 1000 * i)) := by have := meetF_len (dm X i) (dm D' v); rw [hZ] at this; show _ ≤ _; omega
    rw [hZ] at MT ST
    have R0 := Lib.hid r0
    have US' := Lib.hid us'
    clear hZ us us' us2 z1 r1 xe1
    go_upto_region 7 with (go_at_call 48; refine MT.out.mono ?_; rintro e w5 ⟨v5, rfl, hd5, hb5⟩; have DV5 := Lib.hid hd5; have BB5 := Lib.hid hb5; obtain ⟨a5, c5, rfl, us5⟩ := hd5.s; have US5 := Lib.hid us5; clear hd5 hb5 us5)
    by_cases zz : Z = []
    · have AN : Hid (apTo c X D m = none) := by
        show _ = _
        have := apTo_none (ST.out.trans (if_pos zz)) (m - (i + 1))
        rwa [show i + 1 + (m - (i + 1)) = m from by omega] at this
      subst zz
      have l0 : ((([] : Dm).length : Nat) : Int) = 0 := rfl
      go_wp2_with fail
      rw [HR.out, AN.out]
      exact ⟨(But.of_below BW4.out).trans (BT.out.trans (But.of_below BB5.out)), _, rfl⟩
    · have l0 : (((Z.length : Nat) : Int) == 0) = false := by simp; exact zz
      rw [if_neg zz] at ST
      have r0 := cell_later BB5.out (Nat.le_refl _) R0.out
      have b0 := cell_later BB5.out (Nat.le_refl _) b0
      have EQ := Lib.hid (equal_any US5.out (US'.out.below BB5.out))
      by_cases ze : Z = dm D' v
      · have NX : Hid (apTo c X D (i + 1) = some (D', ch)) := by show _ = _; rw [ST.out, if_pos ze]
        rw [decide_eq_true ze] at EQ
        clear zz ze
        go_wp2_with (go_at_call 111; refine EQ.out.mono ?_; rintro e w6 ⟨rfl, hq6⟩; have Q6 := Lib.hid hq6; clear hq6)
        go_roundw
        have B6 : Below wr.heap.size wr w6 := over BB5.out Q6.out.below
        case rel => exact ⟨i + 1, D', ch, by rw [MM.out]; omega, by go_num, NX.out, DL.out, fun v => by have := DS.out v; omega, by omega, O.out.below B6, GD.out.below B6, BT.out.trans (But.of_below B6)⟩
        simp [intOf]; omega
      · have NX : Hid (apTo c X D (i + 1) = some (D'.set v Z, ch ++ [v])) := by show _ = _; rw [ST.out, if_neg ze]
        rw [decide_eq_false ze] at EQ
        clear zz ze
        go_upto_region 10 with (go_at_call 111; refine EQ.out.mono ?_; rintro e w6 ⟨rfl, hq6⟩; have Q6 := Lib.hid hq6; clear hq6)
        have B6 : Hid (Below wr.heap.size wr w6) := over BB5.out Q6.out.below
        have b0 := Q6.out.cell b0
        have r0 := Q6.out.cell r0
        have G6 := Lib.hid (GD.out.below B6.out)
        have fz := G6.out.blk.free v
        have BT6 := Lib.hid (BT.out.trans (But.of_below B6.out))
        have O6 := Lib.hid (O.out.below B6.out)
        have D6 := Lib.hid (DV5.out.below Q6.out.below)
        obtain ⟨W7, hW7⟩ : ∃ W7, w6.setCell ⟨g, v, none⟩ (.slice a5 Z.length c5) = W7 := ⟨_, rfl⟩
        have BT7 : Hid (But g w4 W7) := by show But _ _ _; rw [← hW7]; exact BT6.out.trans (But.setCell g w6 v _)
        have G7 : Hid (DsG W7 g (D'.set v Z)) := by show DsG _ _ _; rw [← hW7]; exact G6.out.set (by rw [DL.out, DN.out]; exact vlt) D6.out
        have O7 : Hid (InO W7 w4.heap.size u4 (chI ch)) := by show InO _ _ _ _; rw [← hW7]; exact O6.out.but (But.setCell g w6 v _) G4L.out
        have CL : Hid ((chI ch).length ≤ 1000) := by show _ ≤ _; unfold chI; simp; omega
        have CE : Hid (chI (ch ++ [v]) = chI ch ++ [(v : Int)]) := by show _ = _; unfold chI; simp
        have LEN : Hid ((D'.set v Z).length = D.length ∧ ∀ j, (dm (D'.set v Z) j).length ≤ 1000 + 1000 * (i + 1)) := by
          refine ⟨by rw [List.length_set]; exact DL.out, fun j => ?_⟩
          have h1 := DS.out j
          by_cases e : j = v
          · subst e
            have : dm (D'.set j Z) j = Z := by unfold dm; rw [List.getD_eq_getElem?_getD, List.getElem?_set_self (by rw [DL.out, DN.out]; exact vlt)]; rfl
            rw [this]; have := ZL.out; omega
          · have : dm (D'.set v Z) j = dm D' j := by unfold dm; rw [List.getD_eq_getElem?_getD, List.getD_eq_getElem?_getD, List.getElem?_set_ne (Ne.symm e)]
            rw [this]; omega
        go_upto_region 11 with fail
        go_wp2_with (at_builtin; refine wpList_pushI rfl _ _ rfl w4.heap.size W7 _ (chI ch) (v : Int) rfl rfl rfl O7.out BT7.out.size (by have := CL.out; omega) ?_; intro v8 w8 hO8 hB8 hP8; have O8 := Lib.hid hO8; have B8 := Lib.hid hB8; have P8 := Lib.hid hP8; clear hO8 hB8 hP8)
        go_roundw
        case rel => exact ⟨i + 1, D'.set v Z, ch ++ [v], by rw [MM.out]; omega, by go_num, NX.out, LEN.out.1, LEN.out.2, by simp; omega, by rw [CE.out]; exact O8.out, G7.out.kpx (O7.out.psh P8.out) (by decide) (by decide), BT7.out.then B8.out⟩
        simp [intOf]; omega
  · obtain rfl : m = i := by omega
    go_wp2_with fail
    rw [HR.out, AP.out]
    exact ⟨(But.of_below BW4.out).trans BT.out, _, rfl, O.out.v, GD.out⟩
end Go.Proofs.YteiohgiecpibhaaGreat
set_option linter.unusedVariables false
set_option linter.unusedSimpArgs false
namespace Go.Proofs.YteiohgiecpibhaaGreat
open Go.RowKit Fdm

/-- The first entry of a key. -/
def fi (k : Int) : List (Int × Value) → Option (Nat × Value)
  | [] => none
  | p :: l => if k = p.1 then some (0, p.2) else (fi k l).map fun x => (x.1 + 1, x.2)
theorem findNow_fi (k : Int) : ∀ (es : List MapEntry) (l : List (Int × Value)) (i : Nat), es.map (fun e => (e.key, e.val)) = l.map (fun p => (Value.int .i64 p.1, p.2)) →
    Instr.findNow (.int .i64) (.int .i64 k) es i = some ((fi k l).map fun x => (i + x.1, x.2))
  | [], l, i, h => by
    cases l with
    | nil => rfl
    | cons p l => simp at h
  | e :: es, l, i, h => by
    cases l with
    | nil => simp at h
    | cons p l =>
      simp only [List.map_cons, List.cons.injEq, Prod.mk.injEq] at h
      obtain ⟨⟨h1, h2⟩, h3⟩ := h
      have ih := findNow_fi k es l (i + 1) h3
      obtain ⟨pk, pv⟩ := p
      simp only at h1 h2
      by_cases hk : k = pk
      · subst hk
        simp [Instr.findNow, h1, Instr.sameNow, fi, h2]
      · have hb : (k == pk) = false := by simpa using hk
        simp only [Instr.findNow, h1, Instr.sameNow, if_true, hb, ih, fi, if_neg hk, Option.map_map]
        congr 2
        funext x
        simp; omega
theorem fi_set (k v' : Int) (v : Value) : ∀ (l : List (Int × Value)) (i : Nat) (u : Value), fi k l = some (i, u) → fi v' (l.set i (k, v)) = if v' = k then some (i, v) else fi v' l
  | [], i, u, h => by simp [fi] at h
  | p :: l, i, u, h => by
    unfold fi at h
    by_cases e : k = p.1
    · rw [if_pos e] at h
      simp only [Option.some.injEq, Prod.mk.injEq] at h
      obtain ⟨rfl, _⟩ := h
      simp only [List.set_cons_zero, fi]
      by_cases q : v' = k
      · simp [q]
      · simp only [if_neg q, ← e]
    · rw [if_neg e] at h
      obtain ⟨⟨j, x⟩, hj, he⟩ := Option.map_eq_some_iff.1 h
      simp only [Prod.mk.injEq] at he
      obtain ⟨rfl, rfl⟩ := he
      have ih := fi_set k v' v l j x hj
      simp only [List.set_cons_succ, fi, ih]
      by_cases q : v' = k
      · subst q; simp [e]
      · simp only [if_neg q]
theorem fi_lt {k : Int} : ∀ {l : List (Int × Value)} {i : Nat} {u : Value}, fi k l = some (i, u) → i < l.length ∧ (l[i]?).map (·.1) = some k
  | [], i, u, h => by simp [fi] at h
  | p :: l, i, u, h => by
    unfold fi at h
    by_cases e : k = p.1
    · rw [if_pos e] at h
      simp only [Option.some.injEq, Prod.mk.injEq] at h
      obtain ⟨rfl, _⟩ := h
      simp [e]
    · rw [if_neg e] at h
      obtain ⟨⟨j, x⟩, hj, he⟩ := Option.map_eq_some_iff.1 h
      simp only [Prod.mk.injEq] at he
      obtain ⟨rfl, rfl⟩ := he
      have ih := fi_lt hj
      simp; exact ⟨ih.1, by simpa using ih.2⟩
theorem fi_push (k v' : Int) (v : Value) : ∀ (l : List (Int × Value)), fi k l = none → ∃ i, fi k (l ++ [(k, v)]) = some (i, v) ∧ ∀ v', v' ≠ k → fi v' (l ++ [(k, v)]) = fi v' l
  | [], _ => ⟨0, by simp [fi], fun v' h => by simp [fi, h]⟩
  | p :: l, h => by
    unfold fi at h
    by_cases e : k = p.1
    · rw [if_pos e] at h; simp at h
    · rw [if_neg e, Option.map_eq_none_iff] at h
      obtain ⟨i, h1, h2⟩ := fi_push k v' v l h
      refine ⟨i + 1, by simp [fi, e, h1], fun v' hv => ?_⟩
      simp only [List.cons_append, fi, h2 v' hv]
/-- Block b is a map with these entries. -/
def MpI (w : World) (b : Nat) (l : List (Int × Value)) : Prop := ∃ es ck, w.heap[b]? = some (.map es ck) ∧ es.toList.map (fun e => (e.key, e.val)) = l.map (fun p => (Value.int .i64 p.1, p.2))
theorem MpI.of_block {w w' : World} {b : Nat} {l : List (Int × Value)} (h : MpI w b l) (hb : w'.heap[b]? = w.heap[b]?) : MpI w' b l := by
  obtain ⟨es, ck, h1, h2⟩ := h
  exact ⟨es, ck, hb.trans h1, h2⟩
theorem run_check3z (x : Int) (em : Bool) (w : World) : (Instr.checkKey em 10000 3 (.int .i64 x)).run Tryz.prog w = .ok () w := by kernel_rfl
theorem find3z {w : World} {b : Nat} {l : List (Int × Value)} {es : Array MapEntry} (h2 : es.toList.map (fun e => (e.key, e.val)) = l.map (fun p => (Value.int .i64 p.1, p.2))) (k : Int) :
    (Instr.findKey 3 (.int .i64 k) es.toList).run Tryz.prog w = .ok (fi k l) w := by
  have := findNow_fi k es.toList l 0 h2
  have e : ((fi k l).map fun x => (0 + x.1, x.2)) = fi k l := by
    cases fi k l with
    | none => rfl
    | some x => simp
  rw [e] at this
  exact MapKept.run_findKey Tryz.underlying3 this
theorem heap_set_samez {h : Array Obj} {b : Nat} {o o' : Obj} (hb : h[b]? = some o) : (h.setIfInBounds b o')[b]? = some o' := by
  have : b < h.size := by
    rcases Nat.lt_or_ge b h.size with h' | h'
    · exact h'
    · rw [Array.getElem?_eq_none h'] at hb; simp at hb
  simp [this]
/-- What a map reads as behind 'm[k] = v'. -/
def mpS (l : List (Int × Value)) (k : Int) (v : Value) : List (Int × Value) := match fi k l with | some (i, _) => l.set i (k, v) | none => l ++ [(k, v)]
theorem mpS_fi (l : List (Int × Value)) (k : Int) (v : Value) (k' : Int) : ((fi k' (mpS l k v)).map (·.2)) = if k' = k then some v else (fi k' l).map (·.2) := by
  unfold mpS
  cases hk : fi k l with
  | none =>
    obtain ⟨i, h1, h2⟩ := fi_push k k v l hk
    simp only
    by_cases e : k' = k
    · subst e; rw [h1]; simp
    · rw [h2 k' e, if_neg e]
  | some p =>
    obtain ⟨i, u⟩ := p
    simp only
    rw [fi_set k k' v l i u hk]
    by_cases e : k' = k
    · simp [e]
    · simp [e]
theorem keyStays (x : Int) (w : World) : (Instr.keyThatStays (.int .i64 x) (.int .i64 x)).run Tryz.prog w = .ok (.int .i64 x) w := by
  have : Instr.sameBits 10000 (.int .i64 x) (.int .i64 x) = true := by simp [Instr.sameBits]
  simp [Instr.keyThatStays, this]
theorem setBlock_oth {w : World} {b k : Nat} {o : Obj} (h : k ≠ b) : (ChangeMaps.setBlock w b o).heap[k]? = w.heap[k]? := by
  simp only [ChangeMaps.setBlock, Array.getElem?_setIfInBounds]
  rw [if_neg (by omega)]
theorem grown_setBlock (w : World) (b : Nat) (o : Obj) : w.grownBy (ChangeMaps.setBlock w b o) (some b) :=
  ⟨rfl, rfl, rfl, by simp [ChangeMaps.setBlock], fun k _ hne => setBlock_oth fun e => hne (by rw [e])⟩
theorem below_setBlock {k b : Nat} {w0 w : World} (h : Below k w0 w) (hk : k ≤ b) (o : Obj) : Below k w0 (ChangeMaps.setBlock w b o) :=
  ⟨h.os, h.tape, h.output, by simpa [ChangeMaps.setBlock] using h.size, fun q hq => (setBlock_oth (by omega)).trans (h.block q hq)⟩
theorem MpI.ne {w : World} {b : Nat} {l : List (Int × Value)} (h : MpI w b l) {g : Nat} {arr : Array Value} {ty : Nat} {z : Nat × Nat} (hg : w.heap[g]? = some (.cells arr ty z)) : g ≠ b := by
  rintro rfl
  obtain ⟨es, ck, h1, _⟩ := h
  rw [h1] at hg; simp at hg
theorem MpI.lt {w : World} {b : Nat} {l : List (Int × Value)} (h : MpI w b l) : b < w.heap.size := by
  obtain ⟨es, ck, h1, _⟩ := h
  exact (Array.getElem?_eq_some_iff.1 h1).1
theorem MpI.below {w w' : World} {b : Nat} {l : List (Int × Value)} (h : MpI w b l) (hb : Below w.heap.size w w') : MpI w' b l := h.of_block (hb.block b h.lt)
theorem zerob (w : World) : (zeroValue 4).run Tryz.prog w = .ok (.bool false) w := by kernel_rfl
def nvb : Value := .bool false
/-- 'v, ok := m[k]'. -/
theorem MpI.lookb {w : World} {b : Nat} {l : List (Int × Value)} (h : MpI w b l) (k : Int) :
    (Instr.lookup 128 (.map (some b)) (.int .i64 k) true).run Tryz.prog w = .ok (.tuple #[((fi k l).map (·.2)).getD nvb, .bool (fi k l).isSome]) w := by
  obtain ⟨es, ck, h1, h2⟩ := h
  have hr := find3z (w := w) (b := b) h2 k
  cases hk : fi k l with
  | none =>
    rw [hk] at hr
    simp [Instr.lookup, run_underlying Tryz.underlying128, MapKept.run_getObj_map h1, run_check3z, hr, Result.andThen, zerob, nvb]
  | some p =>
    rw [hk] at hr
    simp [Instr.lookup, run_underlying Tryz.underlying128, MapKept.run_getObj_map h1, run_check3z, hr, Result.andThen, zerob]
theorem MpI.looksb {w : World} {b : Nat} {l : List (Int × Value)} (h : MpI w b l) (k : Int) :
    (Instr.lookup 128 (.map (some b)) (.int .i64 k) false).run Tryz.prog w = .ok (((fi k l).map (·.2)).getD nvb) w := by
  obtain ⟨es, ck, h1, h2⟩ := h
  have hr := find3z (w := w) (b := b) h2 k
  cases hk : fi k l with
  | none =>
    rw [hk] at hr
    simp [Instr.lookup, run_underlying Tryz.underlying128, MapKept.run_getObj_map h1, run_check3z, hr, Result.andThen, zerob, nvb]
  | some p =>
    rw [hk] at hr
    simp [Instr.lookup, run_underlying Tryz.underlying128, MapKept.run_getObj_map h1, run_check3z, hr, Result.andThen, zerob]
theorem MpI.storeb {w : World} {b : Nat} {l : List (Int × Value)} (h : MpI w b l) (k : Int) (v : Value) :
    ∃ o, (Instr.mapUpdate 128 (.map (some b)) (.int .i64 k) v).run Tryz.prog w = .ok () (ChangeMaps.setBlock w b o) ∧ MpI (ChangeMaps.setBlock w b o) b (mpS l k v) := by
  obtain ⟨es, ck, h1, h2⟩ := h
  have hr := find3z (w := w) (b := b) h2 k
  cases hk : fi k l with
  | none =>
    rw [hk] at hr
    refine ⟨.map (es.push { key := .int .i64 k, val := v, born := ck }) (ck + 1), ?_, ?_⟩
    · simp [Instr.mapUpdate, run_underlying Tryz.underlying128, MapKept.run_getObj_map h1, run_check3z, hr, MapKept.run_setObj_map _ h1, Result.andThen, ChangeMaps.setBlock]
    · refine ⟨_, _, heap_set_samez h1, ?_⟩
      unfold mpS
      rw [hk]
      simp [h2]
  | some p =>
    obtain ⟨i, u⟩ := p
    rw [hk] at hr
    obtain ⟨lt, ke⟩ := fi_lt hk
    have hl : es.toList.length = l.length := by have := congrArg List.length h2; simpa using this
    have ei : (es[i]?).map (·.key) = some (.int .i64 k) := by
      have := congrArg (fun q => (q[i]?).map (·.1)) h2
      simp only [List.getElem?_map, Option.map_map] at this
      rw [← Array.getElem?_toList]
      obtain ⟨e, he⟩ : ∃ e, es.toList[i]? = some e := ⟨_, List.getElem?_eq_getElem (by omega)⟩
      obtain ⟨q, hq⟩ : ∃ q, l[i]? = some q := ⟨_, List.getElem?_eq_getElem lt⟩
      rw [he, hq] at this
      rw [hq] at ke
      rw [he]
      simp at this ke ⊢
      rw [this, ke]
    refine ⟨.map (es.modify i fun e => { e with key := .int .i64 k, val := v }) ck, ?_, ?_⟩
    · have ks : (Instr.keyThatStays (.int .i64 k) (.int .i64 k)).run Tryz.prog w = .ok (.int .i64 k) w := keyStays k w
      simp [Instr.mapUpdate, run_underlying Tryz.underlying128, MapKept.run_getObj_map h1, run_check3z, hr, MapKept.run_setObj_map _ h1, Result.andThen, ChangeMaps.setBlock, ei, ks]
    · refine ⟨_, _, heap_set_samez h1, ?_⟩
      unfold mpS
      rw [hk]
      simp only
      rw [Array.toList_modify]
      refine List.ext_getElem? fun j => ?_
      have := congrArg (fun q => q[j]?) h2
      simp only [List.getElem?_map] at this ⊢
      rw [List.getElem?_modify, List.getElem?_set]
      by_cases e : i = j
      · subst e
        obtain ⟨e, he⟩ : ∃ e, es.toList[i]? = some e := ⟨_, List.getElem?_eq_getElem (by omega)⟩
        simp [he, lt]
      · simp only [if_neg e]
        simpa using this

theorem wpList_mp_lookb (w : World) {ops : Array Oper} {rest : List Oper} {o : Oper} {a : Act} {Q : Exit → Act → World → Prop} (hg : o.guard = none) (m x : Operand) (c : Bool) (hop : o.op = Op.lookup 128 m x c) (b : Nat) (l : List (Int × Value)) (k : Int)
    (hm : a.eval m = .map (some b)) (hx : a.eval x = .int .i64 k) (h : MpI w b l)
    (hK : wpList Tryz.prog ops Q rest (a.put o.dst (if c then .tuple #[((fi k l).map (·.2)).getD nvb, .bool (fi k l).isSome] else ((fi k l).map (·.2)).getD nvb)) w) :
    wpList Tryz.prog ops Q (o :: rest) a w := by
  refine wpList_plain hg fun K' hK' => ?_
  have h1 := h.lookb k
  have h2 := h.looksb k
  unfold Oper.wp
  cases c with
  | true => simp [execOp, hop, hm, hx, h1, Result.andThen]; exact hK' _ _ hK
  | false => simp [execOp, hop, hm, hx, h2, Result.andThen]; exact hK' _ _ hK
theorem wp_mp_storeb (w : World) {o : Oper} {a : Act} {K : Act → World → Prop} {Q : Exit → Act → World → Prop} (m x v : Operand) (hop : o.op = Op.mapUpdate 128 m x v) (b : Nat) (l : List (Int × Value)) (k : Int) (u : Value)
    (hm : a.eval m = .map (some b)) (hx : a.eval x = .int .i64 k) (hv : a.eval v = u) (h : MpI w b l)
    (hK : ∀ ob, MpI (ChangeMaps.setBlock w b ob) b (mpS l k u) → K (a.put o.dst undef) (ChangeMaps.setBlock w b ob)) : Oper.wp Tryz.prog o a w K Q := by
  obtain ⟨ob, hrun, r1⟩ := h.storeb k u
  unfold Oper.wp
  simp [execOp, hop, hm, hx, hv, hrun, Result.andThen]
  exact hK ob r1
theorem zeroi (w : World) : (zeroValue 3).run Tryz.prog w = .ok (.int .i64 0) w := by kernel_rfl
def nvi : Value := .int .i64 0
/-- 'v, ok := m[k]'. -/
theorem MpI.looki {w : World} {b : Nat} {l : List (Int × Value)} (h : MpI w b l) (k : Int) :
    (Instr.lookup 145 (.map (some b)) (.int .i64 k) true).run Tryz.prog w = .ok (.tuple #[((fi k l).map (·.2)).getD nvi, .bool (fi k l).isSome]) w := by
  obtain ⟨es, ck, h1, h2⟩ := h
  have hr := find3z (w := w) (b := b) h2 k
  cases hk : fi k l with
  | none =>
    rw [hk] at hr
    simp [Instr.lookup, run_underlying Tryz.underlying145, MapKept.run_getObj_map h1, run_check3z, hr, Result.andThen, zeroi, nvi]
  | some p =>
    rw [hk] at hr
    simp [Instr.lookup, run_underlying Tryz.underlying145, MapKept.run_getObj_map h1, run_check3z, hr, Result.andThen, zeroi]
theorem MpI.looksi {w : World} {b : Nat} {l : List (Int × Value)} (h : MpI w b l) (k : Int) :
    (Instr.lookup 145 (.map (some b)) (.int .i64 k) false).run Tryz.prog w = .ok (((fi k l).map (·.2)).getD nvi) w := by
  obtain ⟨es, ck, h1, h2⟩ := h
  have hr := find3z (w := w) (b := b) h2 k
  cases hk : fi k l with
  | none =>
    rw [hk] at hr
    simp [Instr.lookup, run_underlying Tryz.underlying145, MapKept.run_getObj_map h1, run_check3z, hr, Result.andThen, zeroi, nvi]
  | some p =>
    rw [hk] at hr
    simp [Instr.lookup, run_underlying Tryz.underlying145, MapKept.run_getObj_map h1, run_check3z, hr, Result.andThen, zeroi]
theorem MpI.storei {w : World} {b : Nat} {l : List (Int × Value)} (h : MpI w b l) (k : Int) (v : Value) :
    ∃ o, (Instr.mapUpdate 145 (.map (some b)) (.int .i64 k) v).run Tryz.prog w = .ok () (ChangeMaps.setBlock w b o) ∧ MpI (ChangeMaps.setBlock w b o) b (mpS l k v) := by
  obtain ⟨es, ck, h1, h2⟩ := h
  have hr := find3z (w := w) (b := b) h2 k
  cases hk : fi k l with
  | none =>
    rw [hk] at hr
    refine ⟨.map (es.push { key := .int .i64 k, val := v, born := ck }) (ck + 1), ?_, ?_⟩
    · simp [Instr.mapUpdate, run_underlying Tryz.underlying145, MapKept.run_getObj_map h1, run_check3z, hr, MapKept.run_setObj_map _ h1, Result.andThen, ChangeMaps.setBlock]
    · refine ⟨_, _, heap_set_samez h1, ?_⟩
      unfold mpS
      rw [hk]
      simp [h2]
  | some p =>
    obtain ⟨i, u⟩ := p
    rw [hk] at hr
    obtain ⟨lt, ke⟩ := fi_lt hk
    have hl : es.toList.length = l.length := by have := congrArg List.length h2; simpa using this
    have ei : (es[i]?).map (·.key) = some (.int .i64 k) := by
      have := congrArg (fun q => (q[i]?).map (·.1)) h2
      simp only [List.getElem?_map, Option.map_map] at this
      rw [← Array.getElem?_toList]
      obtain ⟨e, he⟩ : ∃ e, es.toList[i]? = some e := ⟨_, List.getElem?_eq_getElem (by omega)⟩
      obtain ⟨q, hq⟩ : ∃ q, l[i]? = some q := ⟨_, List.getElem?_eq_getElem lt⟩
      rw [he, hq] at this
      rw [hq] at ke
      rw [he]
      simp at this ke ⊢
      rw [this, ke]
    refine ⟨.map (es.modify i fun e => { e with key := .int .i64 k, val := v }) ck, ?_, ?_⟩
    · have ks : (Instr.keyThatStays (.int .i64 k) (.int .i64 k)).run Tryz.prog w = .ok (.int .i64 k) w := keyStays k w
      simp [Instr.mapUpdate, run_underlying Tryz.underlying145, MapKept.run_getObj_map h1, run_check3z, hr, MapKept.run_setObj_map _ h1, Result.andThen, ChangeMaps.setBlock, ei, ks]
    · refine ⟨_, _, heap_set_samez h1, ?_⟩
      unfold mpS
      rw [hk]
      simp only
      rw [Array.toList_modify]
      refine List.ext_getElem? fun j => ?_
      have := congrArg (fun q => q[j]?) h2
      simp only [List.getElem?_map] at this ⊢
      rw [List.getElem?_modify, List.getElem?_set]
      by_cases e : i = j
      · subst e
        obtain ⟨e, he⟩ : ∃ e, es.toList[i]? = some e := ⟨_, List.getElem?_eq_getElem (by omega)⟩
        simp [he, lt]
      · simp only [if_neg e]
        simpa using this

theorem wpList_mp_looki (w : World) {ops : Array Oper} {rest : List Oper} {o : Oper} {a : Act} {Q : Exit → Act → World → Prop} (hg : o.guard = none) (m x : Operand) (c : Bool) (hop : o.op = Op.lookup 145 m x c) (b : Nat) (l : List (Int × Value)) (k : Int)
    (hm : a.eval m = .map (some b)) (hx : a.eval x = .int .i64 k) (h : MpI w b l)
    (hK : wpList Tryz.prog ops Q rest (a.put o.dst (if c then .tuple #[((fi k l).map (·.2)).getD nvi, .bool (fi k l).isSome] else ((fi k l).map (·.2)).getD nvi)) w) :
    wpList Tryz.prog ops Q (o :: rest) a w := by
  refine wpList_plain hg fun K' hK' => ?_
  have h1 := h.looki k
  have h2 := h.looksi k
  unfold Oper.wp
  cases c with
  | true => simp [execOp, hop, hm, hx, h1, Result.andThen]; exact hK' _ _ hK
  | false => simp [execOp, hop, hm, hx, h2, Result.andThen]; exact hK' _ _ hK
theorem wp_mp_storei (w : World) {o : Oper} {a : Act} {K : Act → World → Prop} {Q : Exit → Act → World → Prop} (m x v : Operand) (hop : o.op = Op.mapUpdate 145 m x v) (b : Nat) (l : List (Int × Value)) (k : Int) (u : Value)
    (hm : a.eval m = .map (some b)) (hx : a.eval x = .int .i64 k) (hv : a.eval v = u) (h : MpI w b l)
    (hK : ∀ ob, MpI (ChangeMaps.setBlock w b ob) b (mpS l k u) → K (a.put o.dst undef) (ChangeMaps.setBlock w b ob)) : Oper.wp Tryz.prog o a w K Q := by
  obtain ⟨ob, hrun, r1⟩ := h.storei k u
  unfold Oper.wp
  simp [execOp, hop, hm, hx, hv, hrun, Result.andThen]
  exact hK ob r1

theorem wpList_mp_storeb (w : World) {ops : Array Oper} {rest : List Oper} {o : Oper} {a : Act} {Q : Exit → Act → World → Prop} (hg : o.guard = none) (m x v : Operand) (hop : o.op = Op.mapUpdate 128 m x v) (b : Nat) (l : List (Int × Value)) (k : Int) (u : Value)
    (hm : a.eval m = .map (some b)) (hx : a.eval x = .int .i64 k) (hv : a.eval v = u) (h : MpI w b l)
    (hK : ∀ ob, MpI (ChangeMaps.setBlock w b ob) b (mpS l k u) → wpList Tryz.prog ops Q rest (a.put o.dst undef) (ChangeMaps.setBlock w b ob)) : wpList Tryz.prog ops Q (o :: rest) a w :=
  wpList_plain hg fun _ hK' => wp_mp_storeb w m x v hop b l k u hm hx hv h fun ob r => hK' _ _ (hK ob r)
theorem wpList_mp_storei (w : World) {ops : Array Oper} {rest : List Oper} {o : Oper} {a : Act} {Q : Exit → Act → World → Prop} (hg : o.guard = none) (m x v : Operand) (hop : o.op = Op.mapUpdate 145 m x v) (b : Nat) (l : List (Int × Value)) (k : Int) (u : Value)
    (hm : a.eval m = .map (some b)) (hx : a.eval x = .int .i64 k) (hv : a.eval v = u) (h : MpI w b l)
    (hK : ∀ ob, MpI (ChangeMaps.setBlock w b ob) b (mpS l k u) → wpList Tryz.prog ops Q rest (a.put o.dst undef) (ChangeMaps.setBlock w b ob)) : wpList Tryz.prog ops Q (o :: rest) a w :=
  wpList_plain hg fun _ hK' => wp_mp_storei w m x v hop b l k u hm hx hv h fun ob r => hK' _ _ (hK ob r)
/-- Marks kept in a map: those of the numbers of a list. -/
def mkM : List Int → List (Int × Value)
  | [] => []
  | v :: l => mpS (mkM l) v (.bool true)
theorem mkM_fi (k : Int) : ∀ l : List Int, ((fi k (mkM l)).map (·.2)).getD nvb = .bool (l.contains k)
  | [] => rfl
  | v :: l => by
    show (((fi k (mpS (mkM l) v (.bool true))).map (·.2))).getD nvb = _
    rw [mpS_fi]
    by_cases e : k = v
    · subst e; simp
    · rw [if_neg e, mkM_fi k l]; simp [e]
end Go.Proofs.YteiohgiecpibhaaGreat
