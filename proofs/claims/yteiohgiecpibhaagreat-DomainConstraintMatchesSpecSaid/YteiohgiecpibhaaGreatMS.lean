/- different, of two variables; labelled answers true. -/
import Derived.Test.YteiohgiecpibhaaGreatXR
import Derived.Test.YteiohgiecpibhaaGreatMQ
set_option linter.unusedVariables false
set_option linter.unusedSimpArgs false
set_option maxRecDepth 100000
set_option maxHeartbeats 4000000
namespace Go.Proofs.YteiohgiecpibhaaGreat
open Go.RowKit Go.Shelf Fdm

attribute [local go_sem] Oper.semAt_some

def findRF : Code → Option Code
  | .rangeFunc g p a b => some (.rangeFunc g p a b)
  | .seq a b => match findRF a with | some c => some c | none => findRF b
  | .cond _ a b => match findRF a with | some c => some c | none => findRF b
  | .block _ a => findRF a
  | .loop a => findRF a
  | .scope a => findRF a
  | _ => none
def rfC (f : Func) : Code := match f.body with | some c => (findRF c).getD .skip | none => .skip
/-- What stays behind a number more. -/
structure Ks (W : World) (b6 : Nat) (cv : Value) (W' : World) : Prop where
  size : W.heap.size ≤ W'.heap.size
  block : ∀ b, b < W.heap.size → b ≠ b6 → cv.ownBlock ≠ some b → W'.heap[b]? = W.heap[b]?
theorem Ks.own {W : World} {b6 : Nat} {cv : Value} : OwnFrom (β := List Unit) W.heap.size (fun _ W' => Ks W b6 cv W') := fun pre A B row h hg hr =>
  ⟨Nat.le_trans h.size hg.size, fun b hb h1 h2 => (hg.block b (Nat.lt_of_lt_of_le hb h.size) fun e => by have := (hr b e.symm).1; omega).trans (h.block b hb h1 h2)⟩
theorem step_keep {W w1 : World} {b6 : Nat} {cv x u : Value} (hgrow : (W.alloc (.cells #[x] 3)).grownBy w1 cv.ownBlock) : ∀ b, b < W.heap.size → b ≠ b6 → cv.ownBlock ≠ some b → (w1.setCell ⟨b6, 0, none⟩ u).heap[b]? = W.heap[b]? := fun b hb h1 h2 =>
  (heap_setCell_other w1 ⟨b6, 0, none⟩ b u h1).trans ((hgrow.block b (by simp; omega) (fun e => h2 e.symm)).trans ((below_new W (.cells #[x] 3)).block b hb))
theorem row_not {W : World} {base k b t : Nat} {cv : Value} {xs : List Value} (h : W.ownsRow base 3 1 cv k xs) (hb : Blk W b t) (ht : t ≠ 3) : cv.ownBlock ≠ some b := fun e => by
  rcases h.2 with ⟨rfl, _⟩ | ⟨g, cap, cur, rfl, _, hg, _⟩
  · simp [Value.ownBlock] at e
  · simp only [Value.ownBlock, Option.some.injEq] at e
    subst e
    exact hb.ne ⟨_, hg⟩ ht rfl
theorem rf_step {W : World} {base b6 Bs gb off cap : Nat} {v : Int} {cv : Value} {cl : List Int} {ds : List Deferred} {K' : Act → World → Prop} {u0 u1 u2 u3 u4 u5 u7 u8 u9 u10 u11 u12 u13 u14 u15 u16 u17 u18 u19 u20 u21 u22 u23 u24 u25 u26 u27 u28 u29 u30 u31 u33 u34 u35 u36 u37 u38 u39 u40 u41 u42 u43 u44 u45 u46 u47 u48 u49 u50 u51 u52 u53 u54 u55 u56 u57 u58 u59 u60 u61 u62 u63 u64 u65 u66 u67 u68 u69 u70 u71 u72 u73 u74 u75 u76 u77 u78 u79 u80 u81 u82 u83 u84 u85 u86 u87 u88 u89 u90 u91 u92 : Value}
    (hv1 : -4611686018427387904 ≤ v) (hv2 : v ≤ 4611686018427387904) (hbase : base ≤ W.heap.size) (hb6 : base ≤ b6) (hbox : Boxed W b6 30 cv) (hcr : W.ownsRow base 3 1 cv cl.length (cl.map (Value.int .i64))) (hcl : cl.length ≤ 1000)
    (hBs : W.cell? ⟨Bs, 0, none⟩ = some (.slice (some ⟨gb, off, none⟩) 1 cap)) (hc0 : W.cell? ⟨gb, off, none⟩ = some (.int .i64 v)) (hc1 : W.cell? ⟨gb, off + 1, none⟩ = some (.int .i64 v)) (hbk : Blk W gb 63)
    (hk : ∀ (D : Nat) (cv' : Value) (W' : World), W.heap.size ≤ D → W'.heap[D]? = some (.deferred (some [])) → Boxed W' b6 30 cv' → W'.ownsRow base 3 1 cv' (cl.length + 1) ((cl ++ [v]).map (Value.int .i64)) → (∀ g, cv'.ownBlock = some g → cv.ownBlock = some g ∨ W.heap.size ≤ g) → Ks W b6 cv W' → Below base W W' → K' ⟨#[u0, u1, u2, u3, u4, u5, .pointer (some ⟨b6, 0, none⟩), u7, u8, u9, u10, u11, u12, u13, u14, u15, u16, u17, u18, u19, u20, u21, u22, u23, u24, u25, u26, u27, u28, u29, u30, u31, .func (.func 184) #[] #[.pointer (some ⟨Bs, 0, none⟩)], u33, u34, u35, u36, u37, u38, u39, u40, u41, u42, u43, u44, u45, u46, u47, u48, u49, u50, u51, u52, u53, u54, u55, u56, u57, u58, u59, u60, u61, u62, u63, u64, u65, u66, u67, u68, u69, u70, u71, u72, u73, u74, u75, u76, u77, u78, u79, u80, u81, u82, u83, u84, u85, u86, u87, u88, u89, u90, u91, u92], { target := .collected D, args := #[] } :: ds⟩ W') :
    (rfC Tryz.f151).wp Tryz.prog (Only K') ⟨#[u0, u1, u2, u3, u4, u5, .pointer (some ⟨b6, 0, none⟩), u7, u8, u9, u10, u11, u12, u13, u14, u15, u16, u17, u18, u19, u20, u21, u22, u23, u24, u25, u26, u27, u28, u29, u30, u31, .func (.func 184) #[] #[.pointer (some ⟨Bs, 0, none⟩)], u33, u34, u35, u36, u37, u38, u39, u40, u41, u42, u43, u44, u45, u46, u47, u48, u49, u50, u51, u52, u53, u54, u55, u56, u57, u58, u59, u60, u61, u62, u63, u64, u65, u66, u67, u68, u69, u70, u71, u72, u73, u74, u75, u76, u77, u78, u79, u80, u81, u82, u83, u84, u85, u86, u87, u88, u89, u90, u91, u92], ds⟩ W := by
  rw [show rfC Tryz.f151 = _ from by (simp only [rfC, Tryz.f151, findRF, Option.getD]; rfl)]
  obtain ⟨i0, hi, hz0, hz1, hz2⟩ := info_parts info3
  refine (wpIn_wide (n := 9)).1 ?_
  refine wpIn_rangeFunc_ownG (n := 9) (F := Fence.wide) rfl (by omega) (gf := 184) (lb := #[.pointer (some ⟨Bs, 0, none⟩)]) rfl trivial (enters_of Tryz.func184 (by kernel_rfl) rfl)
    (dvaluesU_stops Fence.wide 8 trivial rfl (by omega) Bs gb off cap v hv1 hv2 W hBs hc0 hc1) (fun h k => h.trans k) (fun W l o o' _ hl ho _ => K63.put W l o o' hl ho) (Below.refl _ _) (fun _ => rfl)
    (fun pre W' => (∃ cv', Boxed W' b6 30 cv' ∧ W'.ownsRow base 3 1 cv' (cl.length + pre.length) ((cl ++ pre.map fun _ => v).map (Value.int .i64)) ∧ (∀ g, cv'.ownBlock = some g → cv.ownBlock = some g ∨ W.heap.size ≤ g)) ∧ Ks W b6 cv W' ∧ Below base W W')
    (fun _ _ _ => False)
    (OwnFrom.and (Own.from (holdsRow_own base b6 30 3 1 (fun pre : List Unit => cl.length + pre.length) (fun pre : List Unit => (cl ++ pre.map fun _ => v).map (Value.int .i64)) (fun _ cv' => ∀ g, cv'.ownBlock = some g → cv.ownBlock = some g ∨ W.heap.size ≤ g)) _) (OwnFrom.and Ks.own (ownFrom_below hbase hbase)))
    (fun _ _ _ _ _ hs _ _ => hs)
    ⟨⟨cv, hbox, by simpa using hcr, fun g h => .inl h⟩, ⟨Nat.le_refl _, fun _ _ _ _ => rfl⟩, Below.refl _ _⟩
    (fun _ => { tmps := #[u0, u1, u2, u3, u4, u5, .pointer (some ⟨b6, 0, none⟩), u7, u8, .int .i64 v, u10, u11, u12, u13, u14, u15, u16, u17, u18, u19, u20, u21, u22, u23, u24, u25, u26, u27, u28, u29, u30, u31, .func (.func 184) #[] #[.pointer (some ⟨Bs, 0, none⟩)], .int .i64 v, u34, u35, u36, u37, u38, u39, u40, u41, u42, u43, u44, u45, u46, u47, u48, u49, u50, u51, u52, u53, u54, u55, u56, u57, u58, u59, u60, u61, u62, u63, u64, u65, u66, u67, u68, u69, u70, u71, u72, u73, u74, u75, u76, u77, u78, u79, u80, u81, u82, u83, u84, u85, u86, u87, u88, u89, u90, u91, u92], defers := [] }) ?assign ?body ?done ?stop
  case assign =>
    intro l x W K hK
    gi_wp2
    exact hK
  case body =>
    rintro l pre x W' ⟨⟨cv', hv, hrow, hG⟩, hKs, hB⟩ hlt
    have hc := hv.cell
    obtain rfl : pre = [] := List.length_eq_zero_iff.1 (by omega)
    simp only [List.map_nil, List.append_nil, List.length_nil, Nat.add_zero] at hrow
    have BG := Lib.hid hG; have KS := Lib.hid hKs
    gi_wp2_with (gi_at_builtin; go_loud (refine wpListIn_append_own_at _ rfl _ _ 30 rfl base 3 i0 (.int .i64 0) 1 8 Tryz.underlying30 hi hz0 hz1 hz2 rfl (by decide) _ _ _ rfl (hrow.alloc _) ⟨W'.heap.size, 0, none⟩ 1 1 [.int .i64 v] rfl rfl (cell_one_new _ _ _) (by simp [Value.oneCell']) (by unfold maxLen; omega) (by omega) (by have := hB.size; simp; omega) ?_); intro v' w1 hown' hgrow _ hat; obtain ⟨g', cap', rfl⟩ := ownsRow_succ hown'; obtain ⟨hv1, hv2, hr2, hk2, hb2⟩ := hv.appended (by decide) hrow (Nat.le_trans hbase hB.size) hb6 hown' hgrow; have hc1 := hv1.cell; have hf1 := hv1.frozen)
    have SK := Lib.hid (step_keep (b6 := b6) (u := .slice (some ⟨g', 0, none⟩) (cl.length + 1) cap') hgrow)
    refine ⟨hk2.from _, fun b hb => SK.out b hb.lt (fun e => ?_) (row_not hrow hb (by decide)), ⟨⟨_, hv2, by simpa using hr2, fun g hg => ?_⟩, ⟨Nat.le_trans KS.out.size hb2.size, fun b hb h1 h2 => (SK.out b (Nat.lt_of_lt_of_le hb KS.out.size) h1 (fun e => ?_)).trans (KS.out.block b hb h1 h2)⟩, hB.trans hb2⟩⟩
    · subst e; exact hb.ne ⟨_, hv⟩ (by decide) rfl
    · rcases hat with q | q
      · exact BG.out g (q.symm.trans hg)
      · rw [q] at hg; injection hg with hg; exact .inr (by have := KS.out.size; simp at hg; omega)
    · rcases BG.out b e with q | q
      · exact h2 q
      · omega
  case done =>
    rintro D xs W' hD rfl ⟨⟨cv', hv, hrow, hG⟩, hKs, hB⟩ hK
    exact hk D cv' W' hD hK hv hrow hG hKs hB
  case stop =>
    rintro D c pre W' _ _ h _
    exact h.elim
end Go.Proofs.YteiohgiecpibhaaGreat
set_option linter.unusedVariables false
set_option linter.unusedSimpArgs false
set_option maxRecDepth 100000
set_option maxHeartbeats 4000000
namespace Go.Proofs.YteiohgiecpibhaaGreat
open Go.RowKit Go.Shelf Fdm

theorem ownsRow_same {W W' : World} {base e sz k : Nat} {v : Value} {xs : List Value} (h : W.ownsRow base e sz v k xs) (hs : ∀ g, v.ownBlock = some g → W'.heap[g]? = W.heap[g]?) : W'.ownsRow base e sz v k xs := by
  obtain ⟨h1, h2⟩ := h
  refine ⟨h1, ?_⟩
  rcases h2 with q | ⟨g, cap, cur, rfl, b, hg, r⟩
  · exact .inl q
  · exact .inr ⟨g, cap, cur, rfl, b, (hs g rfl).trans hg, r⟩
theorem InO.same {W W' : World} {base : Nat} {v : Value} {l : List Int} (h : InO W base v l) (hs : ∀ g, v.ownBlock = some g → W'.heap[g]? = W.heap[g]?) : InO W' base v l :=
  ⟨⟨ownsRow_same h.op.own hs, fun _ _ _ _ _ => trivial⟩⟩
/-- Whatever is no cells stays. -/
def Nc (W W' : World) : Prop := ∀ (b : Nat) (o : Obj), W.heap[b]? = some o → o.isCells = false → W'.heap[b]? = some o
theorem Nc.trans {a b c : World} (h : Nc a b) (k : Nc b c) : Nc a c := fun i o hi ho => k i o (h i o hi ho) ho
theorem Nc.below {W W' : World} (h : Below W.heap.size W W') : Nc W W' := fun b o hb _ => (h.block b (Array.getElem?_eq_some_iff.1 hb).1).trans hb
theorem own_cells {W : World} {base e sz k : Nat} {v : Value} {xs : List Value} (h : W.ownsRow base e sz v k xs) {g : Nat} (hg : v.ownBlock = some g) : ∃ c, W.heap[g]? = some (.cells c e (0, 0)) := by
  rcases h.2 with ⟨rfl, _⟩ | ⟨g', cap, cur, rfl, b, hb, r⟩
  · simp [Value.ownBlock] at hg
  · simp only [Value.ownBlock, Option.some.injEq] at hg
    subst hg; exact ⟨cur, hb⟩
/-- The list of the small ones, and the box of their numbers, while both are filled. -/
structure Dst (base : Nat) (W : World) (b6 : Nat) (sv cv : Value) (sl cl : List Int) : Prop where
  sm : InO W base sv sl
  box : Boxed W b6 30 cv
  cr : W.ownsRow base 3 1 cv cl.length (cl.map (Value.int .i64))
  ap : ∀ g, sv.ownBlock = some g → cv.ownBlock ≠ some g
theorem Dst.lt {base b6 : Nat} {W : World} {sv cv : Value} {sl cl : List Int} (h : Dst base W b6 sv cv sl cl) : b6 < W.heap.size := (Array.getElem?_eq_some_iff.1 (show W.heap[b6]? = _ from h.box)).1
theorem Dst.below {base b6 : Nat} {W W' : World} {sv cv : Value} {sl cl : List Int} (h : Dst base W b6 sv cv sl cl) (hb : Below W.heap.size W W') : Dst base W' b6 sv cv sl cl :=
  ⟨h.sm.below hb, (hb.block _ h.lt).trans h.box, ownsRow_same h.cr fun g hg => hb.block g (h.cr.lt g hg).2, h.ap⟩
theorem Dst.push {base b6 : Nat} {W W' : World} {sv sv' cv : Value} {sl sl' cl : List Int} (h : Dst base W b6 sv cv sl cl) (o : InO W' base sv' sl') (p : Psh W W' sv sv') : Dst base W' b6 sv' cv sl' cl :=
  ⟨o, (p.keep b6 h.lt (row_not h.sm.op.own ⟨_, h.box⟩ (by decide))).trans h.box, ownsRow_same h.cr fun g hg => p.keep g (h.cr.lt g hg).2 (fun e => h.ap g e hg), fun g hg e => by
    rcases p.own g hg with q | q
    · exact h.ap g q e
    · have := (h.cr.lt g e).2; omega⟩
theorem Dst.pnc {base b6 : Nat} {W W' : World} {sv sv' cv : Value} {sl cl : List Int} (h : Dst base W b6 sv cv sl cl) (p : Psh W W' sv sv') : Nc W W' := fun b o hb ho =>
  (p.keep b (Array.getElem?_eq_some_iff.1 hb).1 fun e => by obtain ⟨c, q⟩ := own_cells h.sm.op.own e; rw [q] at hb; cases hb; cases ho).trans hb
theorem Dst.rf {base b6 : Nat} {W W' : World} {sv cv cv' : Value} {sl cl : List Int} {v : Int} (h : Dst base W b6 sv cv sl cl) (hv : Boxed W' b6 30 cv') (hr : W'.ownsRow base 3 1 cv' (cl.length + 1) ((cl ++ [v]).map (Value.int .i64))) (hg : ∀ g, cv'.ownBlock = some g → cv.ownBlock = some g ∨ W.heap.size ≤ g) (k : Ks W b6 cv W') : Dst base W' b6 sv cv' sl (cl ++ [v]) :=
  ⟨h.sm.same fun g q => k.block g (h.sm.lt q).2 (fun e => by
      obtain ⟨c, hc⟩ := own_cells h.sm.op.own q
      subst e
      have hb := h.box
      rw [show W.heap[g]? = _ from hb] at hc
      simp at hc) (h.ap g q), hv, by rw [List.length_append, List.length_singleton]; exact hr, fun g q e => by
    rcases hg g e with z | z
    · exact h.ap g q z
    · have := (h.sm.lt q).2; omega⟩
theorem Dst.rnc {base b6 : Nat} {W W' : World} {sv cv : Value} {sl cl : List Int} (h : Dst base W b6 sv cv sl cl) (k : Ks W b6 cv W') : Nc W W' := fun b o hb ho =>
  (k.block b (Array.getElem?_eq_some_iff.1 hb).1 (fun e => by subst e; rw [show W.heap[b]? = _ from h.box] at hb; cases hb; cases ho) fun e => by obtain ⟨c, q⟩ := own_cells h.cr e; rw [q] at hb; cases hb; cases ho).trans hb
theorem Dst.kbnc {base b6 : Nat} {W W' : World} {sv cv : Value} {sl cl : List Int} (h : Dst base W b6 sv cv sl cl) (k : Kb W.heap.size b6 W W') : Nc W W' := fun b o hb ho =>
  (k b (Array.getElem?_eq_some_iff.1 hb).1 (fun e => by subst e; rw [show W.heap[b]? = _ from h.box] at hb; cases hb; cases ho)).trans hb
theorem Dst.row {base b6 : Nat} {W : World} {sv cv : Value} {sl cl : List Int} (h : Dst base W b6 sv cv sl cl) : ∃ sa sn sc, cv = .slice sa sn sc ∧ sn = cl.length ∧ Sv.Ints W.heap.size W (.slice sa sn sc) cl := by
  have hcr := h.cr
  rcases hcr.2 with ⟨rfl, h0⟩ | ⟨g, cap, cur, rfl, _, hg, _⟩
  · obtain rfl := List.length_eq_zero_iff.1 h0
    exact ⟨none, 0, 0, rfl, rfl, .inl ⟨none, 0, rfl, rfl⟩⟩
  · refine ⟨_, _, _, rfl, rfl, .inr ⟨g, 0, cap, rfl, (Array.getElem?_eq_some_iff.1 hg).1, fun j hj => ?_⟩⟩
    rw [Nat.zero_add, hcr.cellAt j (by omega), List.getElem?_map]
    rw [List.getElem?_eq_getElem hj]; rfl
theorem InO.sl {W : World} {base : Nat} {v : Value} {l : List Int} (h : InO W base v l) : ∃ la lc, v = .slice la l.length lc ∧ l.length ≤ lc ∧ lc ≤ 9223372036854775807 ∧ InA W l la := by
  obtain ⟨a, c, e, h1, h2, h3⟩ := h.v.ex
  exact ⟨a, c, e, h1, h2, h3.a⟩
/-- Behind the turn of a block that is no cells. -/
theorem DsW.put {W : World} {base l : Nat} {X : List Dm} {v : Value} {o o' : Obj} (h : DsW W base X v) (hl : W.heap[l]? = some o) (ho : o.isCells = false) : DsW (W.putObj l o') base X v := by
  obtain ⟨a, c, e, h1, h2, h3⟩ := h
  refine ⟨a, c, e, h1, h2, fun hne => ?_⟩
  obtain ⟨g, q, e1, e2, e3, e4⟩ := h3 hne
  have nb : ∀ b, (∃ i x, W.cell? ⟨b, i, none⟩ = some x) → (W.putObj l o').heap[b]? = W.heap[b]? := fun b hb => World.putObj_heap_other (by
    rintro rfl
    obtain ⟨i, x, hx⟩ := hb
    unfold World.cell? at hx
    cases o <;> simp_all [Obj.isCells])
  refine ⟨g, q, e1, e2, Nat.lt_of_lt_of_le e3 (grownBy_putObj' W l o').size, fun i hi => ?_⟩
  obtain ⟨u, p1, p2⟩ := e4 i hi
  refine ⟨u, (cells_same (nb g ⟨_, _, p1⟩) _).trans p1, ?_⟩
  obtain ⟨a2, c2, f1, f2, f3, f4⟩ := p2.ex
  refine ⟨a2, c2, f1, f2, f3, fun hne => ?_⟩
  obtain ⟨g2, q2, k1, k2, k3⟩ := f4 hne
  have hp : 0 < (dm X i).length := List.length_pos_iff.2 hne
  have n2 := nb g2 ⟨_, _, (k3 0 hp).1⟩
  exact ⟨g2, q2, k1, k2.keep n2, fun j hj => ⟨(cells_same n2 _).trans (k3 j hj).1, (cells_same n2 _).trans (k3 j hj).2⟩⟩
theorem below_put {n : Nat} {w W : World} {l : Nat} (o' : Obj) (h : Below n w W) (hl : n ≤ l) : Below n w (W.putObj l o') := by
  have g := grownBy_putObj' W l o'
  exact ⟨g.os.trans h.os, g.tape.trans h.tape, g.output.trans h.output, Nat.le_trans h.size g.size, fun b hb => (World.putObj_heap_other (by omega)).trans (h.block b hb)⟩
/-- A small domain in memory is its number twice. -/
theorem one_mem {w : World} {d : Dm} {a : Option Addr} {n c : Nat} (h : DmV w d (.slice a d.length c)) (hn : d.length = n) (ok : Ok d) (h0 : 0 < d.length) (hs : sizeF d < 2) :
    n = 1 ∧ (-16384 ≤ leastF d ∧ leastF d ≤ 16384) ∧ ∃ g o, a = some ⟨g, o, none⟩ ∧ Blk w g 63 ∧ w.cell? ⟨g, o, none⟩ = some (.int .i64 (leastF d)) ∧ w.cell? ⟨g, o + 1, none⟩ = some (.int .i64 (leastF d)) := by
  obtain ⟨e, b⟩ := one_of ok h0 hs
  obtain ⟨a', c', e1, h1, h2, h3⟩ := h.ex
  injection e1 with e1 e2 e3
  subst e1
  obtain ⟨g, o, rfl, bk, k⟩ := h3 (List.length_pos_iff.1 h0)
  have k0 := k 0 h0
  have s0 : sp d 0 = (leastF d, leastF d) := by rw [e]; rfl
  rw [s0] at k0
  refine ⟨by rw [← hn, e]; rfl, b, g, o, rfl, bk, by simpa using k0.1, by simpa using k0.2⟩
theorem different_any {w : World} {D : List Dm} {a : Option Addr} {c0 : Nat} {k r b : Int} {x1 x2 x3 x6 : Value} (hk : Kc w exC x1 x2 x3 x6) (hD : DsA w D a) (hn : D.length = 2) (hc : 2 ≤ c0) (hc2 : c0 ≤ 9223372036854775807) (hok : okD D = true) (hne : ¬ (sizeF (dm D 0) < 2 ∧ sizeF (dm D 1) < 2 ∧ leastF (dm D 0) = leastF (dm D 1))) :
    Calls Tryz.prog 151 #[.agg #[.int .i64 k, x1, x2, x3, .int .i64 r, .int .i64 b, x6], .slice a 2 c0] w fun e w' => ∃ v, e = .returned v ∧ DsW w' w.heap.size (difF D) v ∧ Below w.heap.size w w' := by
  obtain ⟨R, hRr⟩ : ∃ R : Ending → World → Prop, R = fun e w' => ∃ v, e = .returned v ∧ DsW w' w.heap.size (difF D) v ∧ Below w.heap.size w w' := ⟨_, rfl⟩
  rw [← hRr]
  have HR := Lib.hid hRr
  obtain ⟨p1, m1, c1, rfl⟩ := hk.vars.sh
  obtain ⟨p2, m2, c2, rfl⟩ := hk.coefs.sh
  obtain ⟨p3, m3, c3, rfl⟩ := hk.needs.sh
  obtain ⟨p6, m6, c6, rfl⟩ := hk.tups.sh
  have HD := Lib.hid hD; have DN := Lib.hid hn
  have SS := Lib.hid (sml_of hn hok hne)
  have CRT := Lib.hid (show critF D = (smallF D).map fun i => leastF (dm D i) from rfl)
  have SMT := Lib.hid (smallF_two hn)
  clear hk hRr hD hn
  refine callsIn_wide.1 (callsIn_of_wp_marks (F := Fence.wide) (n := 9) Tryz.func151 rfl trivial ?_ rfl)
  simp only [Tryz.ntmps151, List.size_toArray, List.length_cons, List.length_nil, Nat.reduceAdd, Nat.reduceSub, Array.replicate_succ, Array.replicate_zero, List.push_toArray, List.append_toArray, List.nil_append, List.cons_append]
  refine wpIn_wide.2 ?_
  have DD := HD.out (by intro e; have := DN.out; rw [e] at this; simp at this)
  obtain ⟨gd, od, rfl, dd⟩ := DD
  obtain ⟨u0, cu0, du0⟩ := dd 0 (by rw [DN.out]; omega)
  obtain ⟨u1, cu1, du1⟩ := dd 1 (by rw [DN.out]; omega)
  obtain ⟨a0, k0, rfl, ds0⟩ := du0.s
  obtain ⟨a1, k1, rfl, ds1⟩ := du1.s
  obtain ⟨n0, hn0⟩ : ∃ n0, (dm D 0).length = n0 := ⟨_, rfl⟩
  obtain ⟨n1, hn1⟩ : ∃ n1, (dm D 1).length = n1 := ⟨_, rfl⟩
  rw [hn0, Nat.add_zero] at cu0
  rw [hn0] at ds0
  rw [hn1] at cu1 ds1
  have okk0 := okD_at hok (v := 0) (by rw [DN.out]; omega)
  have okk1 := okD_at hok (v := 1) (by rw [DN.out]; omega)
  have V0 : Hid (sizeF (dm D 0) < 2 → n0 = 1 ∧ (-16384 ≤ leastF (dm D 0) ∧ leastF (dm D 0) ≤ 16384) ∧ ∃ g o, a0 = some ⟨g, o, none⟩ ∧ Blk w g 63 ∧ w.cell? ⟨g, o, none⟩ = some (.int .i64 (leastF (dm D 0))) ∧ w.cell? ⟨g, o + 1, none⟩ = some (.int .i64 (leastF (dm D 0)))) := Lib.hid fun hs => one_mem du0 hn0 okk0.2.2 (List.length_pos_iff.2 okk0.1) hs
  have V1 : Hid (sizeF (dm D 1) < 2 → n1 = 1 ∧ (-16384 ≤ leastF (dm D 1) ∧ leastF (dm D 1) ≤ 16384) ∧ ∃ g o, a1 = some ⟨g, o, none⟩ ∧ Blk w g 63 ∧ w.cell? ⟨g, o, none⟩ = some (.int .i64 (leastF (dm D 1))) ∧ w.cell? ⟨g, o + 1, none⟩ = some (.int .i64 (leastF (dm D 1)))) := Lib.hid fun hs => one_mem du1 hn1 okk1.2.2 (List.length_pos_iff.2 okk1.1) hs
  obtain ⟨s0, hs0⟩ : ∃ s0, sizeF (dm D 0) = s0 := ⟨_, rfl⟩
  obtain ⟨s1, hs1⟩ : ∃ s1, sizeF (dm D 1) = s1 := ⟨_, rfl⟩
  obtain ⟨v0, hv0⟩ : ∃ v0, leastF (dm D 0) = v0 := ⟨_, rfl⟩
  obtain ⟨v1, hv1⟩ : ∃ v1, leastF (dm D 1) = v1 := ⟨_, rfl⟩
  have HNE := Lib.hid hne; have OKD := Lib.hid hok
  rw [hs0, hs1] at SMT
  rw [hs0, hs1, hv0, hv1] at HNE
  rw [hs0, hv0] at V0
  rw [hs1, hv1] at V1
  have SZ0 : Hid (∀ W, Below w.heap.size w W → Calls Tryz.prog 44 #[.slice a0 n0 k0] W (CkPost W s0)) := fun W hW => hs0 ▸ size_any (ds0.below hW) okk0.2.2
  have SZ1 : Hid (∀ W, Below w.heap.size w W → Calls Tryz.prog 44 #[.slice a1 n1 k1] W (CkPost W s1)) := fun W hW => hs1 ▸ size_any (ds1.below hW) okk1.2.2
  have CU0 := Lib.hid cu0; have CU1 := Lib.hid cu1; have HV0 := Lib.hid hv0; have HV1 := Lib.hid hv1
  obtain ⟨q0, q1, q2, q3⟩ := alloc2 w (.cells #[.int .i64 k, .slice p1 m1 c1, .slice p2 m2 c2, .slice p3 m3 c3, .int .i64 r, .int .i64 b, .slice p6 m6 c6] 33) (.cells #[.slice none 0 0] 30)
  obtain ⟨w1, hw1⟩ : ∃ w1, (w.alloc (.cells #[.int .i64 k, .slice p1 m1 c1, .slice p2 m2 c2, .slice p3 m3 c3, .int .i64 r, .int .i64 b, .slice p6 m6 c6] 33)).alloc (.cells #[.slice none 0 0] 30) = w1 := ⟨_, rfl⟩
  rw [hw1] at q0 q1 q2 q3
  have B1 := Lib.hid q2; have Z1 := Lib.hid q3
  have DS1 : Hid (Dst w.heap.size w1 (w.heap.size + 1) (.slice none 0 0) (.slice none 0 0) [] []) := Lib.hid ⟨InO.nil _ _, q1, World.ownsRow_nil _ _ _ _, fun g h => by simp [Value.ownBlock] at h⟩
  clear cu0 cu1 du0 du1 dd okk0 okk1 ds0 ds1 q0 q1 q2 q3 hok hne hs0 hs1 hv0 hv1 hn0 hn1
  refine wp_seq_k fun K0 h0 => ?_
  have H0 := Lib.hid h0
  clear h0
  go_wp2_with fail
  refine H0.out _ _ ?_
  clear H0 K0
  refine wp_seq_k fun K0 h0 => ?_
  have H0 := Lib.hid h0
  clear h0
  go_wp2_with fail
  refine H0.out _ _ ?_
  clear H0 K0
  refine wp_seq_k fun K0 h0 => ?_
  have H0 := Lib.hid h0
  clear h0
  go_wp2_with fail
  refine H0.out _ _ ?_
  clear H0 K0 hw1
  refine wp_seq_k fun KR hr => ?_
  have HKR := Lib.hid hr
  clear hr
  go_wp2_with fail
  by_cases z0 : s0 < 2
  · by_cases z1 : s1 < 2
    · obtain ⟨rfl, ⟨vl0, vh0⟩, g0, o0, rfl, bk, ca, cb⟩ := V0.out z0
      have E0k := Lib.hid bk; have E0a := Lib.hid ca; have E0b := Lib.hid cb
      clear bk ca cb
      obtain ⟨rfl, ⟨vl1, vh1⟩, g1, o1, rfl, bk, ca, cb⟩ := V1.out z1
      have E1k := Lib.hid bk; have E1a := Lib.hid ca; have E1b := Lib.hid cb
      clear bk ca cb
      refine wp_loop_rounds 3 ?_
      rw [rounds_succ]
      have cx := cell_later B1.out (Nat.le_refl _) CU0.out
      go_wp2_with (first | (go_at_call 44; refine (SZ0.out _ B1.out).mono ?_; rintro e wa1 ⟨rfl, hb⟩; have Ba1 := Lib.hid (over B1.out hb); have Da1 := Lib.hid (DS1.out.below hb); have Na1 := Lib.hid (Nc.below hb); clear hb) | (at_builtin; refine wpList_pushI rfl _ _ rfl w.heap.size wa1 _ [] 0 rfl rfl rfl Da1.out.sm Ba1.out.size (by simp) ?_; intro v5 wb1 hO hB hP; obtain ⟨la1, lc1, rfl, -⟩ := hO.sl; have Bb1 := Lib.hid (Ba1.out.trans hB); have Db1 := Lib.hid (Da1.out.push hO hP); have Nb1 := Lib.hid (Da1.out.pnc hP); clear hO hB hP) | (go_at_call 167; refine (dvalues_any _ _ _ _).mono ?_; rintro e wc1 ⟨rfl, hwc⟩; have hh := heap_alloc_new wb1 (.cells #[.slice (some ⟨g0, o0, none⟩) 1 k0] 23); have bb := below_new wb1 (.cells #[.slice (some ⟨g0, o0, none⟩) 1 k0] 23); rw [← hwc] at hh bb; have Bc1 := Lib.hid (over Bb1.out bb); have Dc1 := Lib.hid (Db1.out.below bb); have Nc1 := Lib.hid (Nc.below bb); have Cs1 : Hid (wc1.cell? ⟨wb1.heap.size, 0, none⟩ = some (.slice (some ⟨g0, o0, none⟩) 1 k0)) := Lib.hid (by rw [cell_of_row _ _ _ _ _ _ hh]; rfl); clear hh bb hwc))
      clear cx
      refine wp_only (rf_step (W := wc1) (base := w.heap.size) (b6 := w.heap.size + 1) (Bs := wb1.heap.size) (gb := g0) (off := o0) (cap := k0) (v := v0) (cv := (.slice none 0 0)) (cl := []) (by omega) (by omega) Bc1.out.size (Nat.le_succ _) Dc1.out.box Dc1.out.cr (by simp) Cs1.out (cell_later Bc1.out (Nat.le_refl _) E0a.out) (cell_later Bc1.out (Nat.le_refl _) E0b.out) (E0k.out.keep (Bc1.out.block _ E0k.out.lt)) fun DD1 cv1 wd1 hD hdf hvv hrr hg hks hbl => ?_) (fun _ _ h => h)
      have Bd1 := Lib.hid (Bc1.out.trans hbl); have Dd1 := Lib.hid (Dc1.out.rf hvv hrr hg hks); have Nd1 := Lib.hid (Dc1.out.rnc hks); have DF1 := Lib.hid hdf; have DG1 : Hid (w.heap.size ≤ DD1) := Lib.hid (Nat.le_trans Bc1.out.size hD); have DL1 : Hid (wc1.heap.size ≤ DD1) := Lib.hid hD
      clear hD hdf hvv hrr hg hks hbl
      go_wp2_with fail
      rw [rounds_succ]
      have cx := cell_later Bd1.out (Nat.le_refl _) CU1.out
      go_wp2_with (first | (go_at_call 44; refine (SZ1.out _ Bd1.out).mono ?_; rintro e wa2 ⟨rfl, hb⟩; have Ba2 := Lib.hid (over Bd1.out hb); have Da2 := Lib.hid (Dd1.out.below hb); have Na2 := Lib.hid (Nc.below hb); clear hb) | (at_builtin; refine wpList_pushI rfl _ _ rfl w.heap.size wa2 _ [0] 1 rfl rfl rfl Da2.out.sm Ba2.out.size (by simp) ?_; intro v5 wb2 hO hB hP; obtain ⟨la2, lc2, rfl, -⟩ := hO.sl; have Bb2 := Lib.hid (Ba2.out.trans hB); have Db2 := Lib.hid (Da2.out.push hO hP); have Nb2 := Lib.hid (Da2.out.pnc hP); clear hO hB hP) | (go_at_call 167; refine (dvalues_any _ _ _ _).mono ?_; rintro e wc2 ⟨rfl, hwc⟩; have hh := heap_alloc_new wb2 (.cells #[.slice (some ⟨g1, o1, none⟩) 1 k1] 23); have bb := below_new wb2 (.cells #[.slice (some ⟨g1, o1, none⟩) 1 k1] 23); rw [← hwc] at hh bb; have Bc2 := Lib.hid (over Bb2.out bb); have Dc2 := Lib.hid (Db2.out.below bb); have Nc2 := Lib.hid (Nc.below bb); have Cs2 : Hid (wc2.cell? ⟨wb2.heap.size, 0, none⟩ = some (.slice (some ⟨g1, o1, none⟩) 1 k1)) := Lib.hid (by rw [cell_of_row _ _ _ _ _ _ hh]; rfl); clear hh bb hwc))
      clear cx
      refine wp_only (rf_step (W := wc2) (base := w.heap.size) (b6 := w.heap.size + 1) (Bs := wb2.heap.size) (gb := g1) (off := o1) (cap := k1) (v := v1) (cv := cv1) (cl := [v0]) (by omega) (by omega) Bc2.out.size (Nat.le_succ _) Dc2.out.box Dc2.out.cr (by simp) Cs2.out (cell_later Bc2.out (Nat.le_refl _) E1a.out) (cell_later Bc2.out (Nat.le_refl _) E1b.out) (E1k.out.keep (Bc2.out.block _ E1k.out.lt)) fun DD2 cv2 wd2 hD hdf hvv hrr hg hks hbl => ?_) (fun _ _ h => h)
      have Bd2 := Lib.hid (Bc2.out.trans hbl); have Dd2 := Lib.hid (Dc2.out.rf hvv hrr hg hks); have Nd2 := Lib.hid (Dc2.out.rnc hks); have DF2 := Lib.hid hdf; have DG2 : Hid (w.heap.size ≤ DD2) := Lib.hid (Nat.le_trans Bc2.out.size hD); have DL2 : Hid (wc2.heap.size ≤ DD2) := Lib.hid hD
      clear hD hdf hvv hrr hg hks hbl
      go_wp2_with fail
      rw [rounds_succ]
      go_wp2_with fail
      refine HKR.out _ _ ?_
      have SE : smallF D = [0, 1] := by rw [SMT.out, if_pos (by omega), if_pos (by omega)]; rfl
      have SI : smallI D = [0, 1] := by show (smallF D).map _ = _; rw [SE]; rfl
      have CE : critF D = [v0, v1] := by rw [CRT.out, SE]; simp [HV0.out, HV1.out]
      obtain ⟨sa, sn, sc, ecv, esn, hsv⟩ := Dd2.out.row
      obtain ⟨la9, lc9, ela, l1, l2, l3⟩ := Dd2.out.sm.sl
      injection ela with ela1 ela2 ela3
      subst ela1 ela3
      have BX := Dd2.out.box
      rw [ecv] at BX
      refine Code.wp_mono (fun e a w9 h => ?_) (diff_rest (w := w) (W := wd2) (D := D) (KK := fun a W9 => bodyPostM Fence.wide 9 Tryz.prog Tryz.f151 R .ret a W9) (b6 := w.heap.size + 1) HD.out DN.out hc hc2 OKD.out SS.out Bd2.out (Nat.le_succ _) BX hsv (by simp) (by rw [CE]; exact cs2 v0 v1 (fun e => HNE.out ⟨by omega, by omega, e⟩)) (by rw [SI]; exact l3) (by rw [SI]; rfl) l1 l2 fun tm v W9 htm hds hbl hkb => ?_)
      · cases e <;> first | exact h | exact h.elim
      · have NF := Dd2.out.kbnc hkb
        have K2 : W9.heap[DD2]? = some (.deferred (some [])) := (NF _ _ DF2.out rfl)
        have K1 : W9.heap[DD1]? = some (.deferred (some [])) := (NF _ _ (Nd2.out _ _ (Nc2.out _ _ (Nb2.out _ _ (Na2.out _ _ DF1.out rfl) rfl) rfl) rfl) rfl)
        refine ⟨by simp, .inl ⟨_, _, rfl, run_takeDeferred K2, ?_⟩⟩
        have K1 : (W9.putObj DD2 (.deferred none)).heap[DD1]? = some (.deferred (some [])) := (World.putObj_heap_other (by have := DL2.out; have q := (Array.getElem?_eq_some_iff.1 (Nc2.out _ _ (Nb2.out _ _ (Na2.out _ _ DF1.out rfl) rfl) rfl)).1; omega)).trans K1
        refine ⟨by simp, .inl ⟨_, _, rfl, run_takeDeferred K1, ?_⟩⟩
        refine ⟨_, results_tmp rfl _ _ _, ?_⟩
        rw [HR.out, htm]
        exact ⟨v, rfl, ((hds.put K2 rfl).put K1 rfl), (below_put _ (below_put _ hbl DG2.out) DG1.out)⟩
    · obtain ⟨rfl, ⟨vl0, vh0⟩, g0, o0, rfl, bk, ca, cb⟩ := V0.out z0
      have E0k := Lib.hid bk; have E0a := Lib.hid ca; have E0b := Lib.hid cb
      clear bk ca cb
      refine wp_loop_rounds 3 ?_
      rw [rounds_succ]
      have cx := cell_later B1.out (Nat.le_refl _) CU0.out
      go_wp2_with (first | (go_at_call 44; refine (SZ0.out _ B1.out).mono ?_; rintro e wa1 ⟨rfl, hb⟩; have Ba1 := Lib.hid (over B1.out hb); have Da1 := Lib.hid (DS1.out.below hb); have Na1 := Lib.hid (Nc.below hb); clear hb) | (at_builtin; refine wpList_pushI rfl _ _ rfl w.heap.size wa1 _ [] 0 rfl rfl rfl Da1.out.sm Ba1.out.size (by simp) ?_; intro v5 wb1 hO hB hP; obtain ⟨la1, lc1, rfl, -⟩ := hO.sl; have Bb1 := Lib.hid (Ba1.out.trans hB); have Db1 := Lib.hid (Da1.out.push hO hP); have Nb1 := Lib.hid (Da1.out.pnc hP); clear hO hB hP) | (go_at_call 167; refine (dvalues_any _ _ _ _).mono ?_; rintro e wc1 ⟨rfl, hwc⟩; have hh := heap_alloc_new wb1 (.cells #[.slice (some ⟨g0, o0, none⟩) 1 k0] 23); have bb := below_new wb1 (.cells #[.slice (some ⟨g0, o0, none⟩) 1 k0] 23); rw [← hwc] at hh bb; have Bc1 := Lib.hid (over Bb1.out bb); have Dc1 := Lib.hid (Db1.out.below bb); have Nc1 := Lib.hid (Nc.below bb); have Cs1 : Hid (wc1.cell? ⟨wb1.heap.size, 0, none⟩ = some (.slice (some ⟨g0, o0, none⟩) 1 k0)) := Lib.hid (by rw [cell_of_row _ _ _ _ _ _ hh]; rfl); clear hh bb hwc))
      clear cx
      refine wp_only (rf_step (W := wc1) (base := w.heap.size) (b6 := w.heap.size + 1) (Bs := wb1.heap.size) (gb := g0) (off := o0) (cap := k0) (v := v0) (cv := (.slice none 0 0)) (cl := []) (by omega) (by omega) Bc1.out.size (Nat.le_succ _) Dc1.out.box Dc1.out.cr (by simp) Cs1.out (cell_later Bc1.out (Nat.le_refl _) E0a.out) (cell_later Bc1.out (Nat.le_refl _) E0b.out) (E0k.out.keep (Bc1.out.block _ E0k.out.lt)) fun DD1 cv1 wd1 hD hdf hvv hrr hg hks hbl => ?_) (fun _ _ h => h)
      have Bd1 := Lib.hid (Bc1.out.trans hbl); have Dd1 := Lib.hid (Dc1.out.rf hvv hrr hg hks); have Nd1 := Lib.hid (Dc1.out.rnc hks); have DF1 := Lib.hid hdf; have DG1 : Hid (w.heap.size ≤ DD1) := Lib.hid (Nat.le_trans Bc1.out.size hD); have DL1 : Hid (wc1.heap.size ≤ DD1) := Lib.hid hD
      clear hD hdf hvv hrr hg hks hbl
      go_wp2_with fail
      rw [rounds_succ]
      have cx := cell_later Bd1.out (Nat.le_refl _) CU1.out
      go_wp2_with (go_at_call 44; refine (SZ1.out _ Bd1.out).mono ?_; rintro e wa2 ⟨rfl, hb⟩; have Ba2 := Lib.hid (over Bd1.out hb); have Da2 := Lib.hid (Dd1.out.below hb); have Na2 := Lib.hid (Nc.below hb); clear hb)
      clear cx
      rw [rounds_succ]
      go_wp2_with fail
      refine HKR.out _ _ ?_
      have SE : smallF D = [0] := by rw [SMT.out, if_pos (by omega), if_neg (by omega)]; rfl
      have SI : smallI D = [0] := by show (smallF D).map _ = _; rw [SE]; rfl
      have CE : critF D = [v0] := by rw [CRT.out, SE]; simp [HV0.out, HV1.out]
      obtain ⟨sa, sn, sc, ecv, esn, hsv⟩ := Da2.out.row
      obtain ⟨la9, lc9, ela, l1, l2, l3⟩ := Da2.out.sm.sl
      injection ela with ela1 ela2 ela3
      subst ela1 ela3
      have BX := Da2.out.box
      rw [ecv] at BX
      refine Code.wp_mono (fun e a w9 h => ?_) (diff_rest (w := w) (W := wa2) (D := D) (KK := fun a W9 => bodyPostM Fence.wide 9 Tryz.prog Tryz.f151 R .ret a W9) (b6 := w.heap.size + 1) HD.out DN.out hc hc2 OKD.out SS.out Ba2.out (Nat.le_succ _) BX hsv (by simp) (by rw [CE]; exact cs1 v0) (by rw [SI]; exact l3) (by rw [SI]; rfl) l1 l2 fun tm v W9 htm hds hbl hkb => ?_)
      · cases e <;> first | exact h | exact h.elim
      · have NF := Da2.out.kbnc hkb
        have K1 : W9.heap[DD1]? = some (.deferred (some [])) := (NF _ _ (Na2.out _ _ DF1.out rfl) rfl)
        refine ⟨by simp, .inl ⟨_, _, rfl, run_takeDeferred K1, ?_⟩⟩
        refine ⟨_, results_tmp rfl _ _ _, ?_⟩
        rw [HR.out, htm]
        exact ⟨v, rfl, (hds.put K1 rfl), (below_put _ hbl DG1.out)⟩
  · by_cases z1 : s1 < 2
    · obtain ⟨rfl, ⟨vl1, vh1⟩, g1, o1, rfl, bk, ca, cb⟩ := V1.out z1
      have E1k := Lib.hid bk; have E1a := Lib.hid ca; have E1b := Lib.hid cb
      clear bk ca cb
      refine wp_loop_rounds 3 ?_
      rw [rounds_succ]
      have cx := cell_later B1.out (Nat.le_refl _) CU0.out
      go_wp2_with (go_at_call 44; refine (SZ0.out _ B1.out).mono ?_; rintro e wa1 ⟨rfl, hb⟩; have Ba1 := Lib.hid (over B1.out hb); have Da1 := Lib.hid (DS1.out.below hb); have Na1 := Lib.hid (Nc.below hb); clear hb)
      clear cx
      rw [rounds_succ]
      have cx := cell_later Ba1.out (Nat.le_refl _) CU1.out
      go_wp2_with (first | (go_at_call 44; refine (SZ1.out _ Ba1.out).mono ?_; rintro e wa2 ⟨rfl, hb⟩; have Ba2 := Lib.hid (over Ba1.out hb); have Da2 := Lib.hid (Da1.out.below hb); have Na2 := Lib.hid (Nc.below hb); clear hb) | (at_builtin; refine wpList_pushI rfl _ _ rfl w.heap.size wa2 _ [] 1 rfl rfl rfl Da2.out.sm Ba2.out.size (by simp) ?_; intro v5 wb2 hO hB hP; obtain ⟨la2, lc2, rfl, -⟩ := hO.sl; have Bb2 := Lib.hid (Ba2.out.trans hB); have Db2 := Lib.hid (Da2.out.push hO hP); have Nb2 := Lib.hid (Da2.out.pnc hP); clear hO hB hP) | (go_at_call 167; refine (dvalues_any _ _ _ _).mono ?_; rintro e wc2 ⟨rfl, hwc⟩; have hh := heap_alloc_new wb2 (.cells #[.slice (some ⟨g1, o1, none⟩) 1 k1] 23); have bb := below_new wb2 (.cells #[.slice (some ⟨g1, o1, none⟩) 1 k1] 23); rw [← hwc] at hh bb; have Bc2 := Lib.hid (over Bb2.out bb); have Dc2 := Lib.hid (Db2.out.below bb); have Nc2 := Lib.hid (Nc.below bb); have Cs2 : Hid (wc2.cell? ⟨wb2.heap.size, 0, none⟩ = some (.slice (some ⟨g1, o1, none⟩) 1 k1)) := Lib.hid (by rw [cell_of_row _ _ _ _ _ _ hh]; rfl); clear hh bb hwc))
      clear cx
      refine wp_only (rf_step (W := wc2) (base := w.heap.size) (b6 := w.heap.size + 1) (Bs := wb2.heap.size) (gb := g1) (off := o1) (cap := k1) (v := v1) (cv := (.slice none 0 0)) (cl := []) (by omega) (by omega) Bc2.out.size (Nat.le_succ _) Dc2.out.box Dc2.out.cr (by simp) Cs2.out (cell_later Bc2.out (Nat.le_refl _) E1a.out) (cell_later Bc2.out (Nat.le_refl _) E1b.out) (E1k.out.keep (Bc2.out.block _ E1k.out.lt)) fun DD2 cv2 wd2 hD hdf hvv hrr hg hks hbl => ?_) (fun _ _ h => h)
      have Bd2 := Lib.hid (Bc2.out.trans hbl); have Dd2 := Lib.hid (Dc2.out.rf hvv hrr hg hks); have Nd2 := Lib.hid (Dc2.out.rnc hks); have DF2 := Lib.hid hdf; have DG2 : Hid (w.heap.size ≤ DD2) := Lib.hid (Nat.le_trans Bc2.out.size hD); have DL2 : Hid (wc2.heap.size ≤ DD2) := Lib.hid hD
      clear hD hdf hvv hrr hg hks hbl
      go_wp2_with fail
      rw [rounds_succ]
      go_wp2_with fail
      refine HKR.out _ _ ?_
      have SE : smallF D = [1] := by rw [SMT.out, if_neg (by omega), if_pos (by omega)]; rfl
      have SI : smallI D = [1] := by show (smallF D).map _ = _; rw [SE]; rfl
      have CE : critF D = [v1] := by rw [CRT.out, SE]; simp [HV0.out, HV1.out]
      obtain ⟨sa, sn, sc, ecv, esn, hsv⟩ := Dd2.out.row
      obtain ⟨la9, lc9, ela, l1, l2, l3⟩ := Dd2.out.sm.sl
      injection ela with ela1 ela2 ela3
      subst ela1 ela3
      have BX := Dd2.out.box
      rw [ecv] at BX
      refine Code.wp_mono (fun e a w9 h => ?_) (diff_rest (w := w) (W := wd2) (D := D) (KK := fun a W9 => bodyPostM Fence.wide 9 Tryz.prog Tryz.f151 R .ret a W9) (b6 := w.heap.size + 1) HD.out DN.out hc hc2 OKD.out SS.out Bd2.out (Nat.le_succ _) BX hsv (by simp) (by rw [CE]; exact cs1 v1) (by rw [SI]; exact l3) (by rw [SI]; rfl) l1 l2 fun tm v W9 htm hds hbl hkb => ?_)
      · cases e <;> first | exact h | exact h.elim
      · have NF := Dd2.out.kbnc hkb
        have K2 : W9.heap[DD2]? = some (.deferred (some [])) := (NF _ _ DF2.out rfl)
        refine ⟨by simp, .inl ⟨_, _, rfl, run_takeDeferred K2, ?_⟩⟩
        refine ⟨_, results_tmp rfl _ _ _, ?_⟩
        rw [HR.out, htm]
        exact ⟨v, rfl, (hds.put K2 rfl), (below_put _ hbl DG2.out)⟩
    · refine wp_loop_rounds 3 ?_
      rw [rounds_succ]
      have cx := cell_later B1.out (Nat.le_refl _) CU0.out
      go_wp2_with (go_at_call 44; refine (SZ0.out _ B1.out).mono ?_; rintro e wa1 ⟨rfl, hb⟩; have Ba1 := Lib.hid (over B1.out hb); have Da1 := Lib.hid (DS1.out.below hb); have Na1 := Lib.hid (Nc.below hb); clear hb)
      clear cx
      rw [rounds_succ]
      have cx := cell_later Ba1.out (Nat.le_refl _) CU1.out
      go_wp2_with (go_at_call 44; refine (SZ1.out _ Ba1.out).mono ?_; rintro e wa2 ⟨rfl, hb⟩; have Ba2 := Lib.hid (over Ba1.out hb); have Da2 := Lib.hid (Da1.out.below hb); have Na2 := Lib.hid (Nc.below hb); clear hb)
      clear cx
      rw [rounds_succ]
      go_wp2_with fail
      refine HKR.out _ _ ?_
      have SE : smallF D = [] := by rw [SMT.out, if_neg (by omega), if_neg (by omega)]; rfl
      have SI : smallI D = [] := by show (smallF D).map _ = _; rw [SE]; rfl
      have CE : critF D = [] := by rw [CRT.out, SE]; simp [HV0.out, HV1.out]
      obtain ⟨sa, sn, sc, ecv, esn, hsv⟩ := Da2.out.row
      obtain ⟨la9, lc9, ela, l1, l2, l3⟩ := Da2.out.sm.sl
      injection ela with ela1 ela2 ela3
      subst ela1 ela3
      have BX := Da2.out.box
      rw [ecv] at BX
      refine Code.wp_mono (fun e a w9 h => ?_) (diff_rest (w := w) (W := wa2) (D := D) (KK := fun a W9 => bodyPostM Fence.wide 9 Tryz.prog Tryz.f151 R .ret a W9) (b6 := w.heap.size + 1) HD.out DN.out hc hc2 OKD.out SS.out Ba2.out (Nat.le_succ _) BX hsv (by simp) (by rw [CE]; exact cs0) (by rw [SI]; exact l3) (by rw [SI]; rfl) l1 l2 fun tm v W9 htm hds hbl hkb => ?_)
      · cases e <;> first | exact h | exact h.elim
      · have NF := Da2.out.kbnc hkb
        refine ⟨_, results_tmp rfl _ _ _, ?_⟩
        rw [HR.out, htm]
        exact ⟨v, rfl, hds, hbl⟩
end Go.Proofs.YteiohgiecpibhaaGreat
set_option linter.unusedVariables false
set_option linter.unusedSimpArgs false
set_option maxRecDepth 100000
set_option maxHeartbeats 4000000
namespace Go.Proofs.YteiohgiecpibhaaGreat
open Go.RowKit Fdm

theorem ruOk_ex : ∀ D, exG exC D = true → RuOk exRu exC D := fun D h => ruOk_of h fun W x1 x2 x3 x6 xv hk hv => by
  obtain ⟨h1, h2, h3, _⟩ := exG_parts h
  obtain ⟨a, c, rfl, l1, l2, l3⟩ := hv.ex
  rw [h1] at l1 ⊢
  exact different_any hk l3 h1 l1 l2 h2 h3
theorem labelled_ok (w : World) : Calls Tryz.prog 14 #[] w fun e w' => e = .returned (.bool true) ∧ Below w.heap.size w w' := labelled_any ruOk_ex w
end Go.Proofs.YteiohgiecpibhaaGreat
