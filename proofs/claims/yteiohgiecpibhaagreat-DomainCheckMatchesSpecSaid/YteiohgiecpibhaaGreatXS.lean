/- different, of two variables: the loop over the values of a domain that is one number. -/
import Derived.Test.YteiohgiecpibhaaGreatXR
set_option linter.unusedVariables false
set_option linter.unusedSimpArgs false
set_option maxRecDepth 100000
set_option maxHeartbeats 4000000
namespace Go.Proofs.YteiohgiecpibhaaGreat
open Go.RowKit Go.Shelf Fdm

attribute [local go_sem] Oper.semAt_some

def findRF : Code → Option Code
  | .rangeFunc g p a b => some (.rangeFunc g p a b)
  | .seq a b => match findRF a with | some c => some c | none => findRF b
  | .cond _ a b => match findRF a with | some c => some c | none => findRF b
  | .block _ a => findRF a
  | .loop a => findRF a
  | .scope a => findRF a
  | _ => none
def rfC (f : Func) : Code := match f.body with | some c => (findRF c).getD .skip | none => .skip
/-- What stays behind a number more. -/
structure Ks (W : World) (b6 : Nat) (cv : Value) (W' : World) : Prop where
  size : W.heap.size ≤ W'.heap.size
  block : ∀ b, b < W.heap.size → b ≠ b6 → cv.ownBlock ≠ some b → W'.heap[b]? = W.heap[b]?
theorem Ks.own {W : World} {b6 : Nat} {cv : Value} : OwnFrom (β := List Unit) W.heap.size (fun _ W' => Ks W b6 cv W') := fun pre A B row h hg hr =>
  ⟨Nat.le_trans h.size hg.size, fun b hb h1 h2 => (hg.block b (Nat.lt_of_lt_of_le hb h.size) fun e => by have := (hr b e.symm).1; omega).trans (h.block b hb h1 h2)⟩
theorem step_keep {W w1 : World} {b6 : Nat} {cv x u : Value} (hgrow : (W.alloc (.cells #[x] 3)).grownBy w1 cv.ownBlock) : ∀ b, b < W.heap.size → b ≠ b6 → cv.ownBlock ≠ some b → (w1.setCell ⟨b6, 0, none⟩ u).heap[b]? = W.heap[b]? := fun b hb h1 h2 =>
  (heap_setCell_other w1 ⟨b6, 0, none⟩ b u h1).trans ((hgrow.block b (by simp; omega) (fun e => h2 e.symm)).trans ((below_new W (.cells #[x] 3)).block b hb))
theorem row_not {W : World} {base k b t : Nat} {cv : Value} {xs : List Value} (h : W.ownsRow base 3 1 cv k xs) (hb : Blk W b t) (ht : t ≠ 3) : cv.ownBlock ≠ some b := fun e => by
  rcases h.2 with ⟨rfl, _⟩ | ⟨g, cap, cur, rfl, _, hg, _⟩
  · simp [Value.ownBlock] at e
  · simp only [Value.ownBlock, Option.some.injEq] at e
    subst e
    exact hb.ne ⟨_, hg⟩ ht rfl
theorem rf_step {W : World} {base b6 Bs gb off cap : Nat} {v : Int} {cv : Value} {cl : List Int} {ds : List Deferred} {K' : Act → World → Prop} {u0 u1 u2 u3 u4 u5 u7 u8 u9 u10 u11 u12 u13 u14 u15 u16 u17 u18 u19 u20 u21 u22 u23 u24 u25 u26 u27 u28 u29 u30 u31 u33 u34 u35 u36 u37 u38 u39 u40 u41 u42 u43 u44 u45 u46 u47 u48 u49 u50 u51 u52 u53 u54 u55 u56 u57 u58 u59 u60 u61 u62 u63 u64 u65 u66 u67 u68 u69 u70 u71 u72 u73 u74 u75 u76 u77 u78 u79 u80 u81 u82 u83 u84 u85 u86 u87 u88 u89 u90 u91 u92 : Value}
    (hv1 : -4611686018427387904 ≤ v) (hv2 : v ≤ 4611686018427387904) (hbase : base ≤ W.heap.size) (hb6 : base ≤ b6) (hbox : Boxed W b6 30 cv) (hcr : W.ownsRow base 3 1 cv cl.length (cl.map (Value.int .i64))) (hcl : cl.length ≤ 1000)
    (hBs : W.cell? ⟨Bs, 0, none⟩ = some (.slice (some ⟨gb, off, none⟩) 1 cap)) (hc0 : W.cell? ⟨gb, off, none⟩ = some (.int .i64 v)) (hc1 : W.cell? ⟨gb, off + 1, none⟩ = some (.int .i64 v)) (hbk : Blk W gb 63)
    (hk : ∀ (D : Nat) (cv' : Value) (W' : World), W.heap.size ≤ D → W'.heap[D]? = some (.deferred (some [])) → Boxed W' b6 30 cv' → W'.ownsRow base 3 1 cv' (cl.length + 1) ((cl ++ [v]).map (Value.int .i64)) → (∀ g, cv'.ownBlock = some g → cv.ownBlock = some g ∨ W.heap.size ≤ g) → Ks W b6 cv W' → Below base W W' → K' ⟨#[u0, u1, u2, u3, u4, u5, .pointer (some ⟨b6, 0, none⟩), u7, u8, u9, u10, u11, u12, u13, u14, u15, u16, u17, u18, u19, u20, u21, u22, u23, u24, u25, u26, u27, u28, u29, u30, u31, .func (.func 184) #[] #[.pointer (some ⟨Bs, 0, none⟩)], u33, u34, u35, u36, u37, u38, u39, u40, u41, u42, u43, u44, u45, u46, u47, u48, u49, u50, u51, u52, u53, u54, u55, u56, u57, u58, u59, u60, u61, u62, u63, u64, u65, u66, u67, u68, u69, u70, u71, u72, u73, u74, u75, u76, u77, u78, u79, u80, u81, u82, u83, u84, u85, u86, u87, u88, u89, u90, u91, u92], { target := .collected D, args := #[] } :: ds⟩ W') :
    (rfC Tryz.f151).wp Tryz.prog (Only K') ⟨#[u0, u1, u2, u3, u4, u5, .pointer (some ⟨b6, 0, none⟩), u7, u8, u9, u10, u11, u12, u13, u14, u15, u16, u17, u18, u19, u20, u21, u22, u23, u24, u25, u26, u27, u28, u29, u30, u31, .func (.func 184) #[] #[.pointer (some ⟨Bs, 0, none⟩)], u33, u34, u35, u36, u37, u38, u39, u40, u41, u42, u43, u44, u45, u46, u47, u48, u49, u50, u51, u52, u53, u54, u55, u56, u57, u58, u59, u60, u61, u62, u63, u64, u65, u66, u67, u68, u69, u70, u71, u72, u73, u74, u75, u76, u77, u78, u79, u80, u81, u82, u83, u84, u85, u86, u87, u88, u89, u90, u91, u92], ds⟩ W := by
  rw [show rfC Tryz.f151 = _ from by (simp only [rfC, Tryz.f151, findRF, Option.getD]; rfl)]
  obtain ⟨i0, hi, hz0, hz1, hz2⟩ := info_parts info3
  refine (wpIn_wide (n := 9)).1 ?_
  refine wpIn_rangeFunc_ownG (n := 9) (F := Fence.wide) rfl (by omega) (gf := 184) (lb := #[.pointer (some ⟨Bs, 0, none⟩)]) rfl trivial (enters_of Tryz.func184 (by kernel_rfl) rfl)
    (dvaluesU_stops Fence.wide 8 trivial rfl (by omega) Bs gb off cap v hv1 hv2 W hBs hc0 hc1) (fun h k => h.trans k) (fun W l o o' _ hl ho _ => K63.put W l o o' hl ho) (Below.refl _ _) (fun _ => rfl)
    (fun pre W' => (∃ cv', Boxed W' b6 30 cv' ∧ W'.ownsRow base 3 1 cv' (cl.length + pre.length) ((cl ++ pre.map fun _ => v).map (Value.int .i64)) ∧ (∀ g, cv'.ownBlock = some g → cv.ownBlock = some g ∨ W.heap.size ≤ g)) ∧ Ks W b6 cv W' ∧ Below base W W')
    (fun _ _ _ => False)
    (OwnFrom.and (Own.from (holdsRow_own base b6 30 3 1 (fun pre : List Unit => cl.length + pre.length) (fun pre : List Unit => (cl ++ pre.map fun _ => v).map (Value.int .i64)) (fun _ cv' => ∀ g, cv'.ownBlock = some g → cv.ownBlock = some g ∨ W.heap.size ≤ g)) _) (OwnFrom.and Ks.own (ownFrom_below hbase hbase)))
    (fun _ _ _ _ _ hs _ _ => hs)
    ⟨⟨cv, hbox, by simpa using hcr, fun g h => .inl h⟩, ⟨Nat.le_refl _, fun _ _ _ _ => rfl⟩, Below.refl _ _⟩
    (fun _ => { tmps := #[u0, u1, u2, u3, u4, u5, .pointer (some ⟨b6, 0, none⟩), u7, u8, .int .i64 v, u10, u11, u12, u13, u14, u15, u16, u17, u18, u19, u20, u21, u22, u23, u24, u25, u26, u27, u28, u29, u30, u31, .func (.func 184) #[] #[.pointer (some ⟨Bs, 0, none⟩)], .int .i64 v, u34, u35, u36, u37, u38, u39, u40, u41, u42, u43, u44, u45, u46, u47, u48, u49, u50, u51, u52, u53, u54, u55, u56, u57, u58, u59, u60, u61, u62, u63, u64, u65, u66, u67, u68, u69, u70, u71, u72, u73, u74, u75, u76, u77, u78, u79, u80, u81, u82, u83, u84, u85, u86, u87, u88, u89, u90, u91, u92], defers := [] }) ?assign ?body ?done ?stop
  case assign =>
    intro l x W K hK
    gi_wp2
    exact hK
  case body =>
    rintro l pre x W' ⟨⟨cv', hv, hrow, hG⟩, hKs, hB⟩ hlt
    have hc := hv.cell
    obtain rfl : pre = [] := List.length_eq_zero_iff.1 (by omega)
    simp only [List.map_nil, List.append_nil, List.length_nil, Nat.add_zero] at hrow
    have BG := Lib.hid hG; have KS := Lib.hid hKs
    gi_wp2_with (gi_at_builtin; go_loud (refine wpListIn_append_own_at _ rfl _ _ 30 rfl base 3 i0 (.int .i64 0) 1 8 Tryz.underlying30 hi hz0 hz1 hz2 rfl (by decide) _ _ _ rfl (hrow.alloc _) ⟨W'.heap.size, 0, none⟩ 1 1 [.int .i64 v] rfl rfl (cell_one_new _ _ _) (by simp [Value.oneCell']) (by unfold maxLen; omega) (by omega) (by have := hB.size; simp; omega) ?_); intro v' w1 hown' hgrow _ hat; obtain ⟨g', cap', rfl⟩ := ownsRow_succ hown'; obtain ⟨hv1, hv2, hr2, hk2, hb2⟩ := hv.appended (by decide) hrow (Nat.le_trans hbase hB.size) hb6 hown' hgrow; have hc1 := hv1.cell; have hf1 := hv1.frozen)
    have SK := Lib.hid (step_keep (b6 := b6) (u := .slice (some ⟨g', 0, none⟩) (cl.length + 1) cap') hgrow)
    refine ⟨hk2.from _, fun b hb => SK.out b hb.lt (fun e => ?_) (row_not hrow hb (by decide)), ⟨⟨_, hv2, by simpa using hr2, fun g hg => ?_⟩, ⟨Nat.le_trans KS.out.size hb2.size, fun b hb h1 h2 => (SK.out b (Nat.lt_of_lt_of_le hb KS.out.size) h1 (fun e => ?_)).trans (KS.out.block b hb h1 h2)⟩, hB.trans hb2⟩⟩
    · subst e; exact hb.ne ⟨_, hv⟩ (by decide) rfl
    · rcases hat with q | q
      · exact BG.out g (q.symm.trans hg)
      · rw [q] at hg; injection hg with hg; exact .inr (by have := KS.out.size; simp at hg; omega)
    · rcases BG.out b e with q | q
      · exact h2 q
      · omega
  case done =>
    rintro D xs W' hD rfl ⟨⟨cv', hv, hrow, hG⟩, hKs, hB⟩ hK
    exact hk D cv' W' hD hK hv hrow hG hKs hB
  case stop =>
    rintro D c pre W' _ _ h _
    exact h.elim
end Go.Proofs.YteiohgiecpibhaaGreat
