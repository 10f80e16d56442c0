/- For all rows and numbers, CheckRow returns the specified error: 'Rows.SolveRowMatchesSpecSaid'. No condition. -/
import Derived.Test.YtijdglogadnbcaaGreatZ09
import Derived.Test.YtijdglogadnbcaaGreatZ53
import Derived.Test.YtijdglogadnbcaaGreatZ47
import Derived.ProofKit
import Derived.OpenShut
import Derived.JoinedCond
import Derived.ChangeOld
import Derived.Below
set_option linter.unusedVariables false
set_option linter.unusedSimpArgs false
set_option maxRecDepth 100000
set_option maxHeartbeats 40000000
namespace Go.Proofs.YtijdglogadnbcaaGreat
open Go.RowKit Nt
theorem CfAt.beside0 {w w' : World} {l : List Cf} {ca : Option Addr} (h : CfAt w l ca) (hb : Below w.heap.size w w') : CfAt w' l ca := h.below hb
theorem law3_any {w : World} {u rel : Int} {l : List Cf} {B : Raw} {ca a b : Option Addr} {nc cc n c m dd : Nat} (hl : CfAt w l ca) (hln : l.length = nc) (hc : nc ≤ cc) (hc2 : cc ≤ 9223372036854775807) (hB : RwAt w B a n c b m dd) :
  Calls Tryz.prog 3 #[.agg #[.slice ca nc cc, .int .i64 rel, .bool B.neg, .slice a n c, .slice b m dd], .int .i64 u] w fun e w' => e = .returned (.bool true) ∧ Below w.heap.size w w' := by
 obtain ⟨z, hz⟩ : ∃ z, rowN u rel l B = z := ⟨_, rfl⟩
 have HZ := Lib.hid hz
 have HLN := Lib.hid hln
 have B0 := Lib.hid (below_new w (.cells #[.slice ca nc cc, .int .i64 rel, .bool B.neg, .slice a n c, .slice b m dd] 27))
 have XR : Hid (RoB (w.alloc (.cells #[.slice ca nc cc, .int .i64 rel, .bool B.neg, .slice a n c, .slice b m dd] 27)) w.heap.size #[.slice ca nc cc, .int .i64 rel, .bool B.neg, .slice a n c, .slice b m dd]) := heap_alloc_new _ _
 have CF1 := Lib.hid (hl.below B0.out)
 have RW1 := Lib.hid (hB.below B0.out)
 have C1 := row_any (u := u) (rel := rel) (CF1.out.below (Below.refl _ _).drew) (RW1.out.below (Below.refl _ _).drew) hln hc hc2
 rw [hz] at C1
 have C1 := Lib.hid C1
 clear hl hB hln hz
 go_enter Tryz.func3, Tryz.ntmps3
 go_upto_region 1 with fail
 generalize w.alloc (.cells #[.slice ca nc cc, .int .i64 rel, .bool B.neg, .slice a n c, .slice b m dd] 27) = W at *
 obtain ⟨g2, hg2⟩ : ∃ g, w.heap.size = g := ⟨_, rfl⟩
 rw [hg2] at XR ⊢
 clear hg2
 obtain ⟨u0, u1, u2, u3, u4, _⟩ := XR.out.reads
 have KP := Lib.hid (fun (W' : World) (hB : Below W.heap.size W W') => (show W'.cell? ⟨g2, 0, none⟩ = some (.slice ca nc cc) ∧ W'.cell? ⟨g2, 1, none⟩ = some (.int .i64 rel) ∧ W'.cell? ⟨g2, 2, none⟩ = some (.bool B.neg) ∧ W'.cell? ⟨g2, 3, none⟩ = some (.slice a n c) ∧ W'.cell? ⟨g2, 4, none⟩ = some (.slice b m dd) from ⟨cell_later hB (Nat.le_refl _) u0, cell_later hB (Nat.le_refl _) u1, cell_later hB (Nat.le_refl _) u2, cell_later hB (Nat.le_refl _) u3, cell_later hB (Nat.le_refl _) u4⟩))
 refine Rg.wpD_start 10 [] (fun W' => W'.cell? ⟨g2, 0, none⟩ = some (.slice ca nc cc) ∧ W'.cell? ⟨g2, 1, none⟩ = some (.int .i64 rel) ∧ W'.cell? ⟨g2, 2, none⟩ = some (.bool B.neg) ∧ W'.cell? ⟨g2, 3, none⟩ = some (.slice a n c) ∧ W'.cell? ⟨g2, 4, none⟩ = some (.slice b m dd)) (by kernel_rfl) (by kernel_rfl) ?_ (fun hS ok inv => ?_)
 ·exact ⟨u0, u1, u2, u3, u4⟩
 refine Rg.tk 0 rfl ok inv hS fun inv => ?_
 refine Rg.tk 1 rfl ok inv hS fun inv => ?_
 refine Rg.tk 3 rfl ok inv hS fun inv => ?_
 refine Rg.tk 4 rfl ok inv hS fun inv => ?_
 refine Rg.w1 2 rfl inv fun K' hK => ?_
 go_simp
 go_at_call 14
 refine (C1.out).mono ?_
 rintro e w2 ⟨rfl, B2⟩
 have B2 := undrew B2
 have KS := KP.out w2 B2
 have C2 := hrow_any (u := u) (rel := rel) (CF1.out.below B2) (RW1.out.below B2) HLN.out hc hc2
 rw [HZ.out] at C2
 have BW2 := Lib.hid (Below.over B0.out B0.out.size B2)
 have D2 := Lib.hid B2
 clear B2
 refine Rg.st hK ?_ fun hS inv => ?_
 ·exact KS
 clear hK K'
 refine Rg.w1 5 rfl inv fun K' hK => ?_
 go_simp
 go_at_call 15
 refine (C2).mono ?_
 rintro e w5 ⟨rfl, B5⟩
 have KS := KP.out w5 (Below.over D2.out D2.out.size B5)
 have D5 := Lib.hid (Below.over D2.out D2.out.size B5)
 have BW5 := Lib.hid (Below.over BW2.out BW2.out.size B5)
 clear B5 C2
 refine Rg.st hK ?_ fun hS inv => ?_
 ·exact KS
 clear hK K'
 refine Rg.tk 6 rfl ok inv hS fun inv => ?_
 refine Rg.tk 7 rfl ok inv hS fun inv => ?_
 refine Rg.w1 8 rfl inv fun K' hK => ?_
 go_simp
 go_at_call 16
 refine (ranged_any w5).mono ?_
 rintro e w8 ⟨rfl, B8⟩
 have KS := KP.out w8 (Below.over D5.out D5.out.size B8)
 have BW8 := Lib.hid (Below.over BW5.out BW5.out.size B8)
 clear B8
 refine Rg.st hK ?_ fun hS inv => ?_
 ·exact KS
 clear hK K'
 refine Rg.tk 9 rfl ok inv hS fun inv => ?_
 refine Rg.wl rfl ?_
 go_simp
 go_wp2_with fail
 go_ret
 exact ⟨rfl, BW8.out⟩
end Go.Proofs.YtijdglogadnbcaaGreat
namespace Go.Proofs.YtijdglogadnbcaaGreat.lawRow
open Go.ChangeShapes Go.WideShapes Go.ChangeAt Go.RowKit Go.Proofs.YtijdglogadnbcaaGreat
theorem own : ownKnob Tryz.prog.godebug = none := by kernel_rfl
theorem laidOut : laidOutB Tryz.prog = true := by kernel_rfl
theorem contract (H : Type) (enc : TypeId × Value → H) (W : World) (base : Nat) (args : Array Value) (ds gs : List (DataW H)) (before : List MemPlace)
  (hval : ∀ (j : Nat) t v, Tryz.f3.params[j]? = some t → args[j]? = some v → Value.okWide Tryz.prog W .any base t v)
  (hW : DataW.Whole enc Tryz.prog Tryz.f3.params.toList Rows.solveRowMatchesSpecSpec.vars false W args.toList ds gs before) :
  Calls Tryz.prog 3 args W fun e W' => ∃ v, e = .returned v ∧ Rows.solveRowMatchesSpecSpec.post enc Tryz.prog Tryz.f3 false true false false W args v W' := by
 have hW' := hW
 obtain ⟨p, q, hA0, hV, rfl, hfz, hnd⟩ := hW
 have hA : DataW.TrodAll enc Tryz.prog W 0 (fun _ => true) true Tryz.f3.params.toList args.toList ds p := hA0
 rw [Tryz.params3] at hA hval
 obtain ⟨v0, vs0, d0, ds0, p0, q0, hargs, rfl, rfl, h0, r0⟩ := trodAll_cons hA
 obtain ⟨v1, vs1, d1, ds1, p1, q1, rfl, rfl, rfl, h1, r1⟩ := trodAll_cons r0
 obtain ⟨rfl, rfl, rfl⟩ := trodAll_nil r1
 obtain rfl : args = #[v0, v1] := by cases args; simp_all
 obtain ⟨rfl, rfl⟩ := trodVars_none hV
 have k0 := h0
 have k1 := h1
 have lt0 : ∀ x ∈ p0, x.block < W.heap.size := by obtain ⟨m, hm⟩ := k0; exact DataW.trod_lt m _ _ _ hm
 have lt1 : ∀ x ∈ p1, x.block < W.heap.size := by obtain ⟨m, hm⟩ := k1; exact DataW.trod_lt m _ _ _ hm
 obtain ⟨cs0, rfl, hsz0⟩ := okWide_struct Tryz.underlying27 (hval 0 27 v0 rfl rfl)
 obtain ⟨u, rfl, _⟩ := okWide_int Tryz.underlying3 (hval 1 3 v1 rfl rfl)
 obtain ⟨rel, l, B, ca, nc, cc, a, n, c, b, m, dd, ecs0, z1, z2, z3, z4, z5⟩ := rel_arg h0
 rw [ecs0] at k0 hW' ⊢
 clear hA0
 refine (law3_any z1 z2 z3 z4 z5).mono fun e W' ⟨he, bel⟩ => ?_
 subst he
 exact ⟨_, rfl, _, _, _, [], _, [], hW', trodAll_mk1 (shut_bool Tryz.underlying4 _), (trodAll_cons_mk (Below.trod laidOut (by kernel_rfl) (of_decide_eq_true (by kernel_rfl)) k0 bel lt0) (trodAll_cons_mk (Below.trod laidOut (by kernel_rfl) (of_decide_eq_true (by kernel_rfl)) k1 bel lt1) trodAll_mk0)), rfl, bel.frame _, fun h => by cases h⟩
theorem lifted (os : Os) (started : os.Started) (H : Type) (enc : TypeId × Value → H) :
  ReturnsInHanded {} Tryz.checked os 3 .any (Rows.solveRowMatchesSpecSpec.pre6 enc Tryz.prog Tryz.f3 Rows.solveRowMatchesSpecRow.domain false) (Rows.solveRowMatchesSpecSpec.post enc Tryz.prog Tryz.f3 false true false false) := by
 refine returnsInHanded_of_change (C := Tryz.checked) own started (by kernel_rfl) Tryz.func3
  (ChangeSpec.witness6 (enc := enc) (C := Tryz.checked) false ⟨#[], #[.agg #[.slice none 0 0, .int .i64 0, .bool false, .slice none 0 0, .slice none 0 0], .int .i64 0], []⟩ 8 (by kernel_rfl) (by kernel_rfl) (by kernel_rfl) (by kernel_rfl)) ?_
 intro W base args ds gs before hval hW _ _
 exact contract H enc W base args ds gs before hval hW
theorem both {a b : Bool} (h : a = true) (k : b = true) : (a && b) = true := by rw [h, k]; rfl
theorem closed : joinedFacts Tryz.prog 3 Tryz.f3 Rows.solveRowMatchesSpecSpec Rows.solveRowMatchesSpecRow = true := by
 unfold joinedFacts
 repeat' (with_reducible refine both ?_ ?_)
 all_goals (as_aux_lemma => kernel_rfl)
theorem proved : Rows.SolveRowMatchesSpecSaid :=
 OpenClaim.holds_of_wide 3 Tryz.f3 rfl rfl rfl rfl rfl rfl rfl ⟨rfl, rfl, rfl, rfl, rfl⟩ rfl rfl rfl rfl rfl (by kernel_rfl) Tryz.func3 closed
  (of_decide_eq_true (by kernel_rfl)) (by unfold Func.isWrapper; first | (rw [if_pos (by decide +kernel)]; kernel_rfl) | (rw [if_neg (by decide +kernel)]; exact ⟨rfl, rfl⟩))
  (fun os started H enc _ => lifted os started H enc)
#print axioms proved
end Go.Proofs.YtijdglogadnbcaaGreat.lawRow
