/- Regions that draw their order and end in a store over what they have loaded: a condition on the world that holds till the last operation comes up. No program. -/
import Derived.OrdersHeld
import Derived.StillTail
import Derived.Deep.RegionHeld3
set_option linter.unusedVariables false
set_option linter.unusedSimpArgs false
set_option maxRecDepth 100000
set_option maxHeartbeats 40000000
namespace Go.Proofs.Ytijdglogadnbcaa
/-! Short names of core facts. -/
theorem zA {α : Type} {xs : List α} {i : Nat} (h : i < xs.toArray.size) : xs.toArray[i] = xs[i]'(by simpa using h) := rfl
theorem zB {α : Type} {a : α} {as : List α} (h : 0 < (a :: as).length) : (a :: as)[0] = a := rfl
theorem zC {α : Type} {a : α} {as : List α} {i : Nat} (h : i + 1 < (a :: as).length) : (a :: as)[i + 1] = as[i]'(Nat.lt_of_succ_lt_succ h) := rfl
theorem zD {α : Type} (l : List α) (i : Nat) (a : α) : l.toArray.setIfInBounds i a = (l.set i a).toArray := List.setIfInBounds_toArray l i a
theorem zE {α : Type} (x a : α) (xs : List α) : (x :: xs).set 0 a = a :: xs := rfl
theorem zF {α : Type} (x : α) (xs : List α) (n : Nat) (a : α) : (x :: xs).set (n + 1) a = x :: xs.set n a := rfl
end Go.Proofs.Ytijdglogadnbcaa
namespace Go.Proofs.Ytijdglogadnbcaa.Rg
open Go
variable {P : Program} {ops : Array Oper} {md : Region.Mode} {Q : Exit → Act → World → Prop} {S : World → Prop} {n : Nat}
def wpD (P : Program) (md : Region.Mode) (ops : Array Oper) (Q : Exit → Act → World → Prop) (n : Nat) (S : World → Prop) : Nat → Array Bool → Act → World → Prop
 | 0, listed, a, w => Region.ready md ops listed = [] ∧ Q .normal a w
 | f + 1, listed, a, w => (Region.ready md ops listed = [] → Q .normal a w) ∧
   ∀ i ∈ Region.ready md ops listed, wpOp P ops Q i (fun a' w' => (i < n → S w') ∧ wpD P md ops Q n S f (listed.setIfInBounds i true) a' w') a w
theorem wpD_any : ∀ (f : Nat) (listed : Array Bool) (a : Act) (w : World), wpD P md ops Q n S f listed a w → wpAny P md ops Q f listed a w
 | 0, _, _, _, h => h
 | f + 1, _, _, _, h => ⟨h.1, fun i hi => wpOp_mono (fun a' w' k => wpD_any f _ a' w' k.2) (h.2 i hi)⟩
/-- Each operation below n, but those in ex, is waited for by one up to n. -/
def sinkX (md : Region.Mode) (ops : Array Oper) (n : Nat) (ex : List Nat) : Bool :=
 (List.range n).all fun i => ex.contains i || (List.range (n + 1)).any fun j => decide (i < j) && !ex.contains j && Region.waitsFor md ops j i
theorem late {n : Nat} {ex : List Nat} {listed : Array Bool} (hs : sinkX md ops n ex = true) (hc : Region.chainB md ops n = true) (hn : n < ops.size) (inv : HeadInv md ops n listed) :
  ∀ d i, n - i = d → i < n → ex.contains i = false → listed.getD i true = false → ∀ t, n ≤ t → t ∉ Region.ready md ops listed := by
 intro d
 induction d using Nat.strongRecOn with
 | _ d ih =>
  intro i hd hi hx un t ht hr
  obtain ⟨_, ot, hot, hall⟩ := mem_ready.1 hr
  have tlt : t < ops.size := (Array.getElem?_eq_some_iff.1 hot).1
  by_cases e : t = n
  ·subst e
   have h1 := List.all_eq_true.1 hs i (List.mem_range.2 hi)
   rw [hx, Bool.false_or] at h1
   obtain ⟨j, hj, hj2⟩ := List.any_eq_true.1 h1
   simp only [Bool.and_eq_true, decide_eq_true_eq, Bool.not_eq_true'] at hj2
   obtain ⟨⟨hij, hxj⟩, hw⟩ := hj2
   obtain ⟨oj, hoj, b, hb, hbi, hon⟩ := Region.waitsFor_spec hw
   have jle : j ≤ t := by have := List.mem_range.1 hj; omega
   by_cases q : j = t
   ·subst q
    have : oj = ot := Option.some.inj (hoj.symm.trans hot)
    subst this
    have h2 := hall b hb hbi
    rw [hon, getD_both un] at h2
    simp at h2
   ·cases hl : listed.getD j false with
    | true =>
     have h2 := inv.closed j oj hoj hl b hb hbi
     rw [hon, getD_both un] at h2
     simp at h2
    | false => exact ih (t - j) (by omega) j rfl (by omega) hxj (getD_in (by rw [inv.size]; omega) hl) t (Nat.le_refl _) hr
  ·have h1 := List.all_eq_true.1 hc t (List.mem_range.2 tlt)
   simp only [Bool.or_eq_true, decide_eq_true_eq] at h1
   rcases h1 with h1 | h1
   ·omega
   ·obtain ⟨o', ho', b, hb, hbi, hon⟩ := Region.waitsFor_spec h1
    have : o' = ot := Option.some.inj (ho'.symm.trans hot)
    subst this
    have h2 := hall b hb hbi
    rw [hon, getD_both (inv.tail (t - 1) (by omega) (by omega))] at h2
    simp at h2
/-- What can be said of an operation that may be taken first. -/
structure Fst (P : Program) (md : Region.Mode) (ops : Array Oper) (Q : Exit → Act → World → Prop) (i : Nat) (oi : Oper) (v : Value) : Prop where
 at_ : ops[i]? = some oi
 sel : Region.noSelect ops = true
 pan : ∀ c a w, Q (.panic c) (a.put oi.dst v) w → Q (.panic c) a w
theorem wpD_first {i : Nat} {oi : Oper} {v : Value} (F : Fst P md ops Q i oi v) (hl : i < n) (hlate : ∀ listed, HeadInv md ops n listed → listed.getD i true = false → ∀ t, n ≤ t → t ∉ Region.ready md ops listed) : ∀ (f : Nat) (listed : Array Bool) (a : Act) (w : World), HeadInv md ops n listed →
  (∀ j oj, ops[j]? = some oj → j ≠ i → listed.getD j true = false → (∀ e ∈ oj.after, Region.binds md e = true → e.on ≠ i) → oi.apart ops oj = true) →
  i ∈ Region.ready md ops listed → YieldsIf P ops S oi v a → S w → wpD P md ops Q n S f (listed.setIfInBounds i true) (a.put oi.dst v) w → wpD P md ops Q n S (f + 1) listed a w := by
 have sel := Region.noSelect_spec F.sel
 intro f
 induction f with
 | zero =>
  intro listed a w inv _ hr hy hS H
  refine ⟨fun e => absurd hr (by rw [e]; simp), fun j hj => ?_⟩
  by_cases e : j = i
  ·subst e; exact hy.wpOp F.at_ hS ⟨fun _ => hS, H⟩
  ·have := ready_mono hj e
   rw [H.1] at this
   simp at this
 | succ f ih =>
  intro listed a w inv ap hr hy hS H
  have un := (mem_ready.1 hr).1
  refine ⟨fun e => absurd hr (by rw [e]; simp), fun j hj => ?_⟩
  by_cases e : j = i
  ·subst e; exact hy.wpOp F.at_ hS ⟨fun _ => hS, H⟩
  ·have jn : j < n := Classical.byContradiction fun q => hlate listed inv un j (by omega) hj
   obtain ⟨ju, oj, hoj, hall⟩ := mem_ready.1 hj
   have no : ∀ d ∈ oj.after, Region.binds md d = true → d.on ≠ i := fun d hd hb q => by
    have := hall d hd hb
    rw [q, getD_both un] at this
    simp at this
   have st := wpOp_putIf hoj (ap j oj hoj e ju no) (fun cs b => sel i oi cs b F.at_) (fun cs b => sel j oj cs b hoj) F.pan hy (H.2 j (ready_mono hj e))
   refine wpOp_mono (fun a' w' k => ⟨k.2.1, ih (listed.setIfInBounds j true) a' w' (inv.set hj jn) (fun k' ok hk hki hu hno => ap k' ok hk hki ?_ hno) (ready_mono hr (Ne.symm e)) k.1 (k.2.1 jn) ?_⟩) st
   ·by_cases q : j = k'
    ·subst q; exact ju
    ·rw [getD_set_ne true q] at hu; exact hu
   ·rw [Array.setIfInBounds_comm _ _ e]; exact k.2.2
/-- What the kernel is asked of a region. -/
def okB (ops : Array Oper) (n : Nat) (ex : List Nat) : Bool := Region.noSelect ops && sinkX .any ops n ex && Region.chainB .any ops n && decide (n < ops.size)
def takeB (ops : Array Oper) (listed : Array Bool) (n : Nat) (ex : List Nat) (i : Nat) : Bool := Region.free .any ops listed i && (Region.ready .any ops listed).contains i && decide (i < n) && !ex.contains i
theorem wpD_take {ex : List Nat} {i : Nat} {oi : Oper} {v : Value} {f : Nat} {listed : Array Bool} {a : Act} {w : World} (hi : ops[i]? = some oi) (hk : takeB ops listed n ex i = true) (ok : okB ops n ex = true) (inv : HeadInv .any ops n listed)
  (hQ : ∀ c a w, Q (.panic c) (a.put oi.dst v) w → Q (.panic c) a w) (hw : Region.wanted oi (yielded ops a.tmps) = true) (hy : ∀ w, S w → (execOp a.eval oi).run P w = .ok (.value v) w) (hS : S w)
  (h : HeadInv .any ops n (listed.setIfInBounds i true) → wpD P .any ops Q n S f (listed.setIfInBounds i true) (a.put oi.dst v) w) : wpD P .any ops Q n S (f + 1) listed a w := by
 simp only [okB, takeB, Bool.and_eq_true, decide_eq_true_eq, Bool.not_eq_true'] at ok hk
 obtain ⟨⟨⟨o1, o2⟩, o3⟩, o4⟩ := ok
 obtain ⟨⟨⟨k1, k2⟩, k3⟩, k4⟩ := hk
 have hr : i ∈ Region.ready .any ops listed := by simpa using k2
 exact wpD_first ⟨hi, o1, hQ⟩ k3 (fun l iv un => late o2 o3 o4 iv _ i rfl k3 k4 un) f listed a w inv (Region.free_spec hi k1) hr (Or.inl ⟨hw, hy⟩) hS (h (inv.set hr k3))
/-- The one operation that may come up. -/
theorem wpD_one {k : Nat} {o : Oper} {f : Nat} {listed : Array Bool} {a : Act} {w : World} (hr : Region.ready .any ops listed = [k]) (ho : ops[k]? = some o) (hk : k < n) (inv : HeadInv .any ops n listed)
  (hw : Region.wanted o (yielded ops a.tmps) = true)
  (h : ∀ K' : Act → World → Prop, Shut (∀ a w, S w → (S w → HeadInv .any ops n (listed.setIfInBounds k true) → wpD P .any ops Q n S f (listed.setIfInBounds k true) a w) → K' a w) → Oper.wp P o a w K' Q) :
  wpD P .any ops Q n S (f + 1) listed a w := by
 have hm : k ∈ Region.ready .any ops listed := by rw [hr]; simp
 refine ⟨fun e => by rw [hr] at e; simp at e, fun i hi => ?_⟩
 rw [hr] at hi
 obtain rfl : i = k := by simpa using hi
 refine wpOp_step ho fun K' hK => ?_
 rw [if_pos hw]
 exact h K' fun a w hS hW => hK a w ⟨fun _ => hS, hW hS (inv.set hm hk)⟩
/-- One that may come up, or one of two, and yields at the world at hand. -/
theorem wpD_oneY {k : Nat} {o : Oper} {v : Value} {f : Nat} {listed : Array Bool} {a : Act} {w : World} (hr : Region.ready .any ops listed = [k]) (ho : ops[k]? = some o) (hk : k < n) (inv : HeadInv .any ops n listed) (hS : S w)
  (hw : Region.wanted o (yielded ops a.tmps) = true) (hy : (execOp a.eval o).run P w = .ok (.value v) w)
  (h : HeadInv .any ops n (listed.setIfInBounds k true) → wpD P .any ops Q n S f (listed.setIfInBounds k true) (a.put o.dst v) w) : wpD P .any ops Q n S (f + 1) listed a w := by
 have hm : k ∈ Region.ready .any ops listed := by rw [hr]; simp
 refine ⟨fun e => by rw [hr] at e; simp at e, fun i hi => ?_⟩
 rw [hr] at hi
 obtain rfl : i = k := by simpa using hi
 exact YieldsIf.wpOp (S := fun x => x = w) ho (Or.inl ⟨hw, fun x e => by rw [e]; exact hy⟩) rfl ⟨fun _ => hS, h (inv.set hm hk)⟩
theorem wpD_twoY {k l : Nat} {o p : Oper} {v u : Value} {f : Nat} {listed : Array Bool} {a : Act} {w : World} (hr : Region.ready .any ops listed = [k, l]) (ho : ops[k]? = some o) (hp : ops[l]? = some p) (hk : k < n) (hl : l < n) (inv : HeadInv .any ops n listed) (hS : S w)
  (hw : Region.wanted o (yielded ops a.tmps) = true) (hw' : Region.wanted p (yielded ops a.tmps) = true) (hy : (execOp a.eval o).run P w = .ok (.value v) w) (hy' : (execOp a.eval p).run P w = .ok (.value u) w)
  (h : HeadInv .any ops n (listed.setIfInBounds k true) → wpD P .any ops Q n S f (listed.setIfInBounds k true) (a.put o.dst v) w)
  (h' : HeadInv .any ops n (listed.setIfInBounds l true) → wpD P .any ops Q n S f (listed.setIfInBounds l true) (a.put p.dst u) w) : wpD P .any ops Q n S (f + 1) listed a w := by
 have hm : k ∈ Region.ready .any ops listed := by rw [hr]; simp
 have hm' : l ∈ Region.ready .any ops listed := by rw [hr]; simp
 refine ⟨fun e => by rw [hr] at e; simp at e, fun i hi => ?_⟩
 rw [hr] at hi
 simp only [List.mem_cons, List.not_mem_nil, or_false] at hi
 rcases hi with rfl | rfl
 ·exact YieldsIf.wpOp (S := fun x => x = w) ho (Or.inl ⟨hw, fun x e => by rw [e]; exact hy⟩) rfl ⟨fun _ => hS, h (inv.set hm hk)⟩
 ·exact YieldsIf.wpOp (S := fun x => x = w) hp (Or.inl ⟨hw', fun x e => by rw [e]; exact hy'⟩) rfl ⟨fun _ => hS, h' (inv.set hm' hl)⟩
/-- One of two. -/
theorem wpD_two {k l : Nat} {o p : Oper} {f : Nat} {listed : Array Bool} {a : Act} {w : World} (hr : Region.ready .any ops listed = [k, l]) (ho : ops[k]? = some o) (hp : ops[l]? = some p) (hk : k < n) (hl : l < n) (inv : HeadInv .any ops n listed)
  (hw : Region.wanted o (yielded ops a.tmps) = true) (hw' : Region.wanted p (yielded ops a.tmps) = true)
  (h : ∀ K' : Act → World → Prop, Shut (∀ a w, S w → (S w → HeadInv .any ops n (listed.setIfInBounds k true) → wpD P .any ops Q n S f (listed.setIfInBounds k true) a w) → K' a w) → Oper.wp P o a w K' Q)
  (h' : ∀ K' : Act → World → Prop, Shut (∀ a w, S w → (S w → HeadInv .any ops n (listed.setIfInBounds l true) → wpD P .any ops Q n S f (listed.setIfInBounds l true) a w) → K' a w) → Oper.wp P p a w K' Q) :
  wpD P .any ops Q n S (f + 1) listed a w := by
 have hm : k ∈ Region.ready .any ops listed := by rw [hr]; simp
 have hm' : l ∈ Region.ready .any ops listed := by rw [hr]; simp
 refine ⟨fun e => by rw [hr] at e; simp at e, fun i hi => ?_⟩
 rw [hr] at hi
 simp only [List.mem_cons, List.not_mem_nil, or_false] at hi
 rcases hi with rfl | rfl
 ·refine wpOp_step ho fun K' hK => ?_
  rw [if_pos hw]
  exact h K' fun a w hS hW => hK a w ⟨fun _ => hS, hW hS (inv.set hm hk)⟩
 ·refine wpOp_step hp fun K' hK => ?_
  rw [if_pos hw']
  exact h' K' fun a w hS hW => hK a w ⟨fun _ => hS, hW hS (inv.set hm' hl)⟩
/-- An operation from n on: nothing is asked of the world any more. -/
theorem wpD_late {k : Nat} {o : Oper} {f : Nat} {listed : Array Bool} {a : Act} {w : World} (hr : Region.ready .any ops listed = [k]) (ho : ops[k]? = some o) (hk : n ≤ k)
  (hw : Region.wanted o (yielded ops a.tmps) = true)
  (h : ∀ K' : Act → World → Prop, Shut (∀ a w, wpD P .any ops Q n S f (listed.setIfInBounds k true) a w → K' a w) → Oper.wp P o a w K' Q) :
  wpD P .any ops Q n S (f + 1) listed a w := by
 refine ⟨fun e => by rw [hr] at e; simp at e, fun i hi => ?_⟩
 rw [hr] at hi
 obtain rfl : i = k := by simpa using hi
 refine wpOp_step ho fun K' hK => ?_
 rw [if_pos hw]
 exact h K' fun a w hW => hK a w ⟨fun q => absurd q (by omega), hW⟩
theorem wpD_done {f : Nat} {listed : Array Bool} {a : Act} {w : World} (hr : Region.ready .any ops listed = []) (h : Q .normal a w) : wpD P .any ops Q n S f listed a w := by
 cases f with
 | zero => exact ⟨hr, h⟩
 | succ f => exact ⟨fun _ => h, fun j hj => by rw [hr] at hj; simp at hj⟩
/-- The last one. -/
theorem wpD_last {o : Oper} {f : Nat} {listed : Array Bool} {a : Act} {w : World} (hr : Region.ready .any ops listed = [n]) (he : Region.ready .any ops (listed.setIfInBounds n true) = []) (ho : ops[n]? = some o)
  (hw : Region.wanted o (yielded ops a.tmps) = true) (h : Oper.wp P o a w (fun a w => Q .normal a w) Q) : wpD P .any ops Q n S (f + 1) listed a w := by
 refine ⟨fun e => by rw [hr] at e; simp at e, fun i hi => ?_⟩
 rw [hr] at hi
 obtain rfl : i = n := by simpa using hi
 refine wpOp_step ho fun K' hK => ?_
 rw [if_pos hw]
 refine Oper.wp_mono (fun a w k => hK a w ⟨fun q => absurd q (Nat.lt_irrefl _), ?_⟩) h
 cases f with
 | zero => exact ⟨he, k⟩
 | succ f => exact ⟨fun _ => k, fun j hj => by rw [he] at hj; simp at hj⟩
/-- The beginning. -/
theorem wpD_start {id : Nat} {a : Act} {w : World} (n : Nat) (ex : List Nat) (S : World → Prop) (hm : P.follows .mixedOrders = true) (ok : okB ops n ex = true) (hS : S w.drew)
  (h : S w.drew → okB ops n ex = true → HeadInv .any ops n (Array.replicate ops.size false) → wpD P .any ops Q n S ops.size (Array.replicate ops.size false) a w.drew) : (Code.region id ops true).wp P Q a w := by
 refine wp_region_any hm (wpD_any _ _ _ _ (h hS ok ⟨by simp, fun j oj _ hl => ?_, fun t _ ht => getD_in (by simpa using ht) (getD_replicate_false _ _)⟩))
 rw [getD_replicate_false] at hl
 simp at hl
/-- An operation taken, all by itself. -/
theorem tk {ex : List Nat} {oi : Oper} {v : Value} {f : Nat} {listed listed' : Array Bool} {a a' : Act} {w : World} (i : Nat) (hi : ops[i]? = some oi) (ok : okB ops n ex = true) (inv : HeadInv .any ops n listed) (hS : S w)
  (h : HeadInv .any ops n listed' → wpD P .any ops Q n S f listed' a' w)
  (hk : takeB ops listed n ex i = true := by kernel_rfl) (hQ : ∀ c a w, Q (.panic c) (a.put oi.dst v) w → Q (.panic c) a w := by exact fun _ _ _ h => h) (hw : Region.wanted oi (yielded ops a.tmps) = true := by rfl)
  (hy : ∀ w, S w → (execOp a.eval oi).run P w = .ok (.value v) w := by (intro W hW; (try dsimp only at hW); (try simp only [zA, zB, zC]); go_simp; (try with_reducible rfl)))
  (ha : a.put oi.dst v = a' := by ((try simp only [Act.put, zA, zB, zC, zD, zE, zF]); rfl))
  (hl : listed.setIfInBounds i true = listed' := by ((try simp only [zA, zB, zC, zD, zE, zF]); rfl)) : wpD P .any ops Q n S (f + 1) listed a w := by
 subst ha hl
 exact wpD_take hi hk ok inv hQ hw hy hS h
theorem w1 {o : Oper} {f : Nat} {listed : Array Bool} {a : Act} {w : World} (k : Nat) (ho : ops[k]? = some o) (inv : HeadInv .any ops n listed)
  (h : ∀ K' : Act → World → Prop, Shut (∀ a w, S w → (S w → HeadInv .any ops n (listed.setIfInBounds k true) → wpD P .any ops Q n S f (listed.setIfInBounds k true) a w) → K' a w) → Oper.wp P o a w K' Q)
  (hr : Region.ready .any ops listed = [k] := by kernel_rfl) (hk : k < n := by decide) (hw : Region.wanted o (yielded ops a.tmps) = true := by rfl) : wpD P .any ops Q n S (f + 1) listed a w :=
 wpD_one hr ho hk inv hw h
theorem w2 {o p : Oper} {f : Nat} {listed : Array Bool} {a : Act} {w : World} (k l : Nat) (ho : ops[k]? = some o) (hp : ops[l]? = some p) (inv : HeadInv .any ops n listed)
  (h : ∀ K' : Act → World → Prop, Shut (∀ a w, S w → (S w → HeadInv .any ops n (listed.setIfInBounds k true) → wpD P .any ops Q n S f (listed.setIfInBounds k true) a w) → K' a w) → Oper.wp P o a w K' Q)
  (h' : ∀ K' : Act → World → Prop, Shut (∀ a w, S w → (S w → HeadInv .any ops n (listed.setIfInBounds l true) → wpD P .any ops Q n S f (listed.setIfInBounds l true) a w) → K' a w) → Oper.wp P p a w K' Q)
  (hr : Region.ready .any ops listed = [k, l] := by kernel_rfl) (hk : k < n := by decide) (hl : l < n := by decide) (hw : Region.wanted o (yielded ops a.tmps) = true := by rfl) (hw' : Region.wanted p (yielded ops a.tmps) = true := by rfl) : wpD P .any ops Q n S (f + 1) listed a w :=
 wpD_two hr ho hp hk hl inv hw hw' h h'
theorem wl {o : Oper} {f : Nat} {listed : Array Bool} {a : Act} {w : World} (ho : ops[n]? = some o) (h : Oper.wp P o a w (fun a w => Q .normal a w) Q)
  (hr : Region.ready .any ops listed = [n] := by kernel_rfl) (he : Region.ready .any ops (listed.setIfInBounds n true) = [] := by kernel_rfl) (hw : Region.wanted o (yielded ops a.tmps) = true := by rfl) : wpD P .any ops Q n S (f + 1) listed a w :=
 wpD_last hr he ho hw h
theorem y1 {o : Oper} {v : Value} {f : Nat} {listed listed' : Array Bool} {a a' : Act} {w : World} (k : Nat) (ho : ops[k]? = some o) (inv : HeadInv .any ops n listed) (hS : S w)
  (h : HeadInv .any ops n listed' → wpD P .any ops Q n S f listed' a' w)
  (hr : Region.ready .any ops listed = [k] := by kernel_rfl) (hk : k < n := by decide) (hw : Region.wanted o (yielded ops a.tmps) = true := by rfl)
  (hy : (execOp a.eval o).run P w = .ok (.value v) w := by ((try simp only [zA, zB, zC]); go_simp; (try with_reducible rfl)))
  (ha : a.put o.dst v = a' := by ((try simp only [Act.put, zA, zB, zC, zD, zE, zF]); rfl))
  (hl : listed.setIfInBounds k true = listed' := by ((try simp only [zA, zB, zC, zD, zE, zF]); rfl)) : wpD P .any ops Q n S (f + 1) listed a w := by
 subst ha hl
 exact wpD_oneY hr ho hk inv hS hw hy h
theorem wt {o : Oper} {f : Nat} {listed : Array Bool} {a : Act} {w : World} (k : Nat) (ho : ops[k]? = some o)
  (h : ∀ K' : Act → World → Prop, Shut (∀ a w, wpD P .any ops Q n S f (listed.setIfInBounds k true) a w → K' a w) → Oper.wp P o a w K' Q)
  (hr : Region.ready .any ops listed = [k] := by kernel_rfl) (hk : n ≤ k := by decide) (hw : Region.wanted o (yielded ops a.tmps) = true := by rfl) : wpD P .any ops Q n S (f + 1) listed a w :=
 wpD_late hr ho hk hw h
/-- On behind a step, the slots written out. -/
theorem st {f : Nat} {listed listed' : Array Bool} {a a' : Act} {w : World} {K' : Act → World → Prop} (hK : Shut (∀ a w, S w → (S w → HeadInv .any ops n listed → wpD P .any ops Q n S f listed a w) → K' a w)) (hS : S w)
  (h : S w → HeadInv .any ops n listed' → wpD P .any ops Q n S f listed' a' w)
  (ha : a = a' := by ((try simp only [Act.put, zA, zB, zC, zD, zE, zF]); rfl))
  (hl : listed = listed' := by ((try simp only [zA, zB, zC, zD, zE, zF]); rfl)) : K' a w := by
 subst ha hl
 exact hK.out a w hS h
end Go.Proofs.Ytijdglogadnbcaa.Rg
