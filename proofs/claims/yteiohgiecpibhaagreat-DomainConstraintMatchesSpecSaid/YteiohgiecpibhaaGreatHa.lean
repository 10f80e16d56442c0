/- Helpers for walks: blocks, regions that draw their order, regions and loops as theorems of their own. No program. -/
import Derived.OrdersHeld
import Derived.StillTail
import Derived.StillTailTactics
import Derived.Deep.RegionHeld3
import Derived.Deep.RegionLaw
import Derived.Deep.RegionLawGrows
import Derived.Deep.Onto
import Derived.Deep.QuietTactic
import Derived.Deep.LoopGhost
import Derived.Deep.DeepCutAuto
import Derived.Deep.CutBlock
import Derived.Deep.AppendLies
import Derived.Deep.Strs
import Derived.Laws.CopyOwn
import Derived.Laws.OwnMore
import Derived.Laws.IdiomCopy
import Derived.WalkKit
import Derived.WalkSpells
import Derived.WalkLawsBesides
import Derived.OwnWalk
import Derived.IntWalk
import Derived.BigQuiet
import Derived.Lib.SmallJoins
import Derived.Lib.EndianBits
import Derived.Lib.Hide
set_option linter.unusedVariables false
set_option linter.unusedSimpArgs false
set_option maxRecDepth 100000
set_option maxHeartbeats 40000000
namespace Go.Proofs.YteiohgiecpibhaaGreat
open Go.RowKit
def Qt (w wr : World) : Prop := ∃ q, wr = w.drewN q
theorem Qt.below {w wr : World} (h : Qt w wr) : Below w.heap.size w wr := by obtain ⟨q, rfl⟩ := h; exact ⟨rfl, rfl, rfl, Nat.le_refl _, fun _ _ => rfl⟩
theorem Qt.drewN {w wr : World} (h : Qt w wr) (k : Nat) : Qt w (wr.drewN k) := by obtain ⟨q, rfl⟩ := h; exact ⟨q + k, by rw [World.drewN_drewN]⟩
theorem Qt.trans {a b c : World} (h : Qt a b) (k : Qt b c) : Qt a c := by obtain ⟨q, rfl⟩ := k; exact h.drewN q
theorem Qt.refl (a : World) : Qt a a := ⟨0, rfl⟩
theorem Qt.cell {a b : World} (h : Qt a b) {p : Addr} {v : Value} (hc : a.cell? p = some v) : b.cell? p = some v := by obtain ⟨q, rfl⟩ := h; exact hc
theorem lt_of_cell {w : World} {a : Addr} {v : Value} (h : w.cell? a = some v) : a.block < w.heap.size := World.block_lt_of_cell? w _ h
theorem cell_later {n : Nat} {w w' : World} (hb : Below n w w') (hn : w.heap.size ≤ n) {p : Addr} {v : Value} (h : w.cell? p = some v) : w'.cell? p = some v :=
 (World.cell?_of_block (hb.block p.block (Nat.lt_of_lt_of_le (lt_of_cell h) hn))).trans h
theorem below_new (w : World) (o : Obj) : Below w.heap.size w (w.alloc o) := (Below.refl _ _).alloc (Nat.le_refl _) _
def Blk (w : World) (g ty : Nat) : Prop := ∃ arr, w.heap[g]? = some (.cells arr ty (0, 0))
theorem Blk.free {w : World} {g ty : Nat} (h : Blk w g ty) (i : Nat) : w.frozen? ⟨g, i, none⟩ = false := by
 obtain ⟨arr, h⟩ := h
 simp [World.frozen?, h]
theorem Blk.lt {w : World} {g ty : Nat} (h : Blk w g ty) : g < w.heap.size := by
 obtain ⟨arr, h⟩ := h
 exact (Array.getElem?_eq_some_iff.1 h).1
theorem Blk.ne {w : World} {g g' ty ty' : Nat} (h : Blk w g ty) (h' : Blk w g' ty') (hne : ty ≠ ty') : g ≠ g' := by
 obtain ⟨arr, h⟩ := h
 obtain ⟨arr', h'⟩ := h'
 rintro rfl
 rw [h] at h'
 simp only [Option.some.injEq, Obj.cells.injEq] at h'
 exact hne h'.2.1
theorem Blk.keep {w w' : World} {g ty : Nat} (h : Blk w g ty) (e : w'.heap[g]? = w.heap[g]?) : Blk w' g ty := by
 obtain ⟨arr, h⟩ := h
 exact ⟨arr, e.trans h⟩
theorem Blk.setCell {w : World} {g ty : Nat} (h : Blk w g ty) (b i : Nat) (v : Value) : Blk (w.setCell ⟨b, i, none⟩ v) g ty := by
 by_cases e : g = b
 ·subst e
  obtain ⟨arr, h⟩ := h
  exact ⟨_, heap_setCell_same w g i arr ty v h⟩
 ·exact h.keep (heap_setCell_other _ _ _ _ e)
theorem Blk.setCells {g ty b : Nat} : ∀ (vs : List Value) (o : Nat) (w : World), Blk w g ty → Blk (w.setCells b o vs) g ty
 | [], _, _, h => h
 | v :: vs, o, w, h => Blk.setCells vs (o + 1) _ (h.setCell b o v)
theorem heap_setCells_other {b k : Nat} (hk : k ≠ b) : ∀ (vs : List Value) (o : Nat) (w : World), (w.setCells b o vs).heap[k]? = w.heap[k]?
 | [], _, _ => rfl
 | v :: vs, o, w => (heap_setCells_other hk vs (o + 1) _).trans (heap_setCell_other _ _ _ _ hk)
theorem below_setCells {b k : Nat} {w0 : World} (hk : k ≤ b) : ∀ (vs : List Value) (o : Nat) (w : World), Below k w0 w → Below k w0 (w.setCells b o vs)
 | [], _, _, h => h
 | v :: vs, o, w, h => below_setCells hk vs (o + 1) _ (h.setCell hk v)
structure Wr (w w' : World) (g o : Nat) (vs : List Value) : Prop where
 oth : ∀ b, b ≠ g → w'.heap[b]? = w.heap[b]?
 rest : ∀ j, (j < o ∨ o + vs.length ≤ j) → w'.cell? ⟨g, j, none⟩ = w.cell? ⟨g, j, none⟩
 new : ∀ j, j < vs.length → w'.cell? ⟨g, o + j, none⟩ = vs[j]?
 blk : ∀ k ty, Blk w k ty → Blk w' k ty
 bel : ∀ k w0, k ≤ g → Below k w0 w → Below k w0 w'
theorem wr_cells (w : World) (g o : Nat) (vs : List Value) (hex : ∀ j, j < vs.length → (w.cell? ⟨g, o + j, none⟩).isSome = true) : Wr w (w.setCells g o vs) g o vs where
 oth b hb := heap_setCells_other hb vs o w
 rest j hj := World.cell?_setCells_out g vs o w ⟨g, j, none⟩ fun _ _ => hj
 new j hj := by rw [World.cell?_setCells_in g vs o w hex j hj, List.getElem?_eq_getElem hj]
 blk k ty h := h.setCells vs o w
 bel k w0 hk h := below_setCells hk vs o w h
theorem cells_same {w w' : World} {g : Nat} (e : w'.heap[g]? = w.heap[g]?) (i : Nat) : w'.cell? ⟨g, i, none⟩ = w.cell? ⟨g, i, none⟩ := World.cell?_of_block e
theorem undrew {W w2 : World} (h : Below W.drew.heap.size W.drew w2) : Below W.heap.size W w2 := ⟨h.os, h.tape, h.output, h.size, h.block⟩
end Go.Proofs.YteiohgiecpibhaaGreat
namespace Go.Proofs.YteiohgiecpibhaaGreat
/-! Short names of core facts. -/
theorem zA {α : Type} {xs : List α} {i : Nat} (h : i < xs.toArray.size) : xs.toArray[i] = xs[i]'(by simpa using h) := rfl
theorem zB {α : Type} {a : α} {bs : List α} (h : 0 < (a :: bs).length) : (a :: bs)[0] = a := rfl
theorem zC {α : Type} {a : α} {bs : List α} {i : Nat} (h : i + 1 < (a :: bs).length) : (a :: bs)[i + 1] = bs[i]'(Nat.lt_of_succ_lt_succ h) := rfl
theorem zD {α : Type} (l : List α) (i : Nat) (a : α) : l.toArray.setIfInBounds i a = (l.set i a).toArray := List.setIfInBounds_toArray l i a
theorem zE {α : Type} (x a : α) (xs : List α) : (x :: xs).set 0 a = a :: xs := rfl
theorem zF {α : Type} (x : α) (xs : List α) (n : Nat) (a : α) : (x :: xs).set (n + 1) a = x :: xs.set n a := rfl
end Go.Proofs.YteiohgiecpibhaaGreat
namespace Go.Proofs.YteiohgiecpibhaaGreat.Rg
open Go
variable {P : Program} {ops : Array Oper} {md : Region.Mode} {Q : Exit → Act → World → Prop} {S : World → Prop} {n : Nat}
def wpD (P : Program) (md : Region.Mode) (ops : Array Oper) (Q : Exit → Act → World → Prop) (n : Nat) (S : World → Prop) : Nat → Array Bool → Act → World → Prop
 | 0, listed, a, w => Region.ready md ops listed = [] ∧ Q .normal a w
 | f + 1, listed, a, w => (Region.ready md ops listed = [] → Q .normal a w) ∧
   ∀ i ∈ Region.ready md ops listed, wpOp P ops Q i (fun a' w' => (i < n → S w') ∧ wpD P md ops Q n S f (listed.setIfInBounds i true) a' w') a w
theorem wpD_any : ∀ (f : Nat) (listed : Array Bool) (a : Act) (w : World), wpD P md ops Q n S f listed a w → wpAny P md ops Q f listed a w
 | 0, _, _, _, h => h
 | f + 1, _, _, _, h => ⟨h.1, fun i hi => wpOp_mono (fun a' w' k => wpD_any f _ a' w' k.2) (h.2 i hi)⟩
/-- Each operation below n, but those in ex, is waited for by one up to n. -/
def sinkX (md : Region.Mode) (ops : Array Oper) (n : Nat) (ex : List Nat) : Bool :=
 (List.range n).all fun i => ex.contains i || (List.range (n + 1)).any fun j => decide (i < j) && !ex.contains j && Region.waitsFor md ops j i
theorem late {n : Nat} {ex : List Nat} {listed : Array Bool} (hs : sinkX md ops n ex = true) (hc : Region.chainB md ops n = true) (hn : n < ops.size) (inv : HeadInv md ops n listed) :
  ∀ d i, n - i = d → i < n → ex.contains i = false → listed.getD i true = false → ∀ t, n ≤ t → t ∉ Region.ready md ops listed := by
 intro d
 induction d using Nat.strongRecOn with
 | _ d ih =>
  intro i hd hi hx un t ht hr
  obtain ⟨_, ot, hot, hall⟩ := mem_ready.1 hr
  have tlt : t < ops.size := (Array.getElem?_eq_some_iff.1 hot).1
  by_cases e : t = n
  ·subst e
   have h1 := List.all_eq_true.1 hs i (List.mem_range.2 hi)
   rw [hx, Bool.false_or] at h1
   obtain ⟨j, hj, hj2⟩ := List.any_eq_true.1 h1
   simp only [Bool.and_eq_true, decide_eq_true_eq, Bool.not_eq_true'] at hj2
   obtain ⟨⟨hij, hxj⟩, hw⟩ := hj2
   obtain ⟨oj, hoj, b, hb, hbi, hon⟩ := Region.waitsFor_spec hw
   have jle : j ≤ t := by have := List.mem_range.1 hj; omega
   by_cases q : j = t
   ·subst q
    have : oj = ot := Option.some.inj (hoj.symm.trans hot)
    subst this
    have h2 := hall b hb hbi
    rw [hon, getD_both un] at h2
    simp at h2
   ·cases hl : listed.getD j false with
    | true =>
     have h2 := inv.closed j oj hoj hl b hb hbi
     rw [hon, getD_both un] at h2
     simp at h2
    | false => exact ih (t - j) (by omega) j rfl (by omega) hxj (getD_in (by rw [inv.size]; omega) hl) t (Nat.le_refl _) hr
  ·have h1 := List.all_eq_true.1 hc t (List.mem_range.2 tlt)
   simp only [Bool.or_eq_true, decide_eq_true_eq] at h1
   rcases h1 with h1 | h1
   ·omega
   ·obtain ⟨o', ho', b, hb, hbi, hon⟩ := Region.waitsFor_spec h1
    have : o' = ot := Option.some.inj (ho'.symm.trans hot)
    subst this
    have h2 := hall b hb hbi
    rw [hon, getD_both (inv.tail (t - 1) (by omega) (by omega))] at h2
    simp at h2
/-- What can be said of an operation that may be taken first. -/
structure Fst (P : Program) (md : Region.Mode) (ops : Array Oper) (Q : Exit → Act → World → Prop) (i : Nat) (oi : Oper) (v : Value) : Prop where
 at_ : ops[i]? = some oi
 sel : Region.noSelect ops = true
 pan : ∀ c a w, Q (.panic c) (a.put oi.dst v) w → Q (.panic c) a w
theorem wpD_first {i : Nat} {oi : Oper} {v : Value} (F : Fst P md ops Q i oi v) (hl : i < n) (hlate : ∀ listed, HeadInv md ops n listed → listed.getD i true = false → ∀ t, n ≤ t → t ∉ Region.ready md ops listed) : ∀ (f : Nat) (listed : Array Bool) (a : Act) (w : World), HeadInv md ops n listed →
  (∀ j oj, ops[j]? = some oj → j ≠ i → listed.getD j true = false → (∀ e ∈ oj.after, Region.binds md e = true → e.on ≠ i) → oi.apart ops oj = true) →
  i ∈ Region.ready md ops listed → YieldsIf P ops S oi v a → S w → wpD P md ops Q n S f (listed.setIfInBounds i true) (a.put oi.dst v) w → wpD P md ops Q n S (f + 1) listed a w := by
 have sel := Region.noSelect_spec F.sel
 intro f
 induction f with
 | zero =>
  intro listed a w inv _ hr hy hS H
  refine ⟨fun e => absurd hr (by rw [e]; simp), fun j hj => ?_⟩
  by_cases e : j = i
  ·subst e; exact hy.wpOp F.at_ hS ⟨fun _ => hS, H⟩
  ·have := ready_mono hj e
   rw [H.1] at this
   simp at this
 | succ f ih =>
  intro listed a w inv ap hr hy hS H
  have un := (mem_ready.1 hr).1
  refine ⟨fun e => absurd hr (by rw [e]; simp), fun j hj => ?_⟩
  by_cases e : j = i
  ·subst e; exact hy.wpOp F.at_ hS ⟨fun _ => hS, H⟩
  ·have jn : j < n := Classical.byContradiction fun q => hlate listed inv un j (by omega) hj
   obtain ⟨ju, oj, hoj, hall⟩ := mem_ready.1 hj
   have no : ∀ d ∈ oj.after, Region.binds md d = true → d.on ≠ i := fun d hd hb q => by
    have := hall d hd hb
    rw [q, getD_both un] at this
    simp at this
   have st := wpOp_putIf hoj (ap j oj hoj e ju no) (fun cs b => sel i oi cs b F.at_) (fun cs b => sel j oj cs b hoj) F.pan hy (H.2 j (ready_mono hj e))
   refine wpOp_mono (fun a' w' k => ⟨k.2.1, ih (listed.setIfInBounds j true) a' w' (inv.set hj jn) (fun k' ok hk hki hu hno => ap k' ok hk hki ?_ hno) (ready_mono hr (Ne.symm e)) k.1 (k.2.1 jn) ?_⟩) st
   ·by_cases q : j = k'
    ·subst q; exact ju
    ·rw [getD_set_ne true q] at hu; exact hu
   ·rw [Array.setIfInBounds_comm _ _ e]; exact k.2.2
/-- What the kernel is asked of a region. -/
def okB (ops : Array Oper) (n : Nat) (ex : List Nat) : Bool := Region.noSelect ops && sinkX .any ops n ex && Region.chainB .any ops n && decide (n < ops.size)
def takeB (ops : Array Oper) (listed : Array Bool) (n : Nat) (ex : List Nat) (i : Nat) : Bool := Region.free .any ops listed i && (Region.ready .any ops listed).contains i && decide (i < n) && !ex.contains i
theorem wpD_take {ex : List Nat} {i : Nat} {oi : Oper} {v : Value} {f : Nat} {listed : Array Bool} {a : Act} {w : World} (hi : ops[i]? = some oi) (hk : takeB ops listed n ex i = true) (ok : okB ops n ex = true) (inv : HeadInv .any ops n listed)
  (hQ : ∀ c a w, Q (.panic c) (a.put oi.dst v) w → Q (.panic c) a w) (hw : Region.wanted oi (yielded ops a.tmps) = true) (hy : ∀ w, S w → (execOp a.eval oi).run P w = .ok (.value v) w) (hS : S w)
  (h : HeadInv .any ops n (listed.setIfInBounds i true) → wpD P .any ops Q n S f (listed.setIfInBounds i true) (a.put oi.dst v) w) : wpD P .any ops Q n S (f + 1) listed a w := by
 simp only [okB, takeB, Bool.and_eq_true, decide_eq_true_eq, Bool.not_eq_true'] at ok hk
 obtain ⟨⟨⟨o1, o2⟩, o3⟩, o4⟩ := ok
 obtain ⟨⟨⟨k1, k2⟩, k3⟩, k4⟩ := hk
 have hr : i ∈ Region.ready .any ops listed := by simpa using k2
 exact wpD_first ⟨hi, o1, hQ⟩ k3 (fun l iv un => late o2 o3 o4 iv _ i rfl k3 k4 un) f listed a w inv (Region.free_spec hi k1) hr (Or.inl ⟨hw, hy⟩) hS (h (inv.set hr k3))
/-- The one operation that may come up. -/
theorem wpD_one {k : Nat} {o : Oper} {f : Nat} {listed : Array Bool} {a : Act} {w : World} (hr : Region.ready .any ops listed = [k]) (ho : ops[k]? = some o) (hk : k < n) (inv : HeadInv .any ops n listed)
  (hw : Region.wanted o (yielded ops a.tmps) = true)
  (h : ∀ K' : Act → World → Prop, Shut (∀ a w, S w → (S w → HeadInv .any ops n (listed.setIfInBounds k true) → wpD P .any ops Q n S f (listed.setIfInBounds k true) a w) → K' a w) → Oper.wp P o a w K' Q) :
  wpD P .any ops Q n S (f + 1) listed a w := by
 have hm : k ∈ Region.ready .any ops listed := by rw [hr]; simp
 refine ⟨fun e => by rw [hr] at e; simp at e, fun i hi => ?_⟩
 rw [hr] at hi
 obtain rfl : i = k := by simpa using hi
 refine wpOp_step ho fun K' hK => ?_
 rw [if_pos hw]
 exact h K' fun a w hS hW => hK a w ⟨fun _ => hS, hW hS (inv.set hm hk)⟩
/-- One that may come up, or one of two, and yields at the world at hand. -/
theorem wpD_oneY {k : Nat} {o : Oper} {v : Value} {f : Nat} {listed : Array Bool} {a : Act} {w : World} (hr : Region.ready .any ops listed = [k]) (ho : ops[k]? = some o) (hk : k < n) (inv : HeadInv .any ops n listed) (hS : S w)
  (hw : Region.wanted o (yielded ops a.tmps) = true) (hy : (execOp a.eval o).run P w = .ok (.value v) w)
  (h : HeadInv .any ops n (listed.setIfInBounds k true) → wpD P .any ops Q n S f (listed.setIfInBounds k true) (a.put o.dst v) w) : wpD P .any ops Q n S (f + 1) listed a w := by
 have hm : k ∈ Region.ready .any ops listed := by rw [hr]; simp
 refine ⟨fun e => by rw [hr] at e; simp at e, fun i hi => ?_⟩
 rw [hr] at hi
 obtain rfl : i = k := by simpa using hi
 exact YieldsIf.wpOp (S := fun x => x = w) ho (Or.inl ⟨hw, fun x e => by rw [e]; exact hy⟩) rfl ⟨fun _ => hS, h (inv.set hm hk)⟩
theorem wpD_twoY {k l : Nat} {o p : Oper} {v u : Value} {f : Nat} {listed : Array Bool} {a : Act} {w : World} (hr : Region.ready .any ops listed = [k, l]) (ho : ops[k]? = some o) (hp : ops[l]? = some p) (hk : k < n) (hl : l < n) (inv : HeadInv .any ops n listed) (hS : S w)
  (hw : Region.wanted o (yielded ops a.tmps) = true) (hw' : Region.wanted p (yielded ops a.tmps) = true) (hy : (execOp a.eval o).run P w = .ok (.value v) w) (hy' : (execOp a.eval p).run P w = .ok (.value u) w)
  (h : HeadInv .any ops n (listed.setIfInBounds k true) → wpD P .any ops Q n S f (listed.setIfInBounds k true) (a.put o.dst v) w)
  (h' : HeadInv .any ops n (listed.setIfInBounds l true) → wpD P .any ops Q n S f (listed.setIfInBounds l true) (a.put p.dst u) w) : wpD P .any ops Q n S (f + 1) listed a w := by
 have hm : k ∈ Region.ready .any ops listed := by rw [hr]; simp
 have hm' : l ∈ Region.ready .any ops listed := by rw [hr]; simp
 refine ⟨fun e => by rw [hr] at e; simp at e, fun i hi => ?_⟩
 rw [hr] at hi
 simp only [List.mem_cons, List.not_mem_nil, or_false] at hi
 rcases hi with rfl | rfl
 ·exact YieldsIf.wpOp (S := fun x => x = w) ho (Or.inl ⟨hw, fun x e => by rw [e]; exact hy⟩) rfl ⟨fun _ => hS, h (inv.set hm hk)⟩
 ·exact YieldsIf.wpOp (S := fun x => x = w) hp (Or.inl ⟨hw', fun x e => by rw [e]; exact hy'⟩) rfl ⟨fun _ => hS, h' (inv.set hm' hl)⟩
/-- One of two. -/
theorem wpD_two {k l : Nat} {o p : Oper} {f : Nat} {listed : Array Bool} {a : Act} {w : World} (hr : Region.ready .any ops listed = [k, l]) (ho : ops[k]? = some o) (hp : ops[l]? = some p) (hk : k < n) (hl : l < n) (inv : HeadInv .any ops n listed)
  (hw : Region.wanted o (yielded ops a.tmps) = true) (hw' : Region.wanted p (yielded ops a.tmps) = true)
  (h : ∀ K' : Act → World → Prop, Shut (∀ a w, S w → (S w → HeadInv .any ops n (listed.setIfInBounds k true) → wpD P .any ops Q n S f (listed.setIfInBounds k true) a w) → K' a w) → Oper.wp P o a w K' Q)
  (h' : ∀ K' : Act → World → Prop, Shut (∀ a w, S w → (S w → HeadInv .any ops n (listed.setIfInBounds l true) → wpD P .any ops Q n S f (listed.setIfInBounds l true) a w) → K' a w) → Oper.wp P p a w K' Q) :
  wpD P .any ops Q n S (f + 1) listed a w := by
 have hm : k ∈ Region.ready .any ops listed := by rw [hr]; simp
 have hm' : l ∈ Region.ready .any ops listed := by rw [hr]; simp
 refine ⟨fun e => by rw [hr] at e; simp at e, fun i hi => ?_⟩
 rw [hr] at hi
 simp only [List.mem_cons, List.not_mem_nil, or_false] at hi
 rcases hi with rfl | rfl
 ·refine wpOp_step ho fun K' hK => ?_
  rw [if_pos hw]
  exact h K' fun a w hS hW => hK a w ⟨fun _ => hS, hW hS (inv.set hm hk)⟩
 ·refine wpOp_step hp fun K' hK => ?_
  rw [if_pos hw']
  exact h' K' fun a w hS hW => hK a w ⟨fun _ => hS, hW hS (inv.set hm' hl)⟩
/-- An operation from n on: nothing is asked of the world any more. -/
theorem wpD_late {k : Nat} {o : Oper} {f : Nat} {listed : Array Bool} {a : Act} {w : World} (hr : Region.ready .any ops listed = [k]) (ho : ops[k]? = some o) (hk : n ≤ k)
  (hw : Region.wanted o (yielded ops a.tmps) = true)
  (h : ∀ K' : Act → World → Prop, Shut (∀ a w, wpD P .any ops Q n S f (listed.setIfInBounds k true) a w → K' a w) → Oper.wp P o a w K' Q) :
  wpD P .any ops Q n S (f + 1) listed a w := by
 refine ⟨fun e => by rw [hr] at e; simp at e, fun i hi => ?_⟩
 rw [hr] at hi
 obtain rfl : i = k := by simpa using hi
 refine wpOp_step ho fun K' hK => ?_
 rw [if_pos hw]
 exact h K' fun a w hW => hK a w ⟨fun q => absurd q (by omega), hW⟩
theorem wpD_done {f : Nat} {listed : Array Bool} {a : Act} {w : World} (hr : Region.ready .any ops listed = []) (h : Q .normal a w) : wpD P .any ops Q n S f listed a w := by
 cases f with
 | zero => exact ⟨hr, h⟩
 | succ f => exact ⟨fun _ => h, fun j hj => by rw [hr] at hj; simp at hj⟩
/-- The last one. -/
theorem wpD_last {o : Oper} {f : Nat} {listed : Array Bool} {a : Act} {w : World} (hr : Region.ready .any ops listed = [n]) (he : Region.ready .any ops (listed.setIfInBounds n true) = []) (ho : ops[n]? = some o)
  (hw : Region.wanted o (yielded ops a.tmps) = true) (h : Oper.wp P o a w (fun a w => Q .normal a w) Q) : wpD P .any ops Q n S (f + 1) listed a w := by
 refine ⟨fun e => by rw [hr] at e; simp at e, fun i hi => ?_⟩
 rw [hr] at hi
 obtain rfl : i = n := by simpa using hi
 refine wpOp_step ho fun K' hK => ?_
 rw [if_pos hw]
 refine Oper.wp_mono (fun a w k => hK a w ⟨fun q => absurd q (Nat.lt_irrefl _), ?_⟩) h
 cases f with
 | zero => exact ⟨he, k⟩
 | succ f => exact ⟨fun _ => k, fun j hj => by rw [he] at hj; simp at hj⟩
/-- The beginning. -/
theorem wpD_start {id : Nat} {a : Act} {w : World} (n : Nat) (ex : List Nat) (S : World → Prop) (hm : P.follows .mixedOrders = true) (ok : okB ops n ex = true) (hS : S w.drew)
  (h : S w.drew → okB ops n ex = true → HeadInv .any ops n (Array.replicate ops.size false) → wpD P .any ops Q n S ops.size (Array.replicate ops.size false) a w.drew) : (Code.region id ops true).wp P Q a w := by
 refine wp_region_any hm (wpD_any _ _ _ _ (h hS ok ⟨by simp, fun j oj _ hl => ?_, fun t _ ht => getD_in (by simpa using ht) (getD_replicate_false _ _)⟩))
 rw [getD_replicate_false] at hl
 simp at hl
/-- An operation taken, all by itself. -/
theorem tk {ex : List Nat} {oi : Oper} {v : Value} {f : Nat} {listed listed' : Array Bool} {a a' : Act} {w : World} (i : Nat) (hi : ops[i]? = some oi) (ok : okB ops n ex = true) (inv : HeadInv .any ops n listed) (hS : S w)
  (h : HeadInv .any ops n listed' → wpD P .any ops Q n S f listed' a' w)
  (hk : takeB ops listed n ex i = true := by kernel_rfl) (hQ : ∀ c a w, Q (.panic c) (a.put oi.dst v) w → Q (.panic c) a w := by exact fun _ _ _ h => h) (hw : Region.wanted oi (yielded ops a.tmps) = true := by rfl)
  (hy : ∀ w, S w → (execOp a.eval oi).run P w = .ok (.value v) w := by (intro W hW; (try dsimp only at hW); (try simp only [zA, zB, zC]); go_simp; (try with_reducible rfl)))
  (ha : a.put oi.dst v = a' := by ((try simp only [Act.put, zA, zB, zC, zD, zE, zF]); rfl))
  (hl : listed.setIfInBounds i true = listed' := by ((try simp only [zA, zB, zC, zD, zE, zF]); rfl)) : wpD P .any ops Q n S (f + 1) listed a w := by
 subst ha hl
 exact wpD_take hi hk ok inv hQ hw hy hS h
theorem w1 {o : Oper} {f : Nat} {listed : Array Bool} {a : Act} {w : World} (k : Nat) (ho : ops[k]? = some o) (inv : HeadInv .any ops n listed)
  (h : ∀ K' : Act → World → Prop, Shut (∀ a w, S w → (S w → HeadInv .any ops n (listed.setIfInBounds k true) → wpD P .any ops Q n S f (listed.setIfInBounds k true) a w) → K' a w) → Oper.wp P o a w K' Q)
  (hr : Region.ready .any ops listed = [k] := by kernel_rfl) (hk : k < n := by decide) (hw : Region.wanted o (yielded ops a.tmps) = true := by rfl) : wpD P .any ops Q n S (f + 1) listed a w :=
 wpD_one hr ho hk inv hw h
theorem w2 {o p : Oper} {f : Nat} {listed : Array Bool} {a : Act} {w : World} (k l : Nat) (ho : ops[k]? = some o) (hp : ops[l]? = some p) (inv : HeadInv .any ops n listed)
  (h : ∀ K' : Act → World → Prop, Shut (∀ a w, S w → (S w → HeadInv .any ops n (listed.setIfInBounds k true) → wpD P .any ops Q n S f (listed.setIfInBounds k true) a w) → K' a w) → Oper.wp P o a w K' Q)
  (h' : ∀ K' : Act → World → Prop, Shut (∀ a w, S w → (S w → HeadInv .any ops n (listed.setIfInBounds l true) → wpD P .any ops Q n S f (listed.setIfInBounds l true) a w) → K' a w) → Oper.wp P p a w K' Q)
  (hr : Region.ready .any ops listed = [k, l] := by kernel_rfl) (hk : k < n := by decide) (hl : l < n := by decide) (hw : Region.wanted o (yielded ops a.tmps) = true := by rfl) (hw' : Region.wanted p (yielded ops a.tmps) = true := by rfl) : wpD P .any ops Q n S (f + 1) listed a w :=
 wpD_two hr ho hp hk hl inv hw hw' h h'
theorem wl {o : Oper} {f : Nat} {listed : Array Bool} {a : Act} {w : World} (ho : ops[n]? = some o) (h : Oper.wp P o a w (fun a w => Q .normal a w) Q)
  (hr : Region.ready .any ops listed = [n] := by kernel_rfl) (he : Region.ready .any ops (listed.setIfInBounds n true) = [] := by kernel_rfl) (hw : Region.wanted o (yielded ops a.tmps) = true := by rfl) : wpD P .any ops Q n S (f + 1) listed a w :=
 wpD_last hr he ho hw h
theorem y1 {o : Oper} {v : Value} {f : Nat} {listed listed' : Array Bool} {a a' : Act} {w : World} (k : Nat) (ho : ops[k]? = some o) (inv : HeadInv .any ops n listed) (hS : S w)
  (h : HeadInv .any ops n listed' → wpD P .any ops Q n S f listed' a' w)
  (hr : Region.ready .any ops listed = [k] := by kernel_rfl) (hk : k < n := by decide) (hw : Region.wanted o (yielded ops a.tmps) = true := by rfl)
  (hy : (execOp a.eval o).run P w = .ok (.value v) w := by ((try simp only [zA, zB, zC]); go_simp; (try with_reducible rfl)))
  (ha : a.put o.dst v = a' := by ((try simp only [Act.put, zA, zB, zC, zD, zE, zF]); rfl))
  (hl : listed.setIfInBounds k true = listed' := by ((try simp only [zA, zB, zC, zD, zE, zF]); rfl)) : wpD P .any ops Q n S (f + 1) listed a w := by
 subst ha hl
 exact wpD_oneY hr ho hk inv hS hw hy h
theorem wt {o : Oper} {f : Nat} {listed : Array Bool} {a : Act} {w : World} (k : Nat) (ho : ops[k]? = some o)
  (h : ∀ K' : Act → World → Prop, Shut (∀ a w, wpD P .any ops Q n S f (listed.setIfInBounds k true) a w → K' a w) → Oper.wp P o a w K' Q)
  (hr : Region.ready .any ops listed = [k] := by kernel_rfl) (hk : n ≤ k := by decide) (hw : Region.wanted o (yielded ops a.tmps) = true := by rfl) : wpD P .any ops Q n S (f + 1) listed a w :=
 wpD_late hr ho hk hw h
/-- On behind a step, the slots written out. -/
theorem st {f : Nat} {listed listed' : Array Bool} {a a' : Act} {w : World} {K' : Act → World → Prop} (hK : Shut (∀ a w, S w → (S w → HeadInv .any ops n listed → wpD P .any ops Q n S f listed a w) → K' a w)) (hS : S w)
  (h : S w → HeadInv .any ops n listed' → wpD P .any ops Q n S f listed' a' w)
  (ha : a = a' := by ((try simp only [Act.put, zA, zB, zC, zD, zE, zF]); rfl))
  (hl : listed = listed' := by ((try simp only [zA, zB, zC, zD, zE, zF]); rfl)) : K' a w := by
 subst ha hl
 exact hK.out a w hS h
end Go.Proofs.YteiohgiecpibhaaGreat.Rg
namespace Go.Proofs.YteiohgiecpibhaaGreat
open Go
def findC : Code → Nat → Option Code
 | .region id ops d, k => if id = k then some (.region id ops d) else none
 | .seq a b, k => match findC a k with | some c => some c | none => findC b k
 | .cond _ a b, k => match findC a k with | some c => some c | none => findC b k
 | .block _ a, k => findC a k
 | .loop a, k => findC a k
 | .scope a, k => findC a k
 | _, _ => none
def regC (f : Func) (k : Nat) : Code := match f.body with | some c => (findC c k).getD .skip | none => .skip
def Only (K : Act → World → Prop) : Exit → Act → World → Prop
 | .normal, a, w => K a w
 | _, _, _ => False
theorem wp_only {P : Program} {s : Code} {K : Act → World → Prop} {Q : Exit → Act → World → Prop} {a : Act} {w : World} (h : s.wp P (Only K) a w) (hk : ∀ a w, K a w → Q .normal a w) : s.wp P Q a w :=
 Code.wp_mono (fun e a w k => by cases e <;> first | exact hk _ _ k | exact (k : False).elim) h
def findK : Code → Nat → Option Code
 | .cond (.tmp t) a b, k => if t = k then some (.cond (.tmp t) a b) else match findK a k with | some c => some c | none => findK b k
 | .cond _ a b, k => match findK a k with | some c => some c | none => findK b k
 | .seq a b, k => match findK a k with | some c => some c | none => findK b k
 | .block _ a, k => findK a k
 | .loop a, k => findK a k
 | .scope a, k => findK a k
 | _, _ => none
def condC (f : Func) (k : Nat) : Code := match f.body with | some c => (findK c k).getD .skip | none => .skip
def findL : Code → Nat → Option Code
  | .block id (.loop a), k => if id = k then some (.loop a) else findL a k
  | .block _ a, k => findL a k
  | .seq a b, k => match findL a k with | some c => some c | none => findL b k
  | .cond _ a b, k => match findL a k with | some c => some c | none => findL b k
  | .loop a, k => findL a k
  | .scope a, k => findL a k
  | _, _ => none
def lpC (f : Func) (k : Nat) : Code := match f.body with | some c => (findL c k).getD .skip | none => .skip
def OnlyX (n : Nat) (K : Act → World → Prop) : Exit → Act → World → Prop
  | .exit m, a, w => m = n ∧ K a w
  | _, _, _ => False
theorem wp_onlyX {P : Program} {s : Code} {n : Nat} {K : Act → World → Prop} {Q : Exit → Act → World → Prop} {a : Act} {w : World} (h : s.wp P (OnlyX n K) a w) (hk : ∀ a w, K a w → Q (.exit n) a w) : s.wp P Q a w :=
  Code.wp_mono (fun e a w k => by
    cases e with
    | exit m => obtain ⟨rfl, k⟩ := (k : m = n ∧ K a w); exact hk _ _ k
    | _ => exact (k : False).elim) h
open Go.RowKit
theorem below_by {w w' : World} (h : Below w.heap.size w w') (row : Option Nat) : w.grownBy w' row := ⟨h.os, h.tape, h.output, h.size, fun k hk _ => h.block k hk⟩
structure OwP (P : Value → Prop) (w : World) (base e size : Nat) (v : Value) (n : Nat) (xs : List Value) : Prop where
  own : w.ownsRow base e size v n xs
  pq : ∀ g, v.ownBlock = some g → ∀ o u, w.cell? ⟨g, o, none⟩ = some u → P u
theorem OwP.nil (P : Value → Prop) (w : World) (base e size : Nat) : OwP P w base e size (.slice none 0 0) 0 [] := ⟨World.ownsRow_nil w base e size, fun g h => by simp [Value.ownBlock] at h⟩
theorem OwP.kept {P : Value → Prop} {w w' : World} {base e size n : Nat} {v : Value} {xs : List Value} {row : Option Nat} (h : OwP P w base e size v n xs) (g : w.grownBy w' row) (hne : v.ownBlock = none ∨ v.ownBlock ≠ row) : OwP P w' base e size v n xs := by
  refine ⟨h.own.kept g hne, fun b hb o u hu => h.pq b hb o u ?_⟩
  have lt := (h.own.lt b hb).2
  rw [← hu]
  symm
  refine World.cell?_of_block (g.block b lt fun q => ?_)
  rcases hne with e | e
  · rw [e] at hb; simp at hb
  · exact e (hb.trans q)
theorem OwP.below {P : Value → Prop} {w w' : World} {base e size n : Nat} {v : Value} {xs : List Value} (h : OwP P w base e size v n xs) (hb : Below w.heap.size w w') : OwP P w' base e size v n xs :=
  h.kept (below_by hb none) (by cases v.ownBlock <;> simp)
theorem p_list {P : Value → Prop} {w : World} {g : Nat} {l : List Value} {t : TypeId} {fr : Nat × Nat} (hg : w.heap[g]? = some (.cells l.toArray t fr)) (hl : ∀ u ∈ l, P u) : ∀ o u, w.cell? ⟨g, o, none⟩ = some u → P u := by
 intro o u hu
 rw [cell_of_row w g o _ t fr hg, List.getElem?_toArray] at hu
 exact hl u (List.mem_of_getElem? hu)
theorem p_cur {P : Value → Prop} {w : World} {g : Nat} {cur : Array Value} {t : TypeId} {fr : Nat × Nat} (hg : w.heap[g]? = some (.cells cur t fr)) (h : ∀ o u, w.cell? ⟨g, o, none⟩ = some u → P u) : ∀ u ∈ cur.toList, P u := by
 intro u hu
 obtain ⟨j, hj, rfl⟩ := List.getElem_of_mem hu
 refine h j _ ?_
 rw [cell_of_row w g j _ t fr hg]
 simp at hj
 simp [hj]
theorem p_zero {P : Value → Prop} {z : Array Value} (h : ∀ u ∈ z.toList, P u) (h0 : 0 < z.size) (n : Nat) : ∀ u ∈ (Builtin.zeroCells z n).toList, P u := by
 intro u hu
 simp only [Builtin.zeroCells, Array.toList_map, List.mem_map] at hu
 obtain ⟨i, _, rfl⟩ := hu
 have lt : i % z.size < z.size := Nat.mod_lt _ h0
 rw [getElem!_pos z _ lt]
 exact h _ (by simp)
theorem run_append_op {P : Value → Prop} {Pg : Program} (w : World) (base : Nat) (t ty e : TypeId) (i : TypeInfo) (z : Value) (size bytes : Nat) (ht : Pg.underlying t = some (.slice e)) (hi : Pg.info? e = some i) (hz : i.zero = some z)
  (hsize : i.size = size) (hby : i.bytes = bytes) (hzs : z.cells.size = size) (hsz : 0 < size) (zn : ∀ u ∈ z.cells.toList, P u)
  (v : Value) (n : Nat) (xs : List Value) (how : OwP P w base e size v n xs)
  (a : Addr) (m c : Nat) (news : List Value) (hl : news.length = m * size) (hnews : ∀ j u, news[j]? = some u → w.cell? (a.add j) = some u) (h1 : ∀ u ∈ news, u.oneCell' = true) (hnu : ∀ u ∈ news, P u)
  (h63 : n + m ≤ maxLen) (hbytes : (n + m) * bytes ≤ 140737488355328) (hbase : base ≤ w.heap.size) :
  ∃ v' w', (Builtin.append_ #[t, t] ty #[v, .slice (some a) m c]).run Pg w = .ok v' w' ∧ OwP P w' base e size v' (n + m) (xs ++ news) ∧ w.grownBy w' v.ownBlock ∧ ∀ g, v'.ownBlock = some g → v.ownBlock = some g ∨ w.heap.size ≤ g := by
 have hown := how.own
 obtain ⟨v', w', hr, o, g, _⟩ := run_append_own (P := Pg) w base t ty e i z size bytes ht hi hz hsize hby hzs hsz v n xs hown a m c news hl hnews h1 h63 hbytes hbase
 suffices F : ∀ g', v'.ownBlock = some g' → (v.ownBlock = some g' ∨ w.heap.size ≤ g') ∧ ∀ o u, w'.cell? ⟨g', o, none⟩ = some u → P u from ⟨v', w', hr, ⟨o, fun g' h => (F g' h).2⟩, g, fun g' h => (F g' h).1⟩
 subst hsize
 subst hby
 intro g' hg'
 have h63' : ((n + m : Nat) : Int) ≤ 9223372036854775807 := by simp only [maxLen] at h63; omega
 rcases hown.2 with ⟨rfl, rfl⟩ | ⟨g0, cap, cur, rfl, hbg, hg, hnc, hcm, hcs, htake⟩
 ·by_cases hm : m = 0
  ·subst hm
   have hn : news = [] := List.eq_nil_of_length_eq_zero (by simpa using hl)
   subst hn
   have e1 : (Builtin.append_ #[t, t] ty #[.slice none 0 0, .slice (some a) 0 c]).run Pg w = .ok (.slice none 0 0) w := by
    simp [Builtin.append_, run_underlying ht, sizeOf, typeInfo, hi, Builtin.lenOf, Builtin.firstCells, loadCells, loadCellsFrom]
   rw [e1] at hr
   injection hr with hr1 hr2
   subst hr1
   simp [Value.ownBlock] at hg'
  ·have e1 := run_append_nil (P := Pg) w t ty e i z ht hi hz a m c news hl hnews (by omega) (by omega) (by have hb := hbytes; simp only [Nat.zero_add] at hb; omega)
   rw [e1] at hr
   injection hr with hr1 hr2
   subst hr1 hr2
   simp only [Value.ownBlock, Option.some.injEq] at hg'
   subst hg'
   have hh : (w.drew.alloc (.cells (news.toArray ++ Builtin.zeroCells z.cells (grownCap w m 0 e - m)) e)).heap[w.heap.size]? = some (.cells (news ++ (Builtin.zeroCells z.cells (grownCap w m 0 e - m)).toList).toArray e (0, 0)) := by
    have := heap_alloc_new w.drew (.cells (news.toArray ++ Builtin.zeroCells z.cells (grownCap w m 0 e - m)) e)
    rw [show w.drew.heap.size = w.heap.size from rfl] at this
    rw [this]
    congr 2
    exact Array.ext' (by simp)
   refine ⟨Or.inr (Nat.le_refl _), p_list hh fun u hu => ?_⟩
   rcases List.mem_append.1 hu with q | q
   ·exact hnu u q
   ·exact p_zero zn (by omega) _ u q
 ·have old := p_cur hg (how.pq g0 rfl)
  by_cases hroom : n + m ≤ cap
  ·have hfit : n * i.size + news.length ≤ cur.size := by rw [hl, hcs, ← Nat.add_mul]; exact Nat.mul_le_mul_right _ hroom
   have e1 := run_append_room (P := Pg) w t ty e i ht hi g0 n cap cur hg a m c news hl hnews h1 hroom hfit
   rw [e1] at hr
   injection hr with hr1 hr2
   subst hr1 hr2
   simp only [Value.ownBlock, Option.some.injEq] at hg'
   subst hg'
   refine ⟨Or.inl rfl, p_list (setRow_heap w g0 cur _ e _ hg) fun u hu => ?_⟩
   rcases List.mem_append.1 hu with q | q
   ·rcases List.mem_append.1 q with q | q
    ·exact old u (List.mem_of_mem_take q)
    ·exact hnu u q
   ·exact old u (List.mem_of_mem_drop q)
  ·have holds : ∀ j u, xs[j]? = some u → w.cell? ((⟨g0, 0, none⟩ : Addr).add j) = some u := hown.cells (g := g0) rfl
   have e1 := run_append_grow (P := Pg) w t ty e i z ht hi hz ⟨g0, 0, none⟩ n cap xs hown.1 holds a m c news hl hnews (by omega) (by omega) (growslice_fits (by omega) hbytes)
   rw [e1] at hr
   injection hr with hr1 hr2
   subst hr1 hr2
   simp only [Value.ownBlock, Option.some.injEq] at hg'
   subst hg'
   have hh : (w.drew.alloc (.cells (xs.toArray ++ news.toArray ++ Builtin.zeroCells z.cells (grownCap w (n + m) cap e - (n + m))) e)).heap[w.heap.size]? = some (.cells (xs ++ news ++ (Builtin.zeroCells z.cells (grownCap w (n + m) cap e - (n + m))).toList).toArray e (0, 0)) := by
    have := heap_alloc_new w.drew (.cells (xs.toArray ++ news.toArray ++ Builtin.zeroCells z.cells (grownCap w (n + m) cap e - (n + m))) e)
    rw [show w.drew.heap.size = w.heap.size from rfl] at this
    rw [this]
    congr 2
    exact Array.ext' (by simp)
   refine ⟨Or.inr (Nat.le_refl _), p_list hh fun u hu => ?_⟩
   rcases List.mem_append.1 hu with q | q
   ·rcases List.mem_append.1 q with q | q
    ·rw [← htake] at q; exact old u (List.mem_of_mem_take q)
    ·exact hnu u q
   ·exact p_zero zn (by omega) _ u q
theorem wp_append_op {P : Value → Prop} {Pg : Program} {w : World} {o : Oper} {a : Act} {K : Act → World → Prop} {Q : Exit → Act → World → Prop} (s x : Operand) (t : TypeId)
  (ho : o.op = .call { callee := .builtin .append, args := #[s, x], argTypes := #[t, t] })
  (base : Nat) (e : TypeId) (i : TypeInfo) (z : Value) (size bytes : Nat) (ht : Pg.underlying t = some (.slice e)) (hi : Pg.info? e = some i) (hz : i.zero = some z)
  (hsize : i.size = size) (hby : i.bytes = bytes) (hzs : z.cells.size = size) (hsz : 0 < size) (zn : ∀ u ∈ z.cells.toList, P u)
  (v : Value) (n : Nat) (xs : List Value) (hs : a.eval s = v) (hown : OwP P w base e size v n xs)
  (ad : Addr) (m c : Nat) (news : List Value) (hx : a.eval x = .slice (some ad) m c) (hl : news.length = m * size) (hnews : ∀ j u, news[j]? = some u → w.cell? (ad.add j) = some u) (h1 : ∀ u ∈ news, u.oneCell' = true) (hnu : ∀ u ∈ news, P u)
  (h63 : n + m ≤ maxLen) (hbytes : (n + m) * bytes ≤ 140737488355328) (hbase : base ≤ w.heap.size)
  (h : ∀ v' w', OwP P w' base e size v' (n + m) (xs ++ news) → w.grownBy w' v.ownBlock → (∀ g, v'.ownBlock = some g → v.ownBlock = some g ∨ w.heap.size ≤ g) → K (a.put o.dst v') w') : o.wp Pg a w K Q := by
 obtain ⟨v', w', hr, h2, h3, h4⟩ := run_append_op (Pg := Pg) w base t o.type e i z size bytes ht hi hz hsize hby hzs hsz zn v n xs hown ad m c news hl hnews h1 hnu h63 hbytes hbase
 unfold Oper.wp execOp
 simp only [ho, resolve, invoke, builtin, Sem.run_bind, Sem.run_pure, Result.andThen_ok, List.map_toArray, List.map_cons, List.map_nil, hs, hx, hr]
 exact h v' w' h2 h3 h4
theorem wpList_append_op {P : Value → Prop} {Pg : Program} {w : World} {ops : Array Oper} {rest : List Oper} {o : Oper} {a : Act} {Q : Exit → Act → World → Prop} (hgd : o.guard = none) (s x : Operand) (t : TypeId)
  (ho : o.op = .call { callee := .builtin .append, args := #[s, x], argTypes := #[t, t] })
  (base : Nat) (e : TypeId) (i : TypeInfo) (z : Value) (size bytes : Nat) (ht : Pg.underlying t = some (.slice e)) (hi : Pg.info? e = some i) (hz : i.zero = some z)
  (hsize : i.size = size) (hby : i.bytes = bytes) (hzs : z.cells.size = size) (hsz : 0 < size) (zn : ∀ u ∈ z.cells.toList, P u)
  (v : Value) (n : Nat) (xs : List Value) (hs : a.eval s = v) (hown : OwP P w base e size v n xs)
  (ad : Addr) (m c : Nat) (news : List Value) (hx : a.eval x = .slice (some ad) m c) (hl : news.length = m * size) (hnews : ∀ j u, news[j]? = some u → w.cell? (ad.add j) = some u) (h1 : ∀ u ∈ news, u.oneCell' = true) (hnu : ∀ u ∈ news, P u)
  (h63 : n + m ≤ maxLen) (hbytes : (n + m) * bytes ≤ 140737488355328) (hbase : base ≤ w.heap.size)
  (h : ∀ v' w', OwP P w' base e size v' (n + m) (xs ++ news) → w.grownBy w' v.ownBlock → (∀ g, v'.ownBlock = some g → v.ownBlock = some g ∨ w.heap.size ≤ g) → wpList Pg ops Q rest (a.put o.dst v') w') : wpList Pg ops Q (o :: rest) a w :=
 wpList_plain hgd fun _ hK => wp_append_op s x t ho base e i z size bytes ht hi hz hsize hby hzs hsz zn v n xs hs hown ad m c news hx hl hnews h1 hnu h63 hbytes hbase fun v' w' h2 h3 h4 => hK _ _ (h v' w' h2 h3 h4)
end Go.Proofs.YteiohgiecpibhaaGreat
namespace Go.Proofs.YteiohgiecpibhaaGreat
open Go.RowKit
theorem below_rd {w w' : World} (h : Below w.heap.size w w') : ∀ a : Addr, (w.cell? a).isSome = true → w'.cell? a = w.cell? a := fun a k => by
  obtain ⟨v, e⟩ := Option.isSome_iff_exists.1 k
  exact (cell_later h (Nat.le_refl _) e).trans e.symm
/-- The blocks under k stay. -/
def Fr (k : Nat) (w w' : World) : Prop := ∀ g, g < k → w'.heap[g]? = w.heap[g]?
theorem fr_rd {k : Nat} {w w' : World} (h : Fr k w w') : ∀ g o, g < k → w'.cell? ⟨g, o, none⟩ = w.cell? ⟨g, o, none⟩ := fun g o hg => cells_same (h g hg) _
namespace Rg
variable {P : Program} {ops : Array Oper} {Q : Exit → Act → World → Prop} {n : Nat} {ex : List Nat} {S : World → Prop}
def wq (P : Program) (ops : Array Oper) (Q : Exit → Act → World → Prop) (n : Nat) (ex : List Nat) (S : World → Prop) (f : Nat) (listed : Array Bool) (a : Act) (w : World) : Prop :=
  S w → okB ops n ex = true → HeadInv .any ops n listed → wpD P .any ops Q n S f listed a w
/-- The start, over a world that only grows. -/
theorem s0 {id : Nat} {a : Act} {w : World} (n : Nat) (ex : List Nat) (h : ∀ W, Below w.heap.size w W → wq P ops Q n ex (fun W => Below w.heap.size w W) ops.size (Array.replicate ops.size false) a W)
    (hm : P.follows .mixedOrders = true := by kernel_rfl) (ok : okB ops n ex = true := by kernel_rfl) : (Code.region id ops true).wp P Q a w :=
  Rg.wpD_start n ex _ hm ok (Below.refl _ _).drew (h _ (Below.refl _ _).drew)
/-- The start, the blocks under k stay. -/
theorem s1 {id : Nat} {a : Act} {w : World} (k : Nat) (n : Nat) (ex : List Nat) (h : ∀ W, Below w.heap.size w W → wq P ops Q n ex (Fr k w) ops.size (Array.replicate ops.size false) a W)
    (hm : P.follows .mixedOrders = true := by kernel_rfl) (ok : okB ops n ex = true := by kernel_rfl) : (Code.region id ops true).wp P Q a w :=
  Rg.wpD_start n ex _ hm ok (fun _ _ => rfl) (fun hS => h _ (Below.refl _ _).drew hS)
theorem s2 {id : Nat} {a : Act} {w : World} (n : Nat) (ex : List Nat) (S : World → Prop) (hS : S w.drew) (h : wq P ops Q n ex S ops.size (Array.replicate ops.size false) a w.drew)
    (hm : P.follows .mixedOrders = true := by kernel_rfl) (ok : okB ops n ex = true := by kernel_rfl) : (Code.region id ops true).wp P Q a w :=
  Rg.wpD_start n ex S hm ok hS h
/-- The start with any fact. -/
theorem sg {id : Nat} {a : Act} {w : World} (n : Nat) (ex : List Nat) (hk : ∀ W, Below w.heap.size w W → S W) (h : ∀ W, Below w.heap.size w W → wq P ops Q n ex S ops.size (Array.replicate ops.size false) a W)
    (hm : P.follows .mixedOrders = true := by kernel_rfl) (ok : okB ops n ex = true := by kernel_rfl) : (Code.region id ops true).wp P Q a w :=
  Rg.wpD_start n ex S hm ok (hk _ (Below.refl _ _).drew) (h _ (Below.refl _ _).drew)
theorem t {oi : Oper} {v : Value} {f : Nat} {listed listed' : Array Bool} {a a' : Act} {w : World} (i : Nat) (h : wq P ops Q n ex S f listed' a' w)
    (hi : ops[i]? = some oi := by rfl)
    (hk : takeB ops listed n ex i = true := by kernel_rfl) (hQ : ∀ c a w, Q (.panic c) (a.put oi.dst v) w → Q (.panic c) a w := by exact fun _ _ _ h => h) (hw : Region.wanted oi (yielded ops a.tmps) = true := by rfl)
    (hy : ∀ W, S W → (execOp a.eval oi).run P W = .ok (.value v) W := by (intro W hW; (first | (have hW := below_rd hW) | (have hW := fr_rd hW) | (try dsimp only at hW)); (try simp only [zA, zB, zC]); go_simp; (try with_reducible rfl)))
    (ha : a.put oi.dst v = a' := by ((try simp only [Act.put, zA, zB, zC, zD, zE, zF]); rfl))
    (hl : listed.setIfInBounds i true = listed' := by ((try simp only [zA, zB, zC, zD, zE, zF]); rfl)) : wq P ops Q n ex S (f + 1) listed a w := by
  subst ha hl
  exact fun hS ok inv => wpD_take hi hk ok inv hQ hw hy hS fun inv => h hS ok inv
theorem tx {oi : Oper} {f : Nat} {listed listed' : Array Bool} {a a' : Act} {w : World} (i : Nat) (h : wq P ops Q n ex S f listed' a' w)
    (hi : ops[i]? = some oi := by rfl)
    (hk : takeB ops listed n ex i = true := by kernel_rfl) (hQ : ∀ c a w, Q (.panic c) (a.put oi.dst undef) w → Q (.panic c) a w := by exact fun _ _ _ h => h) (hw : Region.wanted oi (yielded ops a.tmps) = false := by rfl)
    (ha : a.put oi.dst undef = a' := by ((try simp only [Act.put, zA, zB, zC, zD, zE, zF]); rfl))
    (hl : listed.setIfInBounds i true = listed' := by ((try simp only [zA, zB, zC, zD, zE, zF]); rfl)) : wq P ops Q n ex S (f + 1) listed a w := by
  subst ha hl
  intro hS ok inv
  have ok' := ok
  simp only [okB, takeB, Bool.and_eq_true, decide_eq_true_eq, Bool.not_eq_true'] at ok' hk
  obtain ⟨⟨⟨o1, o2⟩, o3⟩, o4⟩ := ok'
  obtain ⟨⟨⟨k1, k2⟩, k3⟩, k4⟩ := hk
  have hr : i ∈ Region.ready .any ops listed := by simpa using k2
  exact wpD_first ⟨hi, o1, hQ⟩ k3 (fun l iv un => late o2 o3 o4 iv _ i rfl k3 k4 un) f listed a w inv (Region.free_spec hi k1) hr (Or.inr ⟨hw, rfl⟩) hS (h hS ok (inv.set hr k3))
theorem c1 {o : Oper} {f : Nat} {listed : Array Bool} {a : Act} {w : World} (k : Nat)
    (h : ∀ K' : Act → World → Prop, Shut (∀ a w, S w → wq P ops Q n ex S f (listed.setIfInBounds k true) a w → K' a w) → Oper.wp P o a w K' Q)
    (ho : ops[k]? = some o := by rfl) (hr : Region.ready .any ops listed = [k] := by kernel_rfl) (hk : k < n := by decide) (hw : Region.wanted o (yielded ops a.tmps) = true := by rfl) : wq P ops Q n ex S (f + 1) listed a w := fun hS ok inv =>
  wpD_one hr ho hk inv hw fun K' hK => h K' (show Shut _ from fun a w hB hq => hK.out a w hB fun hS inv => hq hS ok inv)
theorem c2 {o p : Oper} {f : Nat} {listed : Array Bool} {a : Act} {w : World} (k l : Nat)
    (h : ∀ K' : Act → World → Prop, Shut (∀ a w, S w → wq P ops Q n ex S f (listed.setIfInBounds k true) a w → K' a w) → Oper.wp P o a w K' Q)
    (h' : ∀ K' : Act → World → Prop, Shut (∀ a w, S w → wq P ops Q n ex S f (listed.setIfInBounds l true) a w → K' a w) → Oper.wp P p a w K' Q)
    (ho : ops[k]? = some o := by rfl) (hp : ops[l]? = some p := by rfl) (hr : Region.ready .any ops listed = [k, l] := by kernel_rfl) (hk : k < n := by decide) (hl : l < n := by decide) (hw : Region.wanted o (yielded ops a.tmps) = true := by rfl) (hw' : Region.wanted p (yielded ops a.tmps) = true := by rfl) : wq P ops Q n ex S (f + 1) listed a w := fun hS ok inv =>
  wpD_two hr ho hp hk hl inv hw hw' (fun K' hK => h K' (show Shut _ from fun a w hB hq => hK.out a w hB fun hS inv => hq hS ok inv)) fun K' hK => h' K' (show Shut _ from fun a w hB hq => hK.out a w hB fun hS inv => hq hS ok inv)
theorem e1 {f : Nat} {listed listed' : Array Bool} {a a' : Act} {w : World} {K' : Act → World → Prop} (hK : Shut (∀ a w, S w → wq P ops Q n ex S f listed a w → K' a w)) (hS : S w) (h : wq P ops Q n ex S f listed' a' w)
    (ha : a = a' := by ((try simp only [Act.put, zA, zB, zC, zD, zE, zF]); rfl))
    (hl : listed = listed' := by ((try simp only [zA, zB, zC, zD, zE, zF]); rfl)) : K' a w := by
  subst ha hl
  exact hK.out a w hS h
theorem l1 {o : Oper} {f : Nat} {listed : Array Bool} {a : Act} {w : World} (h : Oper.wp P o a w (fun a w => Q .normal a w) Q) (ho : ops[n]? = some o := by rfl)
    (hr : Region.ready .any ops listed = [n] := by kernel_rfl) (he : Region.ready .any ops (listed.setIfInBounds n true) = [] := by kernel_rfl) (hw : Region.wanted o (yielded ops a.tmps) = true := by rfl) : wq P ops Q n ex S (f + 1) listed a w := fun _ _ _ =>
  wpD_last hr he ho hw h
end Rg
end Go.Proofs.YteiohgiecpibhaaGreat
