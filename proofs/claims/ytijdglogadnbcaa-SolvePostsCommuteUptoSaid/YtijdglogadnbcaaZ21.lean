/- slices.Index at []int; Problem.Feasible where no row is broken. -/
import Derived.Test.YtijdglogadnbcaaZ20
import Derived.Test.YtijdglogadnbcaaZ15
import Derived.Test.YtijdglogadnbcaaZ10
set_option linter.unusedVariables false
set_option linter.unusedSimpArgs false
set_option maxRecDepth 100000
set_option maxHeartbeats 40000000
namespace Go.Proofs.Ytijdglogadnbcaa
open Go.RowKit Nt Bl
/-- The first place of v. -/
def fstAt (f : Nat → Nat) (v : Nat) : Nat → Option Nat
 | 0 => none
 | i + 1 => match fstAt f v i with | some r => some r | none => if f i = v then some i else none
theorem rowOf_fst (P : Pb) (v : Nat) : ∀ i, P.rowOf v i = fstAt P.basic v i
 | 0 => rfl
 | i + 1 => by unfold Pb.rowOf fstAt; rw [rowOf_fst P v i]; rfl
theorem fstAt_stay {f : Nat → Nat} {v k n : Nat} (h : fstAt f v k = none) (e : f k = v) (hn : k < n) : fstAt f v n = some k := by
 obtain ⟨d, rfl⟩ : ∃ d, n = k + 1 + d := ⟨n - k - 1, by omega⟩
 clear hn
 induction d with
 | zero => show fstAt f v (k + 1) = _; unfold fstAt; rw [h]; simp [e]
 | succ d ih => show fstAt f v (k + 1 + d + 1) = _; unfold fstAt; rw [ih]
theorem fstAt_next {f : Nat → Nat} {v k : Nat} (h : fstAt f v k = none) (e : f k ≠ v) : fstAt f v (k + 1) = none := by
 unfold fstAt; rw [h]; simp [e]
theorem fstAt_lt {f : Nat → Nat} {v : Nat} : ∀ {n r : Nat}, fstAt f v n = some r → r < n ∧ f r = v
 | 0, r, h => by simp [fstAt] at h
 | n + 1, r, h => by
  unfold fstAt at h
  cases e : fstAt f v n with
  | some q =>
   rw [e] at h
   simp only [Option.some.injEq] at h
   subst h
   have := fstAt_lt e
   exact ⟨by omega, this.2⟩
  | none =>
   rw [e] at h
   simp only at h
   split at h
   ·rename_i q
    simp only [Option.some.injEq] at h
    subst h
    exact ⟨by omega, q⟩
   ·simp at h
def IxL (f : Nat → Nat) (v m : Nat) (x : Value) : Prop := ∃ k : Nat, k ≤ m ∧ x = .int .i64 (k : Int) ∧ fstAt f v k = none
theorem index_any {w : World} {g m c v : Nat} {f : Nat → Nat} (h : IntR w g m f) (hm : m ≤ c) (hc : c ≤ 9223372036854775807) :
  Calls Try.prog 56 #[.slice (some ⟨g, 0, none⟩) m c, .int .i64 (v : Int)] w fun e w' => e = .returned (.int .i64 (bestI (fstAt f v m))) ∧ w = w' := by
 have H := Lib.hid h
 clear h
 go_enter Try.func56, Try.ntmps56
 go_wp2_with fail
 go_loop [8] (fun x => IxL f v m x) (fun x => m - (intOf x).toNat)
 case atStart => exact ⟨0, Nat.zero_le _, rfl, rfl⟩
 case round =>
  obtain ⟨k, hk, rfl, hf⟩ := hrel
  have F := Lib.hid hf
  clear hf
  by_cases hlt : k < m
  ·have p := H.out.at_ k hlt
   obtain ⟨y, hy⟩ : ∃ y, f k = y := ⟨_, rfl⟩
   rw [hy] at p
   by_cases e : y = v
   ·have E : Hid (fstAt f v m = some k) := fstAt_stay F.out (by rw [hy]; exact e) hlt
    have yb : ((v : Int) == (y : Int)) = true := by simp; omega
    clear hy e
    go_wp2_with fail
    go_ret
    exact ⟨by rw [E.out]; rfl, rfl⟩
   ·have E := Lib.hid (fstAt_next F.out (by rw [hy]; exact e))
    have yb : ((v : Int) == (y : Int)) = false := by simp; omega
    clear hy e
    go_wp2_with fail
    go_round
    case rel => exact ⟨k + 1, by omega, by go_num, E.out⟩
    case measure => simp [intOf]; omega
  ·obtain rfl : m = k := by omega
   go_wp2_with fail
   go_ret
   exact ⟨by rw [F.out]; rfl, rfl⟩
theorem fea_done {n0 : Nat} {w : World} {L : Lay} {P : Pb} (h : PAt n0 w L P) (hp : P.Pl) (hs : PSz P 1048576) (hb : P.brk = none) :
  Calls Try.prog 29 #[.pointer (some ⟨L.p, 0, none⟩)] w fun e w' => e = .returned (.tuple #[.slice none 0 0, .bool true]) ∧ Below w.heap.size w w' := by
 have C := brk_any h hp hs
 rw [hb] at C
 have C := Lib.hid C
 clear h hp hs hb
 go_enter Try.func29, Try.ntmps29
 go_wp2_with fail
 go_loopw [4, 5] (fun _ _ wr => w = wr) (fun _ _ _ => 0)
 case atStart => exact rfl
 case round =>
  obtain rfl := hrel
  go_wp2_with fail
  refine C.out.mono ?_
  rintro e w2 ⟨rfl, B2⟩
  have B2 := Lib.hid B2
  simp only [rowI, upB]
  go_wp2_with fail
  go_ret2
  exact ⟨rfl, B2.out⟩
theorem vdist_sz {e a : V} {up : Bool} {K : Nat} (h1 : Sz e.m K ∧ Sz e.s K) (h2 : Sz a.m K ∧ Sz a.s K) : Sz (vdist e a up).m (2 * K + 1) ∧ Sz (vdist e a up).s (2 * K + 1) := by
 unfold vdist
 cases up with
 | true => exact ⟨Sz.sub h1.1 h2.1, Sz.sub h1.2 h2.2⟩
 | false => exact ⟨Sz.sub h2.1 h1.1, Sz.sub h2.2 h1.2⟩
theorem absr_sz {q : Rat} {K : Nat} (h : Sz q K) : Sz (absr q) K := by
 unfold absr
 split
 ·exact h.neg
 ·exact h
theorem absr_ne {q : Rat} (h : q ≠ 0) : absr q ≠ 0 := by
 unfold absr
 split
 ·intro e; exact h (by grind)
 ·exact h
theorem stop_prop {P : Pb} {g c i : Nat} {rs : Bool} {far : V} (hp : P.Pl) (hs : PSz P 1048576) (hc : c < P.n) (hi : i < P.m) (h : P.stop g c rs i = some far) :
  P.T i c ≠ 0 ∧ Sz far.m 4194304 ∧ Sz far.s 4194304 := by
 unfold Pb.stop at h
 split at h
 ·simp at h
 ·rename_i hz
  have hz0 : P.T i c ≠ 0 := fun e => hz (Or.inl e)
  refine ⟨hz0, ?_⟩
  dsimp only at h
  split at h
  ·simp at h
  ·rename_i e he
   simp only [Option.some.injEq] at h
   subst h
   have hb := hp.blt i hi
   have se : Sz e.m 1048576 ∧ Sz e.s 1048576 := by
    split at he
    ·exact hs.high _ e hb he
    ·exact hs.low _ e hb he
   have d := vdist_sz (up := decide (0 < rsgn (P.T i c)) == rs) se (hs.now _ hb)
   have r := Sz.inv (absr_sz (hs.tab i c hi hc)) (absr_ne hz0)
   exact ⟨Sz.mono (Sz.mul r d.1) (by omega), Sz.mono (Sz.mul r d.2) (by omega)⟩
theorem rzT_prop {P : Pb} {g c : Nat} {rs : Bool} (hp : P.Pl) (hs : PSz P 1048576) (hc : c < P.n) : ∀ i, i ≤ P.m → ∀ l b, P.rzT g c rs i = some (l, b) →
  Sz l.m 4194304 ∧ Sz l.s 4194304 ∧ ∀ r, b = some r → r < i ∧ P.T r c ≠ 0
 | 0, _, l, b, h => by
  unfold Pb.rzT at h
  rw [Option.map_eq_some_iff] at h
  obtain ⟨e, he, hx⟩ := h
  simp only [Prod.mk.injEq] at hx
  obtain ⟨rfl, rfl⟩ := hx
  have hb := hp.flt c hc
  have se : Sz e.m 1048576 ∧ Sz e.s 1048576 := by
   split at he
   ·exact hs.high _ e hb he
   ·exact hs.low _ e hb he
  have d := vdist_sz (up := rs) se (hs.now _ hb)
  exact ⟨Sz.mono d.1 (by omega), Sz.mono d.2 (by omega), fun r hr => by simp at hr⟩
 | i + 1, hi, l, b, h => by
  have ih := rzT_prop (g := g) (rs := rs) hp hs hc i (by omega)
  unfold Pb.rzT at h
  split at h
  ·obtain ⟨a, b', k⟩ := ih l b h
   exact ⟨a, b', fun r hr => ⟨by have := (k r hr).1; omega, (k r hr).2⟩⟩
  ·rename_i far hst
   obtain ⟨z, s1, s2⟩ := stop_prop hp hs hc (by omega) hst
   have new : ∀ r, (some i : Option Nat) = some r → r < i + 1 ∧ P.T r c ≠ 0 := fun r hr => by
    simp only [Option.some.injEq] at hr
    subst hr
    exact ⟨by omega, z⟩
   split at h
   ·simp only [Option.some.injEq, Prod.mk.injEq] at h
    obtain ⟨rfl, rfl⟩ := h
    exact ⟨s1, s2, new⟩
   ·rename_i l' b' hpre
    split at h
    ·simp only [Option.some.injEq, Prod.mk.injEq] at h
     obtain ⟨rfl, rfl⟩ := h
     obtain ⟨a, b', k⟩ := ih _ _ hpre
     exact ⟨a, b', fun r hr => ⟨by have := (k r hr).1; omega, (k r hr).2⟩⟩
    ·simp only [Option.some.injEq, Prod.mk.injEq] at h
     obtain ⟨rfl, rfl⟩ := h
     exact ⟨s1, s2, new⟩
/-- An end of a range in seven cells, whatever it is. -/
def E7 (w : World) (g o : Nat) (is : Bool) (M S : Nw) : Prop := w.cell? ⟨g, o, none⟩ = some (.bool is) ∧ w.cell? ⟨g, o + 1, none⟩ = some (.bool M.s) ∧ w.cell? ⟨g, o + 2, none⟩ = some (.slice M.a M.n M.c) ∧ w.cell? ⟨g, o + 3, none⟩ = some (.slice M.b M.m M.d) ∧
 w.cell? ⟨g, o + 4, none⟩ = some (.bool S.s) ∧ w.cell? ⟨g, o + 5, none⟩ = some (.slice S.a S.n S.c) ∧ w.cell? ⟨g, o + 6, none⟩ = some (.slice S.b S.m S.d)
/-- What these cells say. -/
structure EV (w : World) (e : Option V) (is : Bool) (M S : Nw) : Prop where
 is_ : is = e.isSome
 at_ : ∀ v, e = some v → RA w v.m M ∧ RA w v.s S
theorem EV.below {w w' : World} {e : Option V} {is : Bool} {M S : Nw} (h : EV w e is M S) (hb : Below w.heap.size w w') : EV w' e is M S :=
 ⟨h.is_, fun v hv => ⟨(h.at_ v hv).1.below hb, (h.at_ v hv).2.below hb⟩⟩
theorem BndC.r7 {w : World} {g o : Nat} {e : Option V} (h : BndC w g o e) : ∃ is M S, EV w e is M S ∧ E7 w g o is M S := by
 cases e with
 | none =>
  obtain ⟨a, M, S, b, c, d, e, f, i⟩ := h
  exact ⟨false, M, S, ⟨rfl, fun v hv => by simp at hv⟩, a, b, c, d, e, f, i⟩
 | some v =>
  obtain ⟨b0, M, S, r3, r4, b1, b2, b3, b4, b5, b6⟩ := h.some_reads
  exact ⟨true, M, S, ⟨rfl, fun u hu => by simp only [Option.some.injEq] at hu; subst hu; exact ⟨r3, r4⟩⟩, b0, b1, b2, b3, b4, b5, b6⟩
def EB (w : World) (g : Nat) (is : Bool) (M S : Nw) : Prop := w.heap[g]? = some (.cells #[.bool is, .bool M.s, .slice M.a M.n M.c, .slice M.b M.m M.d, .bool S.s, .slice S.a S.n S.c, .slice S.b S.m S.d] 101 (0, 0))
theorem EB.reads {w : World} {g : Nat} {is : Bool} {M S : Nw} (h : EB w g is M S) :
  w.cell? ⟨g, 0, none⟩ = some (.bool is) ∧ w.cell? ⟨g, 1, none⟩ = some (.bool M.s) ∧ w.cell? ⟨g, 2, none⟩ = some (.slice M.a M.n M.c) ∧ w.cell? ⟨g, 3, none⟩ = some (.slice M.b M.m M.d) ∧
   w.cell? ⟨g, 4, none⟩ = some (.bool S.s) ∧ w.cell? ⟨g, 5, none⟩ = some (.slice S.a S.n S.c) ∧ w.cell? ⟨g, 6, none⟩ = some (.slice S.b S.m S.d) ∧ ∀ i, w.frozen? ⟨g, i, none⟩ = false := by
 refine ⟨?_, ?_, ?_, ?_, ?_, ?_, ?_, fun i => ?_⟩
 ·rw [cell_of_row w g 0 _ _ _ h]; rfl
 ·rw [cell_of_row w g 1 _ _ _ h]; rfl
 ·rw [cell_of_row w g 2 _ _ _ h]; rfl
 ·rw [cell_of_row w g 3 _ _ _ h]; rfl
 ·rw [cell_of_row w g 4 _ _ _ h]; rfl
 ·rw [cell_of_row w g 5 _ _ _ h]; rfl
 ·rw [cell_of_row w g 6 _ _ _ h]; rfl
 ·unfold EB at h; simp [World.frozen?, h]
theorem EB.later {k g : Nat} {w w' : World} {is : Bool} {M S : Nw} (h : EB w g is M S) (hb : Below k w w') (hg : g < k) : EB w' g is M S := (hb.block g hg).trans h
theorem EB.lt {w : World} {g : Nat} {is : Bool} {M S : Nw} (h : EB w g is M S) : g < w.heap.size := (Array.getElem?_eq_some_iff.1 h).1
theorem EB.set7 {w : World} {g : Nat} {is0 : Bool} {M0 S0 : Nw} (h : EB w g is0 M0 S0) (is : Bool) (M S : Nw) :
  EB (((((((w.setCell ⟨g, 0, none⟩ (.bool is)).setCell ⟨g, 1, none⟩ (.bool M.s)).setCell ⟨g, 2, none⟩ (.slice M.a M.n M.c)).setCell ⟨g, 3, none⟩ (.slice M.b M.m M.d)).setCell ⟨g, 4, none⟩ (.bool S.s)).setCell ⟨g, 5, none⟩ (.slice S.a S.n S.c)).setCell ⟨g, 6, none⟩ (.slice S.b S.m S.d)) g is M S := by
 have e1 := heap_setCell_same w g 0 _ _ (.bool is) h
 simp only [List.setIfInBounds_toArray, List.set_cons_zero, List.set_cons_succ] at e1
 have e2 := heap_setCell_same _ g 1 _ _ (.bool M.s) e1
 simp only [List.setIfInBounds_toArray, List.set_cons_zero, List.set_cons_succ] at e2
 have e3 := heap_setCell_same _ g 2 _ _ (.slice M.a M.n M.c) e2
 simp only [List.setIfInBounds_toArray, List.set_cons_zero, List.set_cons_succ] at e3
 have e4 := heap_setCell_same _ g 3 _ _ (.slice M.b M.m M.d) e3
 simp only [List.setIfInBounds_toArray, List.set_cons_zero, List.set_cons_succ] at e4
 have e5 := heap_setCell_same _ g 4 _ _ (.bool S.s) e4
 simp only [List.setIfInBounds_toArray, List.set_cons_zero, List.set_cons_succ] at e5
 have e6 := heap_setCell_same _ g 5 _ _ (.slice S.a S.n S.c) e5
 simp only [List.setIfInBounds_toArray, List.set_cons_zero, List.set_cons_succ] at e6
 have e9 := heap_setCell_same _ g 6 _ _ (.slice S.b S.m S.d) e6
 simp only [List.setIfInBounds_toArray, List.set_cons_zero, List.set_cons_succ] at e9
 exact e9
theorem below_set7 {w0 w : World} {k g : Nat} (h : Below k w0 w) (hg : k ≤ g) (a b c d e f i : Value) :
  Below k w0 (((((((w.setCell ⟨g, 0, none⟩ a).setCell ⟨g, 1, none⟩ b).setCell ⟨g, 2, none⟩ c).setCell ⟨g, 3, none⟩ d).setCell ⟨g, 4, none⟩ e).setCell ⟨g, 5, none⟩ f).setCell ⟨g, 6, none⟩ i) :=
 ((((((h.setCell hg _).setCell hg _).setCell hg _).setCell hg _).setCell hg _).setCell hg _).setCell hg _
theorem below_set6 {w0 w : World} {k g : Nat} (h : Below k w0 w) (hg : k ≤ g) (a b c d e f : Value) :
  Below k w0 ((((((w.setCell ⟨g, 0, none⟩ a).setCell ⟨g, 1, none⟩ b).setCell ⟨g, 2, none⟩ c).setCell ⟨g, 3, none⟩ d).setCell ⟨g, 4, none⟩ e).setCell ⟨g, 5, none⟩ f) :=
 (((((h.setCell hg _).setCell hg _).setCell hg _).setCell hg _).setCell hg _).setCell hg _
theorem VB.set6 {w : World} {g : Nat} {M0 S0 : Nw} (h : VB w g M0 S0) (M S : Nw) :
  VB ((((((w.setCell ⟨g, 0, none⟩ (.bool M.s)).setCell ⟨g, 1, none⟩ (.slice M.a M.n M.c)).setCell ⟨g, 2, none⟩ (.slice M.b M.m M.d)).setCell ⟨g, 3, none⟩ (.bool S.s)).setCell ⟨g, 4, none⟩ (.slice S.a S.n S.c)).setCell ⟨g, 5, none⟩ (.slice S.b S.m S.d)) g M S := by
 have e2 := heap_setCell_same w g 0 _ _ (.bool M.s) h
 simp only [List.setIfInBounds_toArray, List.set_cons_zero, List.set_cons_succ] at e2
 have e3 := heap_setCell_same _ g 1 _ _ (.slice M.a M.n M.c) e2
 simp only [List.setIfInBounds_toArray, List.set_cons_zero, List.set_cons_succ] at e3
 have e4 := heap_setCell_same _ g 2 _ _ (.slice M.b M.m M.d) e3
 simp only [List.setIfInBounds_toArray, List.set_cons_zero, List.set_cons_succ] at e4
 have e5 := heap_setCell_same _ g 3 _ _ (.bool S.s) e4
 simp only [List.setIfInBounds_toArray, List.set_cons_zero, List.set_cons_succ] at e5
 have e6 := heap_setCell_same _ g 4 _ _ (.slice S.a S.n S.c) e5
 simp only [List.setIfInBounds_toArray, List.set_cons_zero, List.set_cons_succ] at e6
 have e9 := heap_setCell_same _ g 5 _ _ (.slice S.b S.m S.d) e6
 simp only [List.setIfInBounds_toArray, List.set_cons_zero, List.set_cons_succ] at e9
 exact e9
/-- Writing a value over a value leaves limbs. -/
theorem VB.limb6 {w : World} {g : Nat} {M0 S0 : Nw} (h : VB w g M0 S0) (M S : Nw) :
  Limb w ((((((w.setCell ⟨g, 0, none⟩ (.bool M.s)).setCell ⟨g, 1, none⟩ (.slice M.a M.n M.c)).setCell ⟨g, 2, none⟩ (.slice M.b M.m M.d)).setCell ⟨g, 3, none⟩ (.bool S.s)).setCell ⟨g, 4, none⟩ (.slice S.a S.n S.c)).setCell ⟨g, 5, none⟩ (.slice S.b S.m S.d)) :=
 by have k := h.limb (h.wr (M := M) (S := S)); simpa [Nw.cs, World.setCells] using k
theorem EB.wr {w : World} {g : Nat} {is0 : Bool} {M0 S0 : Nw} (h : EB w g is0 M0 S0) (is : Bool) (M S : Nw) : Wr w (w.setCells g 0 (.bool is :: (M.cs ++ S.cs))) g 0 (.bool is :: (M.cs ++ S.cs)) := by
 obtain ⟨a0, a1, a2, a3, a4, a5, a6, _⟩ := h.reads
 refine wr_cells w g _ _ fun j hj => ?_
 have hj : j < 7 := by simpa [Nw.cs] using hj
 rcases j with _ | _ | _ | _ | _ | _ | _ | j
 ·rw [Nat.add_zero, a0]; rfl
 ·rw [show (0 + (0 + 1) : Nat) = 1 from rfl, a1]; rfl
 ·rw [show (0 + (0 + 1 + 1) : Nat) = 2 from rfl, a2]; rfl
 ·rw [show (0 + (0 + 1 + 1 + 1) : Nat) = 3 from rfl, a3]; rfl
 ·rw [show (0 + (0 + 1 + 1 + 1 + 1) : Nat) = 4 from rfl, a4]; rfl
 ·rw [show (0 + (0 + 1 + 1 + 1 + 1 + 1) : Nat) = 5 from rfl, a5]; rfl
 ·rw [show (0 + (0 + 1 + 1 + 1 + 1 + 1 + 1) : Nat) = 6 from rfl, a6]; rfl
 ·omega
theorem EB.limb {w w' : World} {g : Nat} {is0 is : Bool} {M0 S0 M S : Nw} (h : EB w g is0 M0 S0) (hw : Wr w w' g 0 (.bool is :: (M.cs ++ S.cs))) : Limb w w' := by
 obtain ⟨a0, a1, a2, a3, a4, a5, a6, _⟩ := h.reads
 refine hw.limb fun j x hj => ?_
 have hj : j < 7 := by simpa [Nw.cs] using hj
 rcases j with _ | _ | _ | _ | _ | _ | _ | j
 ·rw [Nat.add_zero, a0]; simp
 ·rw [show (0 + (0 + 1) : Nat) = 1 from rfl, a1]; simp
 ·rw [show (0 + (0 + 1 + 1) : Nat) = 2 from rfl, a2]; simp
 ·rw [show (0 + (0 + 1 + 1 + 1) : Nat) = 3 from rfl, a3]; simp
 ·rw [show (0 + (0 + 1 + 1 + 1 + 1) : Nat) = 4 from rfl, a4]; simp
 ·rw [show (0 + (0 + 1 + 1 + 1 + 1 + 1) : Nat) = 5 from rfl, a5]; simp
 ·rw [show (0 + (0 + 1 + 1 + 1 + 1 + 1 + 1) : Nat) = 6 from rfl, a6]; simp
 ·omega
theorem EB.limb7 {w : World} {g : Nat} {is0 : Bool} {M0 S0 : Nw} (h : EB w g is0 M0 S0) (is : Bool) (M S : Nw) :
  Limb w (((((((w.setCell ⟨g, 0, none⟩ (.bool is)).setCell ⟨g, 1, none⟩ (.bool M.s)).setCell ⟨g, 2, none⟩ (.slice M.a M.n M.c)).setCell ⟨g, 3, none⟩ (.slice M.b M.m M.d)).setCell ⟨g, 4, none⟩ (.bool S.s)).setCell ⟨g, 5, none⟩ (.slice S.a S.n S.c)).setCell ⟨g, 6, none⟩ (.slice S.b S.m S.d)) := by
 have k := h.limb (h.wr is M S); simpa [Nw.cs, World.setCells] using k
theorem NQ.wr {w : World} {g : Nat} {M0 : Nw} (h : NQ w g M0) (M : Nw) : Wr w (w.setCells g 0 M.cs) g 0 M.cs := by
 obtain ⟨a0, a1, a2, _⟩ := h.reads
 refine wr_cells w g _ _ fun j hj => ?_
 have hj : j < 3 := by simpa [Nw.cs] using hj
 rcases j with _ | _ | _ | j
 ·rw [Nat.add_zero, a0]; rfl
 ·rw [show (0 + (0 + 1) : Nat) = 1 from rfl, a1]; rfl
 ·rw [show (0 + (0 + 1 + 1) : Nat) = 2 from rfl, a2]; rfl
 ·omega
theorem NQ.limb3 {w : World} {g : Nat} {M0 : Nw} (h : NQ w g M0) (M : Nw) : Limb w (((w.setCell ⟨g, 0, none⟩ (.bool M.s)).setCell ⟨g, 1, none⟩ (.slice M.a M.n M.c)).setCell ⟨g, 2, none⟩ (.slice M.b M.m M.d)) := by
 have k : Limb w (w.setCells g 0 M.cs) := by
  obtain ⟨a0, a1, a2, _⟩ := h.reads
  refine (h.wr M).limb fun j x hj => ?_
  have hj : j < 3 := by simpa [Nw.cs] using hj
  rcases j with _ | _ | _ | j
  ·rw [Nat.add_zero, a0]; simp
  ·rw [show (0 + (0 + 1) : Nat) = 1 from rfl, a1]; simp
  ·rw [show (0 + (0 + 1 + 1) : Nat) = 2 from rfl, a2]; simp
  ·omega
 simpa [Nw.cs, World.setCells] using k
theorem NQ.set3 {w : World} {g : Nat} {M0 : Nw} (h : NQ w g M0) (M : Nw) : NQ (((w.setCell ⟨g, 0, none⟩ (.bool M.s)).setCell ⟨g, 1, none⟩ (.slice M.a M.n M.c)).setCell ⟨g, 2, none⟩ (.slice M.b M.m M.d)) g M := by
 have e1 := heap_setCell_same w g 0 _ _ (.bool M.s) h
 simp only [List.setIfInBounds_toArray, List.set_cons_zero, List.set_cons_succ] at e1
 have e2 := heap_setCell_same _ g 1 _ _ (.slice M.a M.n M.c) e1
 simp only [List.setIfInBounds_toArray, List.set_cons_zero, List.set_cons_succ] at e2
 have e9 := heap_setCell_same _ g 2 _ _ (.slice M.b M.m M.d) e2
 simp only [List.setIfInBounds_toArray, List.set_cons_zero, List.set_cons_succ] at e9
 exact e9
theorem stop_skip {P : Pb} {g c i : Nat} {rs : Bool} (h : P.stop g c rs i = none) : P.rzT g c rs (i + 1) = P.rzT g c rs i := by
 conv => lhs; unfold Pb.rzT
 rw [h]
theorem stop_new {P : Pb} {g c i : Nat} {rs : Bool} {far : V} (h : P.stop g c rs i = some far) (h0 : P.rzT g c rs i = none) : P.rzT g c rs (i + 1) = some (far, some i) := by
 conv => lhs; unfold Pb.rzT
 rw [h, h0]
theorem stop_less {P : Pb} {g c i : Nat} {rs : Bool} {far l : V} {b : Option Nat} (h : P.stop g c rs i = some far) (h0 : P.rzT g c rs i = some (l, b)) : P.rzT g c rs (i + 1) = if P.after i (vcmp far l) b then some (l, b) else some (far, some i) := by
 conv => lhs; unfold Pb.rzT
 rw [h, h0]
theorem stop_eq {P : Pb} {g c i : Nat} {rs up : Bool} (hz : P.T i c ≠ 0) (hg : i ≠ g) (hu : (decide (0 < rsgn (P.T i c)) == rs) = up) :
  P.stop g c rs i = (if up then P.high (P.basic i) else P.low (P.basic i)).map fun e => V.mul (1 / absr (P.T i c)) (vdist e (P.now (P.basic i)) up) := by
 unfold Pb.stop
 rw [if_neg (by intro h; rcases h with h | h; exact hz h; exact hg h)]
 dsimp only
 rw [hu]
 split <;> rename_i e <;> rw [e] <;> rfl
def Bl.Pb.rzEnd (P : Pb) (c : Nat) (b : V) : Option Nat → Pb
 | none => P.mv c b
 | some r => (P.mv c b).pivot r c
theorem rz_eq (P : Pb) (g c : Nat) : P.rz g c = (P.rzT g c (P.rising g c) P.m).map fun x => P.rzEnd c (if P.rising g c then x.1 else V.sub ⟨0, 0⟩ x.1) x.2 := by
 unfold Pb.rz
 rfl
theorem stop_zero {P : Pb} {g c i : Nat} {rs : Bool} (h : P.T i c = 0 ∨ i = g) : P.stop g c rs i = none := by
 unfold Pb.stop
 rw [if_pos h]
/-- Other blocks. -/
theorem oth6 {w : World} {g k : Nat} (hk : k ≠ g) (a b c d e f : Value) : (((((((w.setCell ⟨g, 0, none⟩ a).setCell ⟨g, 1, none⟩ b).setCell ⟨g, 2, none⟩ c).setCell ⟨g, 3, none⟩ d).setCell ⟨g, 4, none⟩ e).setCell ⟨g, 5, none⟩ f)).heap[k]? = w.heap[k]? :=
 heap_setCells_other hk [a, b, c, d, e, f] 0 w
theorem oth7 {w : World} {g k : Nat} (hk : k ≠ g) (a b c d e f i : Value) : ((((((((w.setCell ⟨g, 0, none⟩ a).setCell ⟨g, 1, none⟩ b).setCell ⟨g, 2, none⟩ c).setCell ⟨g, 3, none⟩ d).setCell ⟨g, 4, none⟩ e).setCell ⟨g, 5, none⟩ f).setCell ⟨g, 6, none⟩ i)).heap[k]? = w.heap[k]? :=
 heap_setCells_other hk [a, b, c, d, e, f, i] 0 w
end Go.Proofs.Ytijdglogadnbcaa
/- Siegel's lemma: a small integer solution of one equation fewer than unknowns. No program. -/
namespace Go.Proofs.Ytijdglogadnbcaa.Bl
/-- Digits put together. -/
def cd (b : Nat) : Nat → (Nat → Nat) → Nat
 | 0, _ => 0
 | n + 1, f => cd b n f + f n * b ^ n
theorem cd_lt {b : Nat} : ∀ {n : Nat} {f : Nat → Nat}, (∀ j, j < n → f j < b) → cd b n f < b ^ n
 | 0, _, _ => by simp [cd]
 | n + 1, f, h => by
  have ih := cd_lt (n := n) (f := f) fun j hj => h j (by omega)
  have h2 := h n (by omega)
  show cd b n f + f n * b ^ n < b ^ (n + 1)
  have : (f n + 1) * b ^ n ≤ b * b ^ n := Nat.mul_le_mul_right _ h2
  rw [Nat.add_mul, Nat.one_mul] at this
  rw [Nat.pow_succ, Nat.mul_comm (b ^ n) b]
  omega
theorem cd_inj {b : Nat} : ∀ {n : Nat} {f g : Nat → Nat}, (∀ j, j < n → f j < b) → (∀ j, j < n → g j < b) → cd b n f = cd b n g → ∀ j, j < n → f j = g j
 | 0, _, _, _, _, _, j, hj => by omega
 | n + 1, f, g, hf, hg, e, j, hj => by
  have lf := cd_lt (n := n) (f := f) fun j hj => hf j (by omega)
  have lg := cd_lt (n := n) (f := g) fun j hj => hg j (by omega)
  have e : cd b n f + f n * b ^ n = cd b n g + g n * b ^ n := e
  have e1 : f n = g n := by
   have := congrArg (fun x => x / b ^ n) e
   have p : 0 < b ^ n := by omega
   rwa [Nat.add_mul_div_right _ _ p, Nat.add_mul_div_right _ _ p, Nat.div_eq_of_lt lf, Nat.div_eq_of_lt lg, Nat.zero_add, Nat.zero_add] at this
  rw [e1] at e
  have e2 : cd b n f = cd b n g := by omega
  by_cases q : j = n
  ·rw [q]; exact e1
  ·exact cd_inj (fun j hj => hf j (by omega)) (fun j hj => hg j (by omega)) e2 j (by omega)
def dig (b p j : Nat) : Nat := p / b ^ j % b
theorem cd_dig (b p : Nat) : ∀ n, cd b n (dig b p) = p % b ^ n
 | 0 => by simp [cd, Nat.mod_one]
 | n + 1 => by
  show cd b n (dig b p) + dig b p n * b ^ n = _
  rw [cd_dig b p n, Nat.mod_pow_succ, Nat.mul_comm]; rfl
/-- More pigeons than holes. -/
theorem pigeon : ∀ (K M : Nat) (f : Nat → Nat), (∀ i, i < M → f i < K) → K < M → ∃ i j, i < j ∧ j < M ∧ f i = f j
 | 0, M, f, h, hm => by have := h 0 hm; omega
 | K + 1, M, f, h, hm => by
  obtain ⟨M', rfl⟩ : ∃ M', M = M' + 1 := ⟨M - 1, by omega⟩
  by_cases e : ∃ i, i < M' ∧ f i = f M'
  ·obtain ⟨i, hi, hf⟩ := e
   exact ⟨i, M', hi, by omega, hf⟩
  ·have ne : ∀ i, i < M' → f i ≠ f M' := fun i hi hf => e ⟨i, hi, hf⟩
   obtain ⟨i, j, hij, hj, hf⟩ := pigeon K M' (fun i => if f i = K then f M' else f i) (fun i hi => by
    show (if f i = K then f M' else f i) < K
    have h1 := h i (by omega)
    have h2 := h M' (by omega)
    have h3 := ne i hi
    split <;> omega) (by omega)
   have n1 := ne i (by omega)
   have n2 := ne j hj
   refine ⟨i, j, hij, by omega, ?_⟩
   split at hf <;> split at hf <;> omega
/-- Sums of integers. -/
def si : Nat → (Nat → Int) → Int
 | 0, _ => 0
 | n + 1, f => si n f + f n
def nrm : Nat → (Nat → Int) → Nat
 | 0, _ => 0
 | n + 1, f => nrm n f + (f n).natAbs
theorem si_bound {c x : Nat → Int} {H : Nat} : ∀ {n : Nat}, (∀ j, j < n → (x j).natAbs ≤ H) → (si n fun j => c j * x j).natAbs ≤ nrm n c * H
 | 0, _ => by simp [si]
 | n + 1, h => by
  have ih := si_bound (c := c) (x := x) (n := n) fun j hj => h j (by omega)
  have h2 := h n (by omega)
  show ((si n fun j => c j * x j) + c n * x n).natAbs ≤ (nrm n c + (c n).natAbs) * H
  have a := Int.natAbs_add_le (si n fun j => c j * x j) (c n * x n)
  rw [Int.natAbs_mul] at a
  have b := Nat.mul_le_mul_left (c n).natAbs h2
  rw [Nat.add_mul]
  omega
theorem si_sub (c x y : Nat → Int) : ∀ n, (si n fun j => c j * (x j - y j)) = (si n fun j => c j * x j) - si n fun j => c j * y j
 | 0 => by simp [si]
 | n + 1 => by
  show (si n fun j => c j * (x j - y j)) + c n * (x n - y n) = ((si n fun j => c j * x j) + c n * x n) - ((si n fun j => c j * y j) + c n * y n)
  rw [si_sub c x y n, Int.mul_sub]; omega
theorem siegel_room (M R H : Nat) (hR : 1 ≤ R) (hH : H = (2 * R) ^ M) : (2 * R * H + 1) ^ M < (H + 1) ^ (M + 1) := by
 have h1 : 2 * R * H + 1 ≤ 2 * R * (H + 1) := by rw [Nat.mul_add]; omega
 have h2 := Nat.pow_le_pow_left h1 M
 rw [Nat.mul_pow, ← hH] at h2
 have h3 : (H + 1) ^ (M + 1) = H * (H + 1) ^ M + (H + 1) ^ M := by rw [Nat.pow_succ, Nat.mul_comm, Nat.add_mul, Nat.one_mul]
 have h4 : 0 < (H + 1) ^ M := Nat.pow_pos (by omega)
 omega
theorem siegel (M R : Nat) (hR : 1 ≤ R) (c : Nat → Nat → Int) (hc : ∀ e, e < M → nrm (M + 1) (c e) ≤ R) :
  ∃ x : Nat → Int, (∃ j, j < M + 1 ∧ x j ≠ 0) ∧ (∀ j, j < M + 1 → (x j).natAbs ≤ (2 * R) ^ M) ∧ ∀ e, e < M → (si (M + 1) fun j => c e j * x j) = 0 := by
 obtain ⟨H, hH⟩ : ∃ H, H = (2 * R) ^ M := ⟨_, rfl⟩
 have room := siegel_room M R H hR hH
 rw [← hH]
 have dl : ∀ p j, dig (H + 1) p j ≤ H := fun p j => by
  have := Nat.mod_lt (p / (H + 1) ^ j) (show 0 < H + 1 by omega)
  unfold dig; omega
 have lb : ∀ p e, e < M → (si (M + 1) fun j => c e j * ((dig (H + 1) p j : Nat) : Int)).natAbs ≤ R * H := fun p e he => by
  have := si_bound (c := c e) (x := fun j => ((dig (H + 1) p j : Nat) : Int)) (H := H) (n := M + 1) fun j _ => by simpa using dl p j
  exact Nat.le_trans this (Nat.mul_le_mul_right _ (hc e he))
 have vb : ∀ p e, e < M → ((si (M + 1) fun j => c e j * ((dig (H + 1) p j : Nat) : Int)) + ((R * H : Nat) : Int)).toNat < 2 * R * H + 1 := fun p e he => by
  have := lb p e he
  rw [Nat.mul_assoc]
  omega
 obtain ⟨p, p', hlt, hM, hf⟩ := pigeon ((2 * R * H + 1) ^ M) ((H + 1) ^ (M + 1)) (fun p => cd (2 * R * H + 1) M fun e => ((si (M + 1) fun j => c e j * ((dig (H + 1) p j : Nat) : Int)) + ((R * H : Nat) : Int)).toNat)
  (fun p _ => cd_lt fun e he => vb p e he) room
 have same := cd_inj (fun e he => vb p e he) (fun e he => vb p' e he) hf
 refine ⟨fun j => ((dig (H + 1) p' j : Nat) : Int) - ((dig (H + 1) p j : Nat) : Int), ?_, fun j _ => ?_, fun e he => ?_⟩
 ·refine Classical.byContradiction fun hn => ?_
  have al : ∀ j, j < M + 1 → dig (H + 1) p' j = dig (H + 1) p j := fun j hj => Classical.byContradiction fun q => hn ⟨j, hj, by show _ - _ ≠ (0 : Int); omega⟩
  have e1 := cd_dig (H + 1) p (M + 1)
  have e2 := cd_dig (H + 1) p' (M + 1)
  rw [Nat.mod_eq_of_lt (by omega)] at e1 e2
  have cg : ∀ n, n ≤ M + 1 → cd (H + 1) n (dig (H + 1) p') = cd (H + 1) n (dig (H + 1) p) := by
   intro n
   induction n with
   | zero => intro _; rfl
   | succ n ih => intro hn; show _ + _ * _ = _ + _ * _; rw [ih (by omega), al n (by omega)]
  rw [cg (M + 1) (Nat.le_refl _)] at e2
  omega
 ·have h1 := dl p j
  have h2 := dl p' j
  show (((dig (H + 1) p' j : Nat) : Int) - ((dig (H + 1) p j : Nat) : Int)).natAbs ≤ H
  omega
 ·have s := same e he
  have l1 := lb p e he
  have l2 := lb p' e he
  rw [si_sub (c e)]
  omega
end Go.Proofs.Ytijdglogadnbcaa.Bl
