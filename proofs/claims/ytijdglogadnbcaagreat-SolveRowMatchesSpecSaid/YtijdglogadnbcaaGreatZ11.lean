/- Tables of the simplex method: exchanging a row and a column. No program. -/
import Derived.Test.YtijdglogadnbcaaGreatZ10
import Derived.Test.YtijdglogadnbcaaGreatZ09
import Derived.Laws.IdiomCopy
import Derived.Test.YtijdglogadnbcaaGreatZ07
set_option linter.unusedVariables false
set_option linter.unusedSimpArgs false
set_option maxRecDepth 100000
set_option maxHeartbeats 40000000
namespace Go.Proofs.YtijdglogadnbcaaGreat.Bl
/-- A problem: n columns, m rows; each row's variable is the sum of the columns' variables, each times its entry. -/
structure Pb where
 n : Nat
 m : Nat
 low : Nat → Option V
 high : Nat → Option V
 now : Nat → V
 basic : Nat → Nat
 free : Nat → Nat
 T : Nat → Nat → Rat
/-- The variables are the rows' and the columns', each once. -/
structure Pb.Pl (P : Pb) : Prop where
 blt : ∀ i, i < P.m → P.basic i < P.n + P.m
 flt : ∀ k, k < P.n → P.free k < P.n + P.m
 binj : ∀ i j, i < P.m → j < P.m → P.basic i = P.basic j → i = j
 finj : ∀ i j, i < P.n → j < P.n → P.free i = P.free j → i = j
 disj : ∀ i k, i < P.m → k < P.n → P.basic i ≠ P.free k
 cover : ∀ v, v < P.n + P.m → (∃ i, i < P.m ∧ P.basic i = v) ∨ ∃ k, k < P.n ∧ P.free k = v
def Pb.nb (P : Pb) (v : Nat) : Prop := ∃ k, k < P.n ∧ P.free k = v
/-- Vectors that satisfy the table. -/
def Pb.TW (P : Pb) (y : Nat → Rat) : Prop := ∀ i, i < P.m → y (P.basic i) = sm P.n fun k => P.T i k * y (P.free k)
def Pb.TV (P : Pb) (y : Nat → V) : Prop := P.TW (fun j => (y j).m) ∧ P.TW (fun j => (y j).s)
theorem sm_split {n c : Nat} (hc : c < n) (f : Nat → Rat) : sm n f = sm n (fun k => if k = c then 0 else f k) + f c := by
 have e : ∀ k, f k = (if k = c then 0 else f k) + (if k = c then f c else 0) := fun k => by
  by_cases h : k = c
  ·subst h; simp; grind
  ·simp [h]; grind
 have : sm n f = sm n (fun k => (if k = c then 0 else f k) + (if k = c then f c else 0)) := sm_congr fun k _ => e k
 rw [this, sm_add, sm_one (r := c) (f := fun k => if k = c then f c else 0) hc fun j _ hj => by simp [hj]]
 simp
/-- The exchange. -/
def Pb.pivot (P : Pb) (r c : Nat) : Pb :=
 { P with
  basic := fun i => if i = r then P.free c else P.basic i
  free := fun k => if k = c then P.basic r else P.free k
  T := fun i k => if i = r then (if k = c then (P.T r c)⁻¹ else -(P.T r k * (P.T r c)⁻¹))
   else (if k = c then 0 else P.T i k) + P.T i c * (if k = c then (P.T r c)⁻¹ else -(P.T r k * (P.T r c)⁻¹)) }
theorem Pb.Pl.pivot {P : Pb} (h : P.Pl) {r c : Nat} (hr : r < P.m) (hc : c < P.n) : (P.pivot r c).Pl := by
 have b : ∀ i, (P.pivot r c).basic i = if i = r then P.free c else P.basic i := fun _ => rfl
 have f : ∀ k, (P.pivot r c).free k = if k = c then P.basic r else P.free k := fun _ => rfl
 refine ⟨fun i hi => ?_, fun k hk => ?_, fun i j hi hj e => ?_, fun i j hi hj e => ?_, fun i k hi hk => ?_, fun v hv => ?_⟩
 ·rw [b]; split
  ·exact h.flt c hc
  ·exact h.blt i hi
 ·rw [f]; split
  ·exact h.blt r hr
  ·exact h.flt k hk
 ·rw [b, b] at e
  split at e <;> split at e
  ·omega
  ·exact absurd e.symm (h.disj j c hj hc)
  ·exact absurd e (h.disj i c hi hc)
  ·exact h.binj i j hi hj e
 ·rw [f, f] at e
  split at e <;> split at e
  ·omega
  ·exact absurd e (h.disj r j hr hj)
  ·exact absurd e.symm (h.disj r i hr hi)
  ·exact h.finj i j hi hj e
 ·rw [b, f]
  by_cases h1 : i = r
  ·rw [if_pos h1]
   by_cases h2 : k = c
   ·rw [if_pos h2]; exact (h.disj r c hr hc).symm
   ·rw [if_neg h2]; exact fun e => h2 (h.finj k c hk hc e.symm)
  ·rw [if_neg h1]
   by_cases h2 : k = c
   ·rw [if_pos h2]; exact fun e => h1 (h.binj i r hi hr e)
   ·rw [if_neg h2]; exact h.disj i k hi hk
 ·rcases h.cover v hv with ⟨i, hi, e⟩ | ⟨k, hk, e⟩
  ·by_cases h1 : i = r
   ·right; exact ⟨c, hc, by rw [f, if_pos rfl, ← h1]; exact e⟩
   ·left; exact ⟨i, hi, by rw [b, if_neg h1]; exact e⟩
  ·by_cases h1 : k = c
   ·left; exact ⟨r, hr, by rw [b, if_pos rfl, ← h1]; exact e⟩
   ·right; exact ⟨k, hk, by rw [f, if_neg h1]; exact e⟩
theorem Pb.Pl.nb_basic {P : Pb} (h : P.Pl) {i : Nat} (hi : i < P.m) : ¬ P.nb (P.basic i) := fun ⟨k, hk, e⟩ => h.disj i k hi hk e.symm
theorem Pb.Pl.nb_pivot {P : Pb} (h : P.Pl) {r c : Nat} (hr : r < P.m) (hc : c < P.n) (j : Nat) : (P.pivot r c).nb j ↔ (P.nb j ∧ j ≠ P.free c) ∨ j = P.basic r := by
 have f : ∀ k, (P.pivot r c).free k = if k = c then P.basic r else P.free k := fun _ => rfl
 constructor
 ·rintro ⟨k, hk, e⟩
  rw [f] at e
  split at e
  ·exact Or.inr e.symm
  ·exact Or.inl ⟨⟨k, hk, e⟩, fun q => by rename_i hne; exact hne (h.finj k c hk hc (e.trans q))⟩
 ·rintro (⟨⟨k, hk, e⟩, hne⟩ | e)
  ·refine ⟨k, hk, ?_⟩
   rw [f, if_neg fun q => hne (by rw [← e, q])]; exact e
  ·exact ⟨c, hc, by rw [f, if_pos rfl]; exact e.symm⟩
/-- The same vectors satisfy it. -/
theorem Pb.pivot_tw {P : Pb} (h : P.Pl) {r c : Nat} (hr : r < P.m) (hc : c < P.n) (hz : P.T r c ≠ 0) (y : Nat → Rat) : P.TW y ↔ (P.pivot r c).TW y := by
 have zi : P.T r c * (P.T r c)⁻¹ = 1 := Rat.mul_inv_cancel _ hz
 -- the row r, solved for the column c
 have solve : y (P.basic r) = sm P.n (fun k => P.T r k * y (P.free k)) ↔
   y (P.free c) = sm P.n fun k => (if k = c then (P.T r c)⁻¹ else -(P.T r k * (P.T r c)⁻¹)) * y (if k = c then P.basic r else P.free k) := by
  rw [sm_split hc, sm_split hc (fun k => (if k = c then (P.T r c)⁻¹ else -(P.T r k * (P.T r c)⁻¹)) * y (if k = c then P.basic r else P.free k))]
  have e : sm P.n (fun k => if k = c then (0 : Rat) else (if k = c then (P.T r c)⁻¹ else -(P.T r k * (P.T r c)⁻¹)) * y (if k = c then P.basic r else P.free k)) = -(P.T r c)⁻¹ * sm P.n (fun k => if k = c then 0 else P.T r k * y (P.free k)) := by
   rw [← sm_mul]
   refine sm_congr fun k _ => ?_
   by_cases q : k = c
   ·simp [q]
   ·simp only [if_neg q]; grind
  rw [e]
  simp only [if_true]
  generalize sm P.n (fun k => if k = c then 0 else P.T r k * y (P.free k)) = S
  generalize P.T r c = t at *
  generalize t⁻¹ = u at *
  constructor
  ·intro q; rw [q]
   have : u * (S + t * y (P.free c)) = u * S + (t * u) * y (P.free c) := by grind
   rw [zi] at this; grind
  ·intro q; rw [q]
   have : t * (-u * S + u * y (P.basic r)) = -(t * u) * S + (t * u) * y (P.basic r) := by grind
   rw [zi] at this; grind
 have other : ∀ i, i ≠ r → y (P.free c) = sm P.n (fun k => (if k = c then (P.T r c)⁻¹ else -(P.T r k * (P.T r c)⁻¹)) * y (if k = c then P.basic r else P.free k)) →
   sm P.n (fun k => P.T i k * y (P.free k)) = sm P.n fun k => ((if k = c then 0 else P.T i k) + P.T i c * (if k = c then (P.T r c)⁻¹ else -(P.T r k * (P.T r c)⁻¹))) * y (if k = c then P.basic r else P.free k) := by
  intro i _ hy
  have e : sm P.n (fun k => ((if k = c then 0 else P.T i k) + P.T i c * (if k = c then (P.T r c)⁻¹ else -(P.T r k * (P.T r c)⁻¹))) * y (if k = c then P.basic r else P.free k)) =
    sm P.n (fun k => if k = c then 0 else P.T i k * y (P.free k)) + P.T i c * y (P.free c) := by
   rw [hy, ← sm_mul, ← sm_add]
   refine sm_congr fun k _ => ?_
   by_cases q : k = c
   ·simp only [if_pos q]; grind
   ·simp only [if_neg q]; grind
  rw [e, sm_split hc]
 constructor
 ·intro H i hi
  by_cases q : i = r
  ·subst q
   have := solve.1 (H i hi)
   simp only [Pb.pivot, if_true]
   exact this
  ·have h1 := other i q (solve.1 (H r hr))
   have := H i hi
   simp only [Pb.pivot, if_neg q]
   rw [this, h1]
 ·intro H
  have hr' := H r hr
  simp only [Pb.pivot, if_true] at hr'
  intro i hi
  by_cases q : i = r
  ·subst q
   exact solve.2 hr'
  ·have h1 := other i q hr'
   have := H i hi
   simp only [Pb.pivot, if_neg q] at this
   rw [this, h1]
theorem Pb.pivot_tv {P : Pb} (h : P.Pl) {r c : Nat} (hr : r < P.m) (hc : c < P.n) (hz : P.T r c ≠ 0) (y : Nat → V) : P.TV y ↔ (P.pivot r c).TV y := by
 unfold Pb.TV; rw [Pb.pivot_tw h hr hc hz, Pb.pivot_tw h hr hc hz]
/-- A move of column c's variable, and of all others with it. -/
def Pb.move (P : Pb) (c : Nat) (by_ : V) : Pb :=
 { P with now := fun j => if j = P.free c then (P.now j).add by_ else V.add (P.now j) (V.mul (sm P.m fun i => if P.basic i = j then P.T i c else 0) by_) }
end Go.Proofs.YtijdglogadnbcaaGreat.Bl
namespace Go.Proofs.YtijdglogadnbcaaGreat
open Go.RowKit Nt Bl
/-- What a number's three cells hold. -/
structure Nw where
 s : Bool
 a : Option Addr
 n : Nat
 c : Nat
 b : Option Addr
 m : Nat
 d : Nat
def RA (w : World) (q : Rat) (N : Nw) : Prop := RAt w q N.s N.a N.n N.c N.b N.m N.d
/-- A block of cells of one element type that may be written. -/
def Blk (w : World) (g ty : Nat) : Prop := ∃ arr, w.heap[g]? = some (.cells arr ty (0, 0))
theorem Blk.free {w : World} {g ty : Nat} (h : Blk w g ty) (i : Nat) : w.frozen? ⟨g, i, none⟩ = false := by
 obtain ⟨arr, h⟩ := h
 simp [World.frozen?, h]
theorem Blk.lt {w : World} {g ty : Nat} (h : Blk w g ty) : g < w.heap.size := by
 obtain ⟨arr, h⟩ := h
 exact (Array.getElem?_eq_some_iff.1 h).1
theorem Blk.ne {w : World} {g g' ty ty' : Nat} (h : Blk w g ty) (h' : Blk w g' ty') (hne : ty ≠ ty') : g ≠ g' := by
 obtain ⟨arr, h⟩ := h
 obtain ⟨arr', h'⟩ := h'
 rintro rfl
 rw [h] at h'
 simp only [Option.some.injEq, Obj.cells.injEq] at h'
 exact hne h'.2.1
theorem Blk.keep {w w' : World} {g ty : Nat} (h : Blk w g ty) (e : w'.heap[g]? = w.heap[g]?) : Blk w' g ty := by
 obtain ⟨arr, h⟩ := h
 exact ⟨arr, e.trans h⟩
theorem Blk.setCell {w : World} {g ty : Nat} (h : Blk w g ty) (b i : Nat) (v : Value) : Blk (w.setCell ⟨b, i, none⟩ v) g ty := by
 by_cases e : g = b
 ·subst e
  obtain ⟨arr, h⟩ := h
  exact ⟨_, heap_setCell_same w g i arr ty v h⟩
 ·exact h.keep (heap_setCell_other _ _ _ _ e)
theorem Blk.setCells {g ty b : Nat} : ∀ (vs : List Value) (o : Nat) (w : World), Blk w g ty → Blk (w.setCells b o vs) g ty
 | [], _, _, h => h
 | v :: vs, o, w, h => Blk.setCells vs (o + 1) _ (h.setCell b o v)
theorem heap_setCells_other {b k : Nat} (hk : k ≠ b) : ∀ (vs : List Value) (o : Nat) (w : World), (w.setCells b o vs).heap[k]? = w.heap[k]?
 | [], _, _ => rfl
 | v :: vs, o, w => (heap_setCells_other hk vs (o + 1) _).trans (heap_setCell_other _ _ _ _ hk)
theorem below_setCells {b k : Nat} {w0 : World} (hk : k ≤ b) : ∀ (vs : List Value) (o : Nat) (w : World), Below k w0 w → Below k w0 (w.setCells b o vs)
 | [], _, _, h => h
 | v :: vs, o, w, h => below_setCells hk vs (o + 1) _ (h.setCell hk v)
/-- Cells o.. of block g have been written. -/
structure Wr (w w' : World) (g o : Nat) (vs : List Value) : Prop where
 oth : ∀ b, b ≠ g → w'.heap[b]? = w.heap[b]?
 rest : ∀ j, (j < o ∨ o + vs.length ≤ j) → w'.cell? ⟨g, j, none⟩ = w.cell? ⟨g, j, none⟩
 new : ∀ j, j < vs.length → w'.cell? ⟨g, o + j, none⟩ = vs[j]?
 blk : ∀ k ty, Blk w k ty → Blk w' k ty
 bel : ∀ k w0, k ≤ g → Below k w0 w → Below k w0 w'
theorem wr_cells (w : World) (g o : Nat) (vs : List Value) (hex : ∀ j, j < vs.length → (w.cell? ⟨g, o + j, none⟩).isSome = true) : Wr w (w.setCells g o vs) g o vs where
 oth b hb := heap_setCells_other hb vs o w
 rest j hj := World.cell?_setCells_out g vs o w ⟨g, j, none⟩ fun _ _ => hj
 new j hj := by rw [World.cell?_setCells_in g vs o w hex j hj, List.getElem?_eq_getElem hj]
 blk k ty h := h.setCells vs o w
 bel k w0 hk h := below_setCells hk vs o w h
/-- Limbs stay. -/
def Limb (w w' : World) : Prop := ∀ b o x, w.cell? ⟨b, o, none⟩ = some (.int .u32 x) → w'.cell? ⟨b, o, none⟩ = some (.int .u32 x)
theorem Limb.refl (w : World) : Limb w w := fun _ _ _ h => h
theorem Limb.trans {a b c : World} (h : Limb a b) (k : Limb b c) : Limb a c := fun i o x e => k i o x (h i o x e)
theorem Limb.of_below {w w' : World} (hb : Below w.heap.size w w') : Limb w w' := fun _ _ _ h => cell_later hb (Nat.le_refl _) h
theorem UAt.limb {w w' : World} {l : List Nat} {a : Option Addr} (h : UAt w l a) (hl : Limb w w') : UAt w' l a := by
 intro hne
 obtain ⟨b, o, e, d⟩ := h hne
 exact ⟨b, o, e, fun i hi => hl _ _ _ (d i hi)⟩
theorem LAt.limb {w w' : World} {l : List Nat} {a : Option Addr} {n c : Nat} (h : LAt w l a n c) (hl : Limb w w') : LAt w' l a n c := ⟨h.at_.limb hl, h.len, h.le, h.cap, h.lm⟩
theorem RA.limb {w w' : World} {q : Rat} {N : Nw} (h : RA w q N) (hl : Limb w w') : RA w' q N := ⟨h.sg, h.num.limb hl, h.den.limb hl⟩
theorem Wr.limb {w w' : World} {g o : Nat} {vs : List Value} (h : Wr w w' g o vs) (old : ∀ j x, j < vs.length → w.cell? ⟨g, o + j, none⟩ ≠ some (.int .u32 x)) : Limb w w' := by
 intro b i x e
 by_cases hb : b = g
 ·subst hb
  by_cases hi : i < o ∨ o + vs.length ≤ i
  ·rw [h.rest i hi]; exact e
  ·obtain ⟨j, rfl⟩ : ∃ j, i = o + j := ⟨i - o, by omega⟩
   exact absurd e (old j x (by omega))
 ·rw [World.cell?_of_block (h.oth b hb)]; exact e
/-- A number in three cells. -/
def NumC (w : World) (g o : Nat) (q : Rat) : Prop := ∃ N : Nw, w.cell? ⟨g, o, none⟩ = some (.bool N.s) ∧ w.cell? ⟨g, o + 1, none⟩ = some (.slice N.a N.n N.c) ∧ w.cell? ⟨g, o + 2, none⟩ = some (.slice N.b N.m N.d) ∧ RA w q N
theorem NumC.keep {w w' : World} {g o : Nat} {q : Rat} (h : NumC w g o q) (hc : ∀ j, j < 3 → w'.cell? ⟨g, o + j, none⟩ = w.cell? ⟨g, o + j, none⟩) (hl : Limb w w') : NumC w' g o q := by
 obtain ⟨N, a, b, c, d⟩ := h
 exact ⟨N, (hc 0 (by omega)).trans a, (hc 1 (by omega)).trans b, (hc 2 (by omega)).trans c, d.limb hl⟩
theorem NumC.notu {w : World} {g o : Nat} {q : Rat} (h : NumC w g o q) (j : Nat) (hj : j < 3) (x : Int) : w.cell? ⟨g, o + j, none⟩ ≠ some (.int .u32 x) := by
 obtain ⟨N, a, b, c, d⟩ := h
 rcases j with _ | _ | _ | j
 ·rw [show o + 0 = o from rfl, a]; simp
 ·rw [b]; simp
 ·rw [show o + (0 + 1 + 1) = o + 2 from rfl, c]; simp
 ·omega
/-- A value in six cells. -/
def ValC (w : World) (g o : Nat) (v : V) : Prop := NumC w g o v.m ∧ NumC w g (o + 3) v.s
theorem ValC.keep {w w' : World} {g o : Nat} {v : V} (h : ValC w g o v) (hc : ∀ j, j < 6 → w'.cell? ⟨g, o + j, none⟩ = w.cell? ⟨g, o + j, none⟩) (hl : Limb w w') : ValC w' g o v :=
 ⟨h.1.keep (fun j hj => hc j (by omega)) hl, h.2.keep (fun j hj => by have := hc (3 + j) (by omega); rwa [← Nat.add_assoc] at this) hl⟩
theorem ValC.notu {w : World} {g o : Nat} {v : V} (h : ValC w g o v) (j : Nat) (hj : j < 6) (x : Int) : w.cell? ⟨g, o + j, none⟩ ≠ some (.int .u32 x) := by
 by_cases h3 : j < 3
 ·exact h.1.notu j h3 x
 ·obtain ⟨k, rfl⟩ : ∃ k, j = 3 + k := ⟨j - 3, by omega⟩
  rw [← Nat.add_assoc]; exact h.2.notu k (by omega) x
/-- An end of a range in seven cells. -/
def BndC (w : World) (g o : Nat) : Option V → Prop
 | none => w.cell? ⟨g, o, none⟩ = some (.bool false) ∧ ∃ M S : Nw, w.cell? ⟨g, o + 1, none⟩ = some (.bool M.s) ∧ w.cell? ⟨g, o + 2, none⟩ = some (.slice M.a M.n M.c) ∧ w.cell? ⟨g, o + 3, none⟩ = some (.slice M.b M.m M.d) ∧
   w.cell? ⟨g, o + 4, none⟩ = some (.bool S.s) ∧ w.cell? ⟨g, o + 5, none⟩ = some (.slice S.a S.n S.c) ∧ w.cell? ⟨g, o + 6, none⟩ = some (.slice S.b S.m S.d)
 | some v => w.cell? ⟨g, o, none⟩ = some (.bool true) ∧ ValC w g (o + 1) v
theorem BndC.keep {w w' : World} {g o : Nat} {v : Option V} (h : BndC w g o v) (hc : ∀ j, j < 7 → w'.cell? ⟨g, o + j, none⟩ = w.cell? ⟨g, o + j, none⟩) (hl : Limb w w') : BndC w' g o v := by
 cases v with
 | none =>
  obtain ⟨a, M, S, b, c, d, e, f, i⟩ := h
  exact ⟨(hc 0 (by omega)).trans a, M, S, (hc 1 (by omega)).trans b, (hc 2 (by omega)).trans c, (hc 3 (by omega)).trans d, (hc 4 (by omega)).trans e, (hc 5 (by omega)).trans f, (hc 6 (by omega)).trans i⟩
 | some v => exact ⟨(hc 0 (by omega)).trans h.1, h.2.keep (fun j hj => by have := hc (1 + j) (by omega); rwa [← Nat.add_assoc] at this) hl⟩
theorem cells_same {w w' : World} {g : Nat} (e : w'.heap[g]? = w.heap[g]?) (i : Nat) : w'.cell? ⟨g, i, none⟩ = w.cell? ⟨g, i, none⟩ := World.cell?_of_block e
/-- Values in a row. -/
structure NowR (ty : Nat) (w : World) (g N : Nat) (f : Nat → V) : Prop where
 blk : Blk w g ty
 at_ : ∀ v, v < N → ValC w g (v * 6) (f v)
theorem NowR.keep {ty : Nat} {w w' : World} {g N : Nat} {f : Nat → V} (h : NowR ty w g N f) (e : w'.heap[g]? = w.heap[g]?) (hl : Limb w w') : NowR ty w' g N f :=
 ⟨h.blk.keep e, fun v hv => (h.at_ v hv).keep (fun j _ => cells_same e _) hl⟩
def Nw.cs (N : Nw) : List Value := [.bool N.s, .slice N.a N.n N.c, .slice N.b N.m N.d]
theorem NowR.limb {ty : Nat} {w w' : World} {g N v : Nat} {f : Nat → V} {M S : Nw} (h : NowR ty w g N f) (hv : v < N) (hw : Wr w w' g (v * 6) (M.cs ++ S.cs)) : Limb w w' :=
 hw.limb fun j x hj => (h.at_ v hv).notu j (by simpa [Nw.cs] using hj) x
theorem num_new {w w' : World} {g o : Nat} {q : Rat} {N : Nw} (h0 : w'.cell? ⟨g, o, none⟩ = some (.bool N.s)) (h1 : w'.cell? ⟨g, o + 1, none⟩ = some (.slice N.a N.n N.c)) (h2 : w'.cell? ⟨g, o + 2, none⟩ = some (.slice N.b N.m N.d)) (h : RA w q N) (hl : Limb w w') : NumC w' g o q :=
 ⟨N, h0, h1, h2, h.limb hl⟩
theorem NowR.set {ty : Nat} {w w' : World} {g N v : Nat} {f : Nat → V} {M S : Nw} {x : V} (h : NowR ty w g N f) (hv : v < N) (hw : Wr w w' g (v * 6) (M.cs ++ S.cs)) (hm : RA w x.m M) (hs : RA w x.s S) : NowR ty w' g N (fun j => if j = v then x else f j) := by
 have hl := h.limb hv hw
 refine ⟨hw.blk _ _ h.blk, fun j hj => ?_⟩
 by_cases e : j = v
 ·subst e
  simp only [if_true]
  exact ⟨num_new (hw.new 0 (by simp [Nw.cs])) (hw.new 1 (by simp [Nw.cs])) (hw.new 2 (by simp [Nw.cs])) hm hl, num_new (hw.new 3 (by simp [Nw.cs])) (hw.new 4 (by simp [Nw.cs])) (hw.new 5 (by simp [Nw.cs])) hs hl⟩
 ·simp only [if_neg e]
  exact (h.at_ j hj).keep (fun i hi => hw.rest _ (by simp [Nw.cs]; omega)) hl
/-- Integers in a row. -/
structure IntR (w : World) (g N : Nat) (f : Nat → Nat) : Prop where
 blk : Blk w g 3
 at_ : ∀ i, i < N → w.cell? ⟨g, i, none⟩ = some (.int .i64 ((f i : Nat) : Int))
theorem IntR.keep {w w' : World} {g N : Nat} {f : Nat → Nat} (h : IntR w g N f) (e : w'.heap[g]? = w.heap[g]?) : IntR w' g N f :=
 ⟨h.blk.keep e, fun v hv => (cells_same e v).trans (h.at_ v hv)⟩
theorem IntR.limb {w w' : World} {g N i x : Nat} {f : Nat → Nat} (h : IntR w g N f) (hi : i < N) (hw : Wr w w' g i [.int .i64 (x : Int)]) : Limb w w' :=
 hw.limb fun j y hj => by
  have : j = 0 := by simpa using hj
  subst this
  rw [Nat.add_zero, h.at_ i hi]; simp
theorem IntR.set {w w' : World} {g N i x : Nat} {f : Nat → Nat} (h : IntR w g N f) (hi : i < N) (hw : Wr w w' g i [.int .i64 (x : Int)]) : IntR w' g N (fun j => if j = i then x else f j) := by
 refine ⟨hw.blk _ _ h.blk, fun j hj => ?_⟩
 by_cases e : j = i
 ·subst e; simp only [if_true]; exact hw.new 0 (by simp)
 ·simp only [if_neg e]
  rw [hw.rest j (by simp; omega)]; exact h.at_ j hj
/-- A line of the table. -/
structure LineR (w : World) (g n : Nat) (f : Nat → Rat) : Prop where
 blk : Blk w g 25
 at_ : ∀ k, k < n → NumC w g (k * 3) (f k)
theorem LineR.keep {w w' : World} {g n : Nat} {f : Nat → Rat} (h : LineR w g n f) (e : w'.heap[g]? = w.heap[g]?) (hl : Limb w w') : LineR w' g n f :=
 ⟨h.blk.keep e, fun v hv => (h.at_ v hv).keep (fun j _ => cells_same e _) hl⟩
theorem LineR.limb {w w' : World} {g n k : Nat} {f : Nat → Rat} {M : Nw} (h : LineR w g n f) (hk : k < n) (hw : Wr w w' g (k * 3) M.cs) : Limb w w' :=
 hw.limb fun j x hj => (h.at_ k hk).notu j (by simpa [Nw.cs] using hj) x
theorem LineR.set {w w' : World} {g n k : Nat} {f : Nat → Rat} {M : Nw} {x : Rat} (h : LineR w g n f) (hk : k < n) (hw : Wr w w' g (k * 3) M.cs) (hm : RA w x M) : LineR w' g n (fun j => if j = k then x else f j) := by
 have hl := h.limb hk hw
 refine ⟨hw.blk _ _ h.blk, fun j hj => ?_⟩
 by_cases e : j = k
 ·subst e
  simp only [if_true]
  exact num_new (hw.new 0 (by simp [Nw.cs])) (hw.new 1 (by simp [Nw.cs])) (hw.new 2 (by simp [Nw.cs])) hm hl
 ·simp only [if_neg e]
  exact (h.at_ j hj).keep (fun i hi => hw.rest _ (by simp [Nw.cs]; omega)) hl
/-- Ends of ranges in a row. -/
structure BndR (ty : Nat) (w : World) (g N : Nat) (f : Nat → Option V) : Prop where
 blk : Blk w g ty
 at_ : ∀ v, v < N → BndC w g (v * 7) (f v)
theorem BndR.keep {ty : Nat} {w w' : World} {g N : Nat} {f : Nat → Option V} (h : BndR ty w g N f) (e : w'.heap[g]? = w.heap[g]?) (hl : Limb w w') : BndR ty w' g N f :=
 ⟨h.blk.keep e, fun v hv => (h.at_ v hv).keep (fun j _ => cells_same e _) hl⟩
end Go.Proofs.YtijdglogadnbcaaGreat
namespace Go.Proofs.YtijdglogadnbcaaGreat
open Go.RowKit Nt
/-- A number that is not too long. -/
def Sz (q : Rat) (k : Nat) : Prop := (toL q.num.natAbs).length ≤ k ∧ (toL q.den).length ≤ k
theorem toL_mul_len {x y k l : Nat} (hx : (toL x).length ≤ k) (hy : (toL y).length ≤ l) : (toL (x * y)).length ≤ k + l := by
 refine toL_len ?_
 have h1 := vl_lt (toL_lm x)
 have h2 := vl_lt (toL_lm y)
 rw [vl_toL] at h1 h2
 have h3 : 4294967296 ^ (toL x).length ≤ 4294967296 ^ k := Nat.pow_le_pow_right (by omega) hx
 have h4 : 4294967296 ^ (toL y).length ≤ 4294967296 ^ l := Nat.pow_le_pow_right (by omega) hy
 rw [Nat.pow_add]
 exact Nat.mul_lt_mul'' (by omega) (by omega)
theorem undrew {W w2 : World} (h : Below W.drew.heap.size W.drew w2) : Below W.heap.size W w2 := ⟨h.os, h.tape, h.output, h.size, h.block⟩
theorem NB.set3 {w : World} {g k : Nat} {s : Bool} {a b : Option Addr} {n c m d : Nat} (h : NB w g s a n c b m d) (hne : g ≠ k) (x y z : Value) : NB (((w.setCell ⟨k, 0, none⟩ x).setCell ⟨k, 1, none⟩ y).setCell ⟨k, 2, none⟩ z) g s a n c b m d :=
 (set3_other w k x y z g hne).trans h
theorem NB.cells {w : World} {g : Nat} {s : Bool} {a b : Option Addr} {n c m d : Nat} (h : NB w g s a n c b m d) : w.cell? ⟨g, 0, none⟩ = some (.bool s) ∧ w.cell? ⟨g, 1, none⟩ = some (.slice a n c) ∧ w.cell? ⟨g, 2, none⟩ = some (.slice b m d) :=
 ⟨h.reads.1, h.reads.2.1, h.reads.2.2.1⟩
theorem six {w : World} {g k : Nat} {s t : Bool} {a b a' b' : Option Addr} {n c m d n' c' m' d' : Nat} (h : NB w g s a n c b m d) (h' : NB w k t a' n' c' b' m' d') :
  w.cell? ⟨g, 0, none⟩ = some (.bool s) ∧ w.cell? ⟨g, 1, none⟩ = some (.slice a n c) ∧ w.cell? ⟨g, 2, none⟩ = some (.slice b m d) ∧ w.cell? ⟨k, 0, none⟩ = some (.bool t) ∧ w.cell? ⟨k, 1, none⟩ = some (.slice a' n' c') ∧ w.cell? ⟨k, 2, none⟩ = some (.slice b' m' d') :=
 ⟨h.cells.1, h.cells.2.1, h.cells.2.2, h'.cells.1, h'.cells.2.1, h'.cells.2.2⟩
/-- Three new blocks: two operands and a result that is still 0. -/
theorem three_new (w : World) (x y z : Obj) : ∀ W, W = ((w.alloc x).alloc y).alloc z → W.heap[w.heap.size]? = some x ∧ W.heap[w.heap.size + 1]? = some y ∧ W.heap[w.heap.size + 2]? = some z ∧ Below w.heap.size w W ∧ W.heap.size = w.heap.size + 3 := by
 rintro W rfl
 have s1 : (w.alloc x).heap.size = w.heap.size + 1 := by simp
 have s2 : ((w.alloc x).alloc y).heap.size = w.heap.size + 2 := by simp
 refine ⟨?_, ?_, ?_, ?_, by simp⟩
 ·rw [Below.heap_alloc _ _ _ (by rw [s2]; omega), Below.heap_alloc _ _ _ (by rw [s1]; omega)]; exact heap_alloc_new w x
 ·rw [Below.heap_alloc _ _ _ (by rw [s2]; omega), ← s1]; exact heap_alloc_new _ y
 ·rw [← s2]; exact heap_alloc_new _ z
 ·exact ((below_new w x).alloc (by rw [s1]; omega) _).alloc (by rw [s2]; omega) _
theorem rmul_nz {w : World} {p q : Rat} {s t : Bool} {a b a' b' : Option Addr} {n c m d n' c' m' d' : Nat} (hp : RAt w p s a n c b m d) (hq : RAt w q t a' n' c' b' m' d') (sp : Sz p 268435456) (sq : Sz q 268435456) (p0 : p ≠ 0) (q0 : q ≠ 0) :
  Calls Tryz.prog 100 #[.agg #[.bool s, .slice a n c, .slice b m d], .agg #[.bool t, .slice a' n' c', .slice b' m' d']] w (RPost w (p * q)) := by
 have hn : n ≠ 0 := fun e => p0 (hp.zero.1 e)
 have hn' : n' ≠ 0 := fun e => q0 (hq.zero.1 e)
 have P := Lib.hid hp; have Q := Lib.hid hq
 have s1 := sp.1; have s2 := sp.2; have s3 := sq.1; have s4 := sq.2
 rw [hp.num.len] at s1; rw [hp.den.len] at s2; rw [hq.num.len] at s3; rw [hq.den.len] at s4
 have nz : ((n : Int) == 0) = false := by simp; exact hn
 have nz' : ((n' : Int) == 0) = false := by simp; exact hn'
 have T3 := Lib.hid (three_new w (.cells #[.bool s, .slice a n c, .slice b m d] 25) (.cells #[.bool t, .slice a' n' c', .slice b' m' d'] 25) (.cells #[.bool false, .slice none 0 0, .slice none 0 0] 25) _ rfl)
 have C1 := Lib.hid (fun (W : World) (hB : Below w.heap.size w W) => mul_any (hp.num.below hB) (hq.num.below hB) (by omega) (by omega))
 have C2 := Lib.hid (fun (W : World) (hB : Below w.heap.size w W) => mul_any (hp.den.below hB) (hq.den.below hB) (by omega) (by omega))
 have MF := Lib.hid (mul_frac p q)
 have dz : Hid (p.den * q.den ≠ 0) := Nat.mul_ne_zero p.den_nz q.den_nz
 have VN : Hid (vl (toL p.num.natAbs) * vl (toL q.num.natAbs) = p.num.natAbs * q.num.natAbs ∧ vl (toL p.den) * vl (toL q.den) = p.den * q.den) := ⟨by rw [vl_toL, vl_toL], by rw [vl_toL, vl_toL]⟩
 have SN : Hid ((toL (p.num.natAbs * q.num.natAbs)).length ≤ 1099511627775 ∧ (toL (p.den * q.den)).length ≤ 1099511627775) :=
  ⟨Nat.le_trans (toL_mul_len sp.1 sq.1) (by omega), Nat.le_trans (toL_mul_len sp.2 sq.2) (by omega)⟩
 have SG : Hid ((s != t) = (decide (p.num < 0) != decide (q.num < 0))) := by show _ = _; rw [← hp.sg, ← hq.sg]
 clear hp hq sp sq p0 q0 hn hn'
 go_enter Tryz.func100, Tryz.ntmps100
 go_wp2_with fail
 generalize ((w.alloc (.cells #[.bool s, .slice a n c, .slice b m d] 25)).alloc (.cells #[.bool t, .slice a' n' c', .slice b' m' d'] 25)).alloc (.cells #[.bool false, .slice none 0 0, .slice none 0 0] 25) = W0 at *
 obtain ⟨t1, t2, t3, t4, t5⟩ := T3.out
 have X1 : Hid (NB W0 w.heap.size s a n c b m d) := t1
 have X2 : Hid (NB W0 (w.heap.size + 1) t a' n' c' b' m' d') := t2
 have X3 : Hid (NB W0 (w.heap.size + 2) false none 0 0 none 0 0) := t3
 have B0 := Lib.hid t4; have S0 := Lib.hid t5
 clear t1 t2 t3 t4 t5
 obtain ⟨u0, u1, u2, _⟩ := X1.out.reads
 obtain ⟨v0, v1, v2, _⟩ := X2.out.reads
 go_region_held3 (fun W => W.cell? ⟨w.heap.size, 0, none⟩ = some (.bool s) ∧ W.cell? ⟨w.heap.size, 1, none⟩ = some (.slice a n c) ∧ W.cell? ⟨w.heap.size, 2, none⟩ = some (.slice b m d) ∧ W.cell? ⟨w.heap.size + 1, 0, none⟩ = some (.bool t) ∧ W.cell? ⟨w.heap.size + 1, 1, none⟩ = some (.slice a' n' c') ∧ W.cell? ⟨w.heap.size + 1, 2, none⟩ = some (.slice b' m' d'))
  (first
   | exact ⟨u0, u1, u2, v0, v1, v2⟩
   | exact ⟨y0, y1, y2, y3, y4, y5⟩
   | exact ⟨x0, x1, x2, x3, x4, x5⟩
   | exact ⟨r0, r1, r2, r3, r4, r5⟩
   | exact six (K1.out.set3 (by omega) _ _ _) (K2.out.set3 (by omega) _ _ _)
   | go_keep)
  (first
   | (go_at_call 99; ((with_reducible refine (C1.out W0.drew B0.out.drew).mono ?_)); rintro e w2 ⟨a2, n2, c2, rfl, L2, B2⟩; have B2 := undrew B2; rw [VN.out.1] at L2; have N1 : NB w2 w.heap.size s a n c b m d := X1.out.later B2 X1.out.lt; have N2 : NB w2 (w.heap.size + 1) t a' n' c' b' m' d' := X2.out.later B2 X2.out.lt; have N3 : NB w2 (w.heap.size + 2) false none 0 0 none 0 0 := X3.out.later B2 X3.out.lt; obtain ⟨y0, y1, y2, _⟩ := N1.reads; obtain ⟨y3, y4, y5, _⟩ := N2.reads; have N1 := Lib.hid N1; have N2 := Lib.hid N2; have N3 := Lib.hid N3; have L2 := Lib.hid L2; have B02 := Lib.hid (Below.over B0.out B0.out.size B2); clear B2)
   | (go_at_call 99; ((with_reducible refine (C2.out w2 B02.out).mono ?_)); go_loud (rintro e w3 ⟨a3, n3, c3, rfl, L3, B3⟩; rw [VN.out.2] at L3; have M1 : NB w3 w.heap.size s a n c b m d := N1.out.later B3 N1.out.lt; have M2 : NB w3 (w.heap.size + 1) t a' n' c' b' m' d' := N2.out.later B3 N2.out.lt; have M3 : NB w3 (w.heap.size + 2) false none 0 0 none 0 0 := N3.out.later B3 N3.out.lt; obtain ⟨x0, x1, x2, _⟩ := M1.reads; obtain ⟨x3, x4, x5, _⟩ := M2.reads; have M1 := Lib.hid M1; have M2 := Lib.hid M2; have M3 := Lib.hid M3; have L32 := Lib.hid (L2.out.below B3); have L3 := Lib.hid L3; have B03 := Lib.hid (Below.over B02.out B02.out.size B3); clear B3))
   | (go_at_call 142; go_loud (refine (reduced_any (neg := s != t) L32.out L3.out dz.out (by rw [← L32.out.len]; exact SN.out.1) (by rw [← L3.out.len]; exact SN.out.2)).mono ?_; rintro e w4 ⟨s4, a4, n4, c4, b4, m4, d4, rfl, L4, B4⟩; rw [SG.out, ← MF.out] at L4; have K1 : NB w4 w.heap.size s a n c b m d := M1.out.later B4 M1.out.lt; have K2 : NB w4 (w.heap.size + 1) t a' n' c' b' m' d' := M2.out.later B4 M2.out.lt; have K3 : NB w4 (w.heap.size + 2) false none 0 0 none 0 0 := M3.out.later B4 M3.out.lt; obtain ⟨r0, r1, r2, _⟩ := K1.reads; obtain ⟨r3, r4, r5, _⟩ := K2.reads; obtain ⟨z0, z1, z2, f⟩ := K3.reads; have f0 := f 0; have f1 := f 1; have f2 := f 2; have lt4 := K3.lt; clear f; have K1 := Lib.hid K1; have K2 := Lib.hid K2; have K3 := Lib.hid K3; have L4 := Lib.hid L4; have B04 := Lib.hid (Below.over B03.out B03.out.size B4); clear B4)))
 go_wp2_with fail
 exact bodyPost_ret (v := .agg #[.bool s4, .slice a4 n4 c4, .slice b4 m4 d4]) (by simp [results, Tryz.results100, go_sem, z0, z1, z2]) rfl ⟨s4, a4, n4, c4, b4, m4, d4, rfl, ⟨L4.out.sg, L4.out.num.beside K3.out (set3_other _ _ _ _ _), L4.out.den.beside K3.out (set3_other _ _ _ _ _)⟩, below_set3 B04.out _ (by omega) _ _ _⟩
end Go.Proofs.YtijdglogadnbcaaGreat
