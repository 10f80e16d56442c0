/- The problem while lp.New builds it. No program. -/
import Derived.Test.YtijdglogadnbcaaGreatZ27
set_option linter.unusedVariables false
set_option linter.unusedSimpArgs false
set_option maxRecDepth 100000
set_option maxHeartbeats 40000000
namespace Go.Proofs.YtijdglogadnbcaaGreat
open Go.RowKit Nt Bl
theorem info222 : (Tryz.prog.info? 222).map (fun i => (i.zero, i.size, i.bytes)) = some (some (.agg #[.bool false, .bool false, .slice none 0 0, .slice none 0 0, .bool false, .slice none 0 0, .slice none 0 0]), 7, 120) := by kernel_rfl
theorem bnd_made {w1 : World} {b g n : Nat} (h : w1.ownsRow b 222 7 (.slice (some ⟨g, 0, none⟩) n n) n (madeCells (Value.agg #[.bool false, .bool false, .slice none 0 0, .slice none 0 0, .bool false, .slice none 0 0, .slice none 0 0]).cells (n * 7)).toList) :
  BndR 222 w1 g n (fun _ => none) ∧ b ≤ g := by
 rcases h.2 with ⟨hv, _⟩ | ⟨g', cap, cur, hv, hb, hgg, _, _, hcs, ht⟩
 ·simp at hv
 ·simp only [Value.slice.injEq, Option.some.injEq, Addr.mk.injEq] at hv
  obtain ⟨⟨rfl, _⟩, _, rfl⟩ := hv
  refine ⟨⟨⟨_, hgg⟩, fun v hvn => ?_⟩, hb⟩
  have c : ∀ j, j < 7 → w1.cell? ⟨g, v * 7 + j, none⟩ = #[Value.bool false, .bool false, .slice none 0 0, .slice none 0 0, .bool false, .slice none 0 0, .slice none 0 0][j]? := fun j hj => by
   rw [cell_of_row w1 g _ _ _ _ hgg]
   have e := made_get (z := (Value.agg #[.bool false, .bool false, .slice none 0 0, .slice none 0 0, .bool false, .slice none 0 0, .slice none 0 0]).cells) (k := n) (sz := 7) (v := v) (j := j) rfl hj hvn
   rw [← ht, List.getElem?_take] at e
   have lt : v * 7 + j < n * 7 := by omega
   rw [if_pos lt] at e
   rw [← Array.getElem?_toList, e]
   rfl
  exact ⟨c 0 (by omega), Nw.zero, Nw.zero, c 1 (by omega), c 2 (by omega), c 3 (by omega), c 4 (by omega), c 5 (by omega), c 6 (by omega)⟩
def ints (a k : Nat) : List Value := (List.range k).map fun j => Value.int .i64 ((a + j : Nat) : Int)
def lnV (line : Nat → Nat) (n k : Nat) : List Value := (List.range k).map fun j => Value.slice (some ⟨line j, 0, none⟩) n n
theorem ints_succ (a k : Nat) : ints a (k + 1) = ints a k ++ [Value.int .i64 ((a + k : Nat) : Int)] := by simp [ints, List.range_succ]
theorem lnV_succ (line : Nat → Nat) (n k : Nat) : lnV line n (k + 1) = lnV line n k ++ [Value.slice (some ⟨line k, 0, none⟩) n n] := by simp [lnV, List.range_succ]
theorem lnV_congr {line line' : Nat → Nat} {n k : Nat} (h : ∀ j, j < k → line j = line' j) : lnV line n k = lnV line' n k := by
 unfold lnV
 refine List.map_congr_left fun j hj => ?_
 rw [h j (List.mem_range.1 hj)]
/-- Where things stand. -/
structure PtL where
 p : Nat
 low : Nat
 high : Nat
 now : Nat
 n : Nat
 N : Nat
 hb : Value
 hf : Value
 ht : Value
 bv : Value
 fv : Value
 tv : Value
 ib : Nat
 it : Nat
 nf : Nat
 nl : Nat
 line : Nat → Nat
 lo : Nat → Option V
 hi : Nat → Option V
 T : Nat → Nat → Rat
structure Pt (n0 : Nat) (w : World) (Z : PtL) : Prop where
 hd : w.heap[Z.p]? = some (.cells #[.int .i64 (Z.n : Int), .slice (some ⟨Z.low, 0, none⟩) Z.N Z.N, .slice (some ⟨Z.high, 0, none⟩) Z.N Z.N, .slice (some ⟨Z.now, 0, none⟩) Z.N Z.N, Z.hb, Z.hf, Z.ht] 219 (0, 0))
 lo : BndR 222 w Z.low Z.N Z.lo
 hi : BndR 222 w Z.high Z.N Z.hi
 no : NowR 174 w Z.now Z.N (fun _ => ⟨0, 0⟩)
 bo : Ow w n0 3 1 Z.bv Z.ib (ints Z.n Z.ib)
 fo : Ow w n0 3 1 Z.fv Z.nf (ints 0 Z.nf)
 to_ : Ow w n0 83 1 Z.tv Z.it (lnV Z.line Z.n Z.it)
 li : ∀ k, k < Z.nl → LineR w (Z.line k) Z.n (Z.T k)
 inj : ∀ k j, k < Z.nl → j < Z.nl → k ≠ j → Z.line k ≠ Z.line j
 lh : Z.low ≠ Z.high
 bf : ∀ g, Z.bv.ownBlock = some g → Z.fv.ownBlock ≠ some g
 ge : n0 ≤ Z.p ∧ n0 ≤ Z.low ∧ n0 ≤ Z.high ∧ n0 ≤ Z.now ∧ ∀ k, k < Z.nl → n0 ≤ Z.line k
variable {n0 : Nat} {w w' w1 : World} {Z : PtL}
theorem Pt.pb (h : Pt n0 w Z) : Blk w Z.p 219 := ⟨_, h.hd⟩
theorem Pt.below (h : Pt n0 w Z) (hb : Below w.heap.size w w') : Pt n0 w' Z := by
 have hl := Limb.of_below hb
 have B : ∀ {g ty : Nat}, Blk w g ty → w'.heap[g]? = w.heap[g]? := fun q => hb.block _ q.lt
 exact ⟨(B h.pb).trans h.hd, h.lo.keep (B h.lo.blk) hl, h.hi.keep (B h.hi.blk) hl, h.no.keep (B h.no.blk) hl, h.bo.below hb, h.fo.below hb, h.to_.below hb, fun k hk => (h.li k hk).keep (B (h.li k hk).blk) hl, h.inj, h.lh, h.bf, h.ge⟩
theorem Pt.drew (h : Pt n0 w Z) : Pt n0 w.drew Z := h.below (Below.refl _ _).drew
theorem Pt.head (h : Pt n0 w Z) : w.cell? ⟨Z.p, 0, none⟩ = some (.int .i64 (Z.n : Int)) ∧ w.cell? ⟨Z.p, 1, none⟩ = some (.slice (some ⟨Z.low, 0, none⟩) Z.N Z.N) ∧ w.cell? ⟨Z.p, 2, none⟩ = some (.slice (some ⟨Z.high, 0, none⟩) Z.N Z.N) ∧
  w.cell? ⟨Z.p, 3, none⟩ = some (.slice (some ⟨Z.now, 0, none⟩) Z.N Z.N) ∧ w.cell? ⟨Z.p, 4, none⟩ = some Z.hb ∧ w.cell? ⟨Z.p, 5, none⟩ = some Z.hf ∧ w.cell? ⟨Z.p, 6, none⟩ = some Z.ht ∧ ∀ i, w.frozen? ⟨Z.p, i, none⟩ = false := by
 refine ⟨?_, ?_, ?_, ?_, ?_, ?_, ?_, fun i => h.pb.free i⟩
 ·rw [cell_of_row w Z.p 0 _ _ _ h.hd]; rfl
 ·rw [cell_of_row w Z.p 1 _ _ _ h.hd]; rfl
 ·rw [cell_of_row w Z.p 2 _ _ _ h.hd]; rfl
 ·rw [cell_of_row w Z.p 3 _ _ _ h.hd]; rfl
 ·rw [cell_of_row w Z.p 4 _ _ _ h.hd]; rfl
 ·rw [cell_of_row w Z.p 5 _ _ _ h.hd]; rfl
 ·rw [cell_of_row w Z.p 6 _ _ _ h.hd]; rfl
/-- A row of its own grows. -/
theorem Pt.oth {base e size n : Nat} {v : Value} {xs : List Value} (o : Ow w base e size v n xs) (g : w.grownBy w1 v.ownBlock) {b ty : Nat} (hb : Blk w b ty) (hne : ty ≠ e) : w1.heap[b]? = w.heap[b]? :=
 g.block b hb.lt fun q => (hb.ne (o.blk q.symm) hne) rfl
theorem Ow.apart {base e size n : Nat} {v : Value} {xs : List Value} {base' e' size' n' : Nat} {v' : Value} {xs' : List Value} (o : Ow w base e size v n xs) (o' : Ow w base' e' size' v' n' xs') (hne : e' ≠ e) : v'.ownBlock = none ∨ v'.ownBlock ≠ v.ownBlock := by
 cases q : v'.ownBlock with
 | none => exact Or.inl rfl
 | some g => exact Or.inr fun r => (o'.blk q).ne (o.blk r.symm) hne rfl
theorem Pt.appB {bv' : Value} (h : Pt n0 w Z) (O : Ow w1 n0 3 1 bv' (Z.ib + 1) (ints Z.n (Z.ib + 1))) (G : w.grownBy w1 Z.bv.ownBlock) (hf : ∀ g, bv'.ownBlock = some g → Z.fv.ownBlock ≠ some g) : Pt n0 w1 { Z with bv := bv', ib := Z.ib + 1 } := by
 have hl := h.bo.limb G
 have B : ∀ {b ty : Nat}, Blk w b ty → ty ≠ 3 → w1.heap[b]? = w.heap[b]? := fun q hne => Pt.oth h.bo G q hne
 refine ⟨(B h.pb (by decide)).trans h.hd, h.lo.keep (B h.lo.blk (by decide)) hl, h.hi.keep (B h.hi.blk (by decide)) hl, h.no.keep (B h.no.blk (by decide)) hl, O, ?_, h.to_.kept G (Ow.apart h.bo h.to_ (by decide)), fun k hk => (h.li k hk).keep (B (h.li k hk).blk (by decide)) hl, h.inj, h.lh, hf, h.ge⟩
 refine h.fo.kept G ?_
 cases q : Z.fv.ownBlock with
 | none => exact Or.inl rfl
 | some g => exact Or.inr fun r => h.bf g r.symm q
theorem Pt.appF {fv' : Value} (h : Pt n0 w Z) (O : Ow w1 n0 3 1 fv' (Z.nf + 1) (ints 0 (Z.nf + 1))) (G : w.grownBy w1 Z.fv.ownBlock) (hf : Z.bv.ownBlock = none) : Pt n0 w1 { Z with fv := fv', nf := Z.nf + 1 } := by
 have hl := h.fo.limb G
 have B : ∀ {b ty : Nat}, Blk w b ty → ty ≠ 3 → w1.heap[b]? = w.heap[b]? := fun q hne => Pt.oth h.fo G q hne
 exact ⟨(B h.pb (by decide)).trans h.hd, h.lo.keep (B h.lo.blk (by decide)) hl, h.hi.keep (B h.hi.blk (by decide)) hl, h.no.keep (B h.no.blk (by decide)) hl, h.bo.kept G (Or.inl hf), O, h.to_.kept G (Ow.apart h.fo h.to_ (by decide)), fun k hk => (h.li k hk).keep (B (h.li k hk).blk (by decide)) hl, h.inj, h.lh, fun g q => by
  have q : Z.bv.ownBlock = some g := q
  rw [hf] at q; simp at q, h.ge⟩
theorem Pt.appT {tv' : Value} (h : Pt n0 w Z) (O : Ow w1 n0 83 1 tv' (Z.it + 1) (lnV Z.line Z.n (Z.it + 1))) (G : w.grownBy w1 Z.tv.ownBlock) : Pt n0 w1 { Z with tv := tv', it := Z.it + 1 } := by
 have hl := h.to_.limb G
 have B : ∀ {b ty : Nat}, Blk w b ty → ty ≠ 83 → w1.heap[b]? = w.heap[b]? := fun q hne => Pt.oth h.to_ G q hne
 exact ⟨(B h.pb (by decide)).trans h.hd, h.lo.keep (B h.lo.blk (by decide)) hl, h.hi.keep (B h.hi.blk (by decide)) hl, h.no.keep (B h.no.blk (by decide)) hl, h.bo.kept G (Ow.apart h.to_ h.bo (by decide)), h.fo.kept G (Ow.apart h.to_ h.fo (by decide)), O, fun k hk => (h.li k hk).keep (B (h.li k hk).blk (by decide)) hl, h.inj, h.lh, h.bf, h.ge⟩
/-- A new line. -/
theorem Pt.newLine {g : Nat} {f : Nat → Rat} (h : Pt n0 w Z) (hb : Below w.heap.size w w1) (hg : w.heap.size ≤ g) (hl : LineR w1 g Z.n f) (hn : n0 ≤ w.heap.size) (hit : Z.it ≤ Z.nl) : Pt n0 w1 { Z with nl := Z.nl + 1, line := fun k => if k = Z.nl then g else Z.line k, T := fun k => if k = Z.nl then f else Z.T k } := by
 have h1 := h.below hb
 have old : ∀ k, k < Z.nl → Z.line k < w.heap.size := fun k hk => (h.li k hk).blk.lt
 refine ⟨h1.hd, h1.lo, h1.hi, h1.no, h1.bo, h1.fo, ?_, fun k hk => ?_, fun k j hk hj hne => ?_, h1.lh, h1.bf, h1.ge.1, h1.ge.2.1, h1.ge.2.2.1, h1.ge.2.2.2.1, fun k hk => ?_⟩
 ·have e := lnV_congr (line := fun k => if k = Z.nl then g else Z.line k) (line' := Z.line) (n := Z.n) (k := Z.it) fun j hj => if_neg (by omega)
  show Ow w1 n0 83 1 Z.tv Z.it (lnV _ Z.n Z.it)
  rw [e]; exact h1.to_
 ·show LineR w1 (if k = Z.nl then g else Z.line k) Z.n (if k = Z.nl then f else Z.T k)
  by_cases e : k = Z.nl
  ·rw [if_pos e, if_pos e]; exact hl
  ·rw [if_neg e, if_neg e]
   have hk : k < Z.nl + 1 := hk
   exact h1.li k (by omega)
 ·show (if k = Z.nl then g else Z.line k) ≠ (if j = Z.nl then g else Z.line j)
  have hk : k < Z.nl + 1 := hk
  have hj : j < Z.nl + 1 := hj
  by_cases e : k = Z.nl
  ·rw [if_pos e, if_neg (by omega)]
   have := old j (by omega)
   omega
  ·rw [if_neg e]
   by_cases e2 : j = Z.nl
   ·rw [if_pos e2]
    have := old k (by omega)
    omega
   ·rw [if_neg e2]; exact h.inj k j (by omega) (by omega) hne
 ·show n0 ≤ (if k = Z.nl then g else Z.line k)
  have hk : k < Z.nl + 1 := hk
  by_cases e : k = Z.nl
  ·rw [if_pos e]; omega
  ·rw [if_neg e]; exact h.ge.2.2.2.2 k (by omega)
/-- Cells of the problem itself. -/
theorem Pt.hold (h : Pt n0 w Z) (e : ∀ b, b ≠ Z.p → w1.heap[b]? = w.heap[b]?) (hl : Limb w w1) {Z' : PtL} (hZ : Z' = { Z with hb := Z'.hb, hf := Z'.hf, ht := Z'.ht })
  (hd : w1.heap[Z'.p]? = some (.cells #[.int .i64 (Z'.n : Int), .slice (some ⟨Z'.low, 0, none⟩) Z'.N Z'.N, .slice (some ⟨Z'.high, 0, none⟩) Z'.N Z'.N, .slice (some ⟨Z'.now, 0, none⟩) Z'.N Z'.N, Z'.hb, Z'.hf, Z'.ht] 219 (0, 0))) (hs : w.heap.size = w1.heap.size) (ho : w1.os = w.os ∧ w1.tape = w.tape ∧ w1.output = w.output) : Pt n0 w1 Z' := by
 have B : ∀ {b ty : Nat}, Blk w b ty → ty ≠ 219 → w1.heap[b]? = w.heap[b]? := fun q hne => e _ (q.ne h.pb hne)
 have G : w.grownBy w1 (some Z.p) := ⟨ho.1, ho.2.1, ho.2.2, Nat.le_of_eq hs, fun k _ hk => e k fun q => hk (by rw [q])⟩
 have ap : ∀ {base ty size n : Nat} {v : Value} {xs : List Value}, Ow w base ty size v n xs → ty ≠ 219 → v.ownBlock = none ∨ v.ownBlock ≠ some Z.p := fun {base ty size n v xs} o hne => by
  cases q : v.ownBlock with
  | none => exact Or.inl rfl
  | some g => exact Or.inr fun r => (o.blk q).ne h.pb hne (Option.some.inj r)
 have F : Pt n0 w1 Z' := by
  refine ⟨hd, ?_, ?_, ?_, ?_, ?_, ?_, ?_, ?_, ?_, ?_, ?_⟩ <;> rw [hZ]
  ·exact h.lo.keep (B h.lo.blk (by decide)) hl
  ·exact h.hi.keep (B h.hi.blk (by decide)) hl
  ·exact h.no.keep (B h.no.blk (by decide)) hl
  ·exact h.bo.kept G (ap h.bo (by decide))
  ·exact h.fo.kept G (ap h.fo (by decide))
  ·exact h.to_.kept G (ap h.to_ (by decide))
  ·exact fun k hk => (h.li k hk).keep (B (h.li k hk).blk (by decide)) hl
  ·exact h.inj
  ·exact h.lh
  ·exact h.bf
  ·exact h.ge
 exact F
/-- An end of a range. -/
theorem BndR.set {g N v : Nat} {f : Nat → Option V} {M S : Nw} {x : V} (h : BndR 222 w g N f) (hv : v < N) (hw : Wr w w' g (v * 7) (.bool true :: (M.cs ++ S.cs))) (hl : Limb w w') (hm : RA w x.m M) (hs : RA w x.s S) : BndR 222 w' g N (fun j => if j = v then some x else f j) := by
 refine ⟨hw.blk _ _ h.blk, fun j hj => ?_⟩
 by_cases e : j = v
 ·subst e
  simp only [if_true]
  refine ⟨hw.new 0 (by simp [Nw.cs]), num_new ?_ ?_ ?_ hm hl, num_new ?_ ?_ ?_ hs hl⟩
  ·exact hw.new 1 (by simp [Nw.cs])
  ·exact hw.new 2 (by simp [Nw.cs])
  ·exact hw.new 3 (by simp [Nw.cs])
  ·exact hw.new 4 (by simp [Nw.cs])
  ·exact hw.new 5 (by simp [Nw.cs])
  ·exact hw.new 6 (by simp [Nw.cs])
 ·simp only [if_neg e]
  exact (h.at_ j hj).keep (fun i hi => hw.rest _ (by simp [Nw.cs]; omega)) hl
theorem BndC.notu {g o : Nat} {e : Option V} (h : BndC w g o e) (j : Nat) (hj : j < 7) (x : Int) : w.cell? ⟨g, o + j, none⟩ ≠ some (.int .u32 x) := by
 cases e with
 | none =>
  obtain ⟨a, M, S, b, c, d, e, f, i⟩ := h
  rcases j with _ | _ | _ | _ | _ | _ | _ | j
  ·rw [Nat.add_zero, a]; simp
  ·rw [show o + (0 + 1) = o + 1 from rfl, b]; simp
  ·rw [show o + (0 + 1 + 1) = o + 2 from rfl, c]; simp
  ·rw [show o + (0 + 1 + 1 + 1) = o + 3 from rfl, d]; simp
  ·rw [show o + (0 + 1 + 1 + 1 + 1) = o + 4 from rfl, e]; simp
  ·rw [show o + (0 + 1 + 1 + 1 + 1 + 1) = o + 5 from rfl, f]; simp
  ·rw [show o + (0 + 1 + 1 + 1 + 1 + 1 + 1) = o + 6 from rfl, i]; simp
  ·omega
 | some v =>
  cases j with
  | zero => rw [Nat.add_zero, h.1]; simp
  | succ j => have := h.2.notu j (by omega) x; rwa [show o + 1 + j = o + (j + 1) from by omega] at this
theorem BndR.limb {g N v : Nat} {f : Nat → Option V} {M S : Nw} (h : BndR 222 w g N f) (hv : v < N) (hw : Wr w w' g (v * 7) (.bool true :: (M.cs ++ S.cs))) : Limb w w' :=
 hw.limb fun j x hj => (h.at_ v hv).notu j (by simpa [Nw.cs] using hj) x
theorem Pt.setHi {v : Nat} {M S : Nw} {x : V} (h : Pt n0 w Z) (hv : v < Z.N) (hw : Wr w w' Z.high (v * 7) (.bool true :: (M.cs ++ S.cs))) (hm : RA w x.m M) (hs : RA w x.s S) (hsz : w.heap.size = w'.heap.size) (ho : w'.os = w.os ∧ w'.tape = w.tape ∧ w'.output = w.output) : Pt n0 w' { Z with hi := fun j => if j = v then some x else Z.hi j } := by
 have hl := h.hi.limb hv hw
 have B : ∀ {b ty : Nat}, Blk w b ty → ty ≠ 222 → w'.heap[b]? = w.heap[b]? := fun q hne => hw.oth _ (q.ne h.hi.blk hne)
 have G : w.grownBy w' (some Z.high) := ⟨ho.1, ho.2.1, ho.2.2, Nat.le_of_eq hsz, fun k _ hk => hw.oth k fun q => hk (by rw [q])⟩
 have ap : ∀ {base ty size n : Nat} {v : Value} {xs : List Value}, Ow w base ty size v n xs → ty ≠ 222 → v.ownBlock = none ∨ v.ownBlock ≠ some Z.high := fun {base ty size n v xs} o hne => by
  cases q : v.ownBlock with
  | none => exact Or.inl rfl
  | some g => exact Or.inr fun r => (o.blk q).ne h.hi.blk hne (Option.some.inj r)
 exact ⟨(B h.pb (by decide)).trans h.hd, h.lo.keep (hw.oth _ h.lh) hl, h.hi.set hv hw hl hm hs, h.no.keep (B h.no.blk (by decide)) hl, h.bo.kept G (ap h.bo (by decide)), h.fo.kept G (ap h.fo (by decide)), h.to_.kept G (ap h.to_ (by decide)), fun k hk => (h.li k hk).keep (B (h.li k hk).blk (by decide)) hl, h.inj, h.lh, h.bf, h.ge⟩
theorem Pt.setLo {v : Nat} {M S : Nw} {x : V} (h : Pt n0 w Z) (hv : v < Z.N) (hw : Wr w w' Z.low (v * 7) (.bool true :: (M.cs ++ S.cs))) (hm : RA w x.m M) (hs : RA w x.s S) (hsz : w.heap.size = w'.heap.size) (ho : w'.os = w.os ∧ w'.tape = w.tape ∧ w'.output = w.output) : Pt n0 w' { Z with lo := fun j => if j = v then some x else Z.lo j } := by
 have hl := h.lo.limb hv hw
 have B : ∀ {b ty : Nat}, Blk w b ty → ty ≠ 222 → w'.heap[b]? = w.heap[b]? := fun q hne => hw.oth _ (q.ne h.lo.blk hne)
 have G : w.grownBy w' (some Z.low) := ⟨ho.1, ho.2.1, ho.2.2, Nat.le_of_eq hsz, fun k _ hk => hw.oth k fun q => hk (by rw [q])⟩
 have ap : ∀ {base ty size n : Nat} {v : Value} {xs : List Value}, Ow w base ty size v n xs → ty ≠ 222 → v.ownBlock = none ∨ v.ownBlock ≠ some Z.low := fun {base ty size n v xs} o hne => by
  cases q : v.ownBlock with
  | none => exact Or.inl rfl
  | some g => exact Or.inr fun r => (o.blk q).ne h.lo.blk hne (Option.some.inj r)
 exact ⟨(B h.pb (by decide)).trans h.hd, h.lo.set hv hw hl hm hs, h.hi.keep (hw.oth _ h.lh.symm) hl, h.no.keep (B h.no.blk (by decide)) hl, h.bo.kept G (ap h.bo (by decide)), h.fo.kept G (ap h.fo (by decide)), h.to_.kept G (ap h.to_ (by decide)), fun k hk => (h.li k hk).keep (B (h.li k hk).blk (by decide)) hl, h.inj, h.lh, h.bf, h.ge⟩
end Go.Proofs.YtijdglogadnbcaaGreat
