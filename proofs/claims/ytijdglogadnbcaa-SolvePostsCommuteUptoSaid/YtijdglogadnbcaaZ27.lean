/- copy of elements of several cells; rows of equal elements. No program. -/
import Derived.Test.YtijdglogadnbcaaZ10
import Derived.Laws.CopyOwn
import Derived.Test.YtijdglogadnbcaaZ26
set_option linter.unusedVariables false
set_option linter.unusedSimpArgs false
set_option maxRecDepth 100000
set_option maxHeartbeats 40000000
namespace Go.Proofs.Ytijdglogadnbcaa
open Go.RowKit
theorem run_copy_wide {P : Program} (w : World) (dT sT ty elem : TypeId) (g o dLen dCap : Nat) (a : Addr) (sLen sCap sz : Nat) (cur : Array Value) (t : TypeId) (cs : List Value)
  (hu : P.underlying dT = some (.slice elem)) (hs : (P.info? elem).map (·.size) = some sz)
  (hg : w.heap[g]? = some (.cells cur t (0, 0))) (hn : cs.length = Nat.min sLen dLen * sz)
  (hsrc : ∀ j v, cs[j]? = some v → w.cell? (a.add j) = some v) (hfit : o + cs.length ≤ cur.size) (h1 : ∀ v ∈ cs, v.oneCell' = true) :
  (Builtin.copy_ #[dT, sT] ty #[.slice (some ⟨g, o, none⟩) dLen dCap, .slice (some a) sLen sCap]).run P w =
   .ok (goInt (Nat.min sLen dLen)) (w.setRow g (cur.toList.take o ++ cs ++ cur.toList.drop (o + cs.length)).toArray) := by
 have hl := run_loadCells_list (P := P) w a cs hsrc
 have hst := run_storeCells_at P g o t cs 0 cur w hg (by simpa using hfit) h1
 cases hq : P.info? elem with
 | none => simp [hq] at hs
 | some i =>
  have hi : i.size = sz := by simpa [hq] using hs
  simp [Builtin.copy_, run_underlying hu, Builtin.lenOf, Builtin.firstCells, sizeOf, typeInfo, hq, hi, ← hn, hl, hst]
theorem wp_copy_wide {P : Program} {ops : Array Oper} {o : Oper} {a : Act} {w : World} {K : Act → World → Prop} {Q : Exit → Act → World → Prop} (d s : Operand) (dT sT : TypeId)
  (ho : o.op = .call { callee := .builtin .copy, args := #[d, s], argTypes := #[dT, sT] }) (elem : TypeId) (sz : Nat) (hu : P.underlying dT = some (.slice elem)) (hsz : (P.info? elem).map (·.size) = some sz)
  (g off dLen dCap : Nat) (ad : Addr) (sLen sCap m : Nat) (hd : a.eval d = .slice (some ⟨g, off, none⟩) dLen dCap) (hs : a.eval s = .slice (some ad) sLen sCap) (hm : Nat.min sLen dLen = m)
  (cur : List Value) (t : TypeId) (hg : w.heap[g]? = some (.cells cur.toArray t (0, 0))) (cs : List Value) (hn : cs.length = m * sz)
  (hsrc : ∀ j v, cs[j]? = some v → w.cell? (ad.add j) = some v) (hfit : off + cs.length ≤ cur.length) (h1 : ∀ v ∈ cs, v.oneCell' = true) (B : Nat) (w0 : World) (hb : Below B w0 w) (hBg : B ≤ g)
  (h : ∀ w', Hid (w'.heap[g]? = some (.cells (splice cur off cs).toArray t (0, 0))) → Below B w0 w' → w'.heap.size = w.heap.size → K (a.put o.dst (goInt m)) w') : Oper.wp P o a w K Q := by
 subst hm
 have hrun := run_copy_wide (P := P) w dT sT o.type elem g off dLen dCap ad sLen sCap sz cur.toArray t cs hu hsz hg hn hsrc (by simpa using hfit) h1
 unfold Oper.wp
 simp [execOp, ho, resolve, invoke, builtin, hd, hs, hrun, Result.andThen]
 exact h _ (show _ = _ by simpa [splice] using setRow_heap w g _ _ t _ hg) (below_setRow hb hBg _) (by simp [World.setRow])
theorem wpList_copy_wide {P : Program} {ops : Array Oper} {rest : List Oper} {o : Oper} {a : Act} {w : World} {Q : Exit → Act → World → Prop} (hgd : o.guard = none) (d s : Operand) (dT sT : TypeId)
  (ho : o.op = .call { callee := .builtin .copy, args := #[d, s], argTypes := #[dT, sT] }) (elem : TypeId) (sz : Nat) (hu : P.underlying dT = some (.slice elem)) (hsz : (P.info? elem).map (·.size) = some sz)
  (g off dLen dCap : Nat) (ad : Addr) (sLen sCap m : Nat) (hd : a.eval d = .slice (some ⟨g, off, none⟩) dLen dCap) (hs : a.eval s = .slice (some ad) sLen sCap) (hm : Nat.min sLen dLen = m)
  (cur : List Value) (t : TypeId) (hg : w.heap[g]? = some (.cells cur.toArray t (0, 0))) (cs : List Value) (hn : cs.length = m * sz)
  (hsrc : ∀ j v, cs[j]? = some v → w.cell? (ad.add j) = some v) (hfit : off + cs.length ≤ cur.length) (h1 : ∀ v ∈ cs, v.oneCell' = true) (B : Nat) (w0 : World) (hb : Below B w0 w) (hBg : B ≤ g)
  (h : ∀ w', Hid (w'.heap[g]? = some (.cells (splice cur off cs).toArray t (0, 0))) → Below B w0 w' → w'.heap.size = w.heap.size → wpList P ops Q rest (a.put o.dst (goInt m)) w') : wpList P ops Q (o :: rest) a w :=
 wpList_plain hgd fun _ hK => wp_copy_wide (ops := ops) d s dT sT ho elem sz hu hsz g off dLen dCap ad sLen sCap m hd hs hm cur t hg cs hn hsrc hfit h1 B w0 hb hBg fun w' h1 h2 h3 => hK _ _ (h w' h1 h2 h3)
theorem step_copy_wide {P : Program} {ops : Array Oper} {o : Oper} {a : Act} {w : World} {K : Act → World → Prop} {Q : Exit → Act → World → Prop} {E : Prop} (hgd : o.guard = none) (d s : Operand) (dT sT : TypeId)
  (ho : o.op = .call { callee := .builtin .copy, args := #[d, s], argTypes := #[dT, sT] }) (elem : TypeId) (sz : Nat) (hu : P.underlying dT = some (.slice elem)) (hsz : (P.info? elem).map (·.size) = some sz)
  (g off dLen dCap : Nat) (ad : Addr) (sLen sCap m : Nat) (hd : a.eval d = .slice (some ⟨g, off, none⟩) dLen dCap) (hs : a.eval s = .slice (some ad) sLen sCap) (hm : Nat.min sLen dLen = m)
  (cur : List Value) (t : TypeId) (hg : w.heap[g]? = some (.cells cur.toArray t (0, 0))) (cs : List Value) (hn : cs.length = m * sz)
  (hsrc : ∀ j v, cs[j]? = some v → w.cell? (ad.add j) = some v) (hfit : off + cs.length ≤ cur.length) (h1 : ∀ v ∈ cs, v.oneCell' = true) (B : Nat) (w0 : World) (hb : Below B w0 w) (hBg : B ≤ g)
  (h : ∀ w', Hid (w'.heap[g]? = some (.cells (splice cur off cs).toArray t (0, 0))) → Below B w0 w' → w'.heap.size = w.heap.size → K (a.put o.dst (goInt m)) w') :
  if Region.wanted o (yielded ops a.tmps) = true then Oper.wp P o a w K Q else E := by
 have hw : Region.wanted o (yielded ops a.tmps) = true := by simp [Region.wanted, hgd]
 rw [if_pos hw]
 exact wp_copy_wide (ops := ops) d s dT sT ho elem sz hu hsz g off dLen dCap ad sLen sCap m hd hs hm cur t hg cs hn hsrc hfit h1 B w0 hb hBg h
/-- n times the same cells. -/
def flat (cs : List Value) : Nat → List Value
 | 0 => []
 | n + 1 => flat cs n ++ cs
theorem flat_len (cs : List Value) : ∀ n, (flat cs n).length = n * cs.length
 | 0 => by simp [flat]
 | n + 1 => by show (flat cs n ++ cs).length = _; rw [List.length_append, flat_len cs n, Nat.add_mul, Nat.one_mul]
theorem flat_add (cs : List Value) (a : Nat) : ∀ b, flat cs (a + b) = flat cs a ++ flat cs b
 | 0 => by simp [flat]
 | b + 1 => by show flat cs (a + b) ++ cs = flat cs a ++ (flat cs b ++ cs); rw [flat_add cs a b, List.append_assoc]
theorem flat_take (cs : List Value) {a n : Nat} (h : a ≤ n) : (flat cs n).take (a * cs.length) = flat cs a := by
 obtain ⟨b, rfl⟩ : ∃ b, n = a + b := ⟨n - a, by omega⟩
 rw [flat_add, ← flat_len, List.take_left']
 rfl
theorem flat_get (cs : List Value) {v n j : Nat} (hv : v < n) (hj : j < cs.length) : (flat cs n)[v * cs.length + j]? = cs[j]? := by
 obtain ⟨b, rfl⟩ : ∃ b, n = v + (1 + b) := ⟨n - v - 1, by omega⟩
 rw [flat_add, flat_add, List.getElem?_append_right (by rw [flat_len]; omega), flat_len, Nat.add_sub_cancel_left, List.getElem?_append_left (by simpa [flat] using hj)]
 simp [flat]
theorem flat_one (cs : List Value) (h : ∀ v ∈ cs, v.oneCell' = true) : ∀ n, ∀ v ∈ flat cs n, v.oneCell' = true
 | 0, v, hv => by simp [flat] at hv
 | n + 1, v, hv => by
  have hv : v ∈ flat cs n ++ cs := hv
  rcases List.mem_append.1 hv with k | k
  ·exact flat_one cs h n v k
  ·exact h v k
/-- The first k of N elements of a block are laid. -/
def Laid (w : World) (g ty : Nat) (cs : List Value) (N k : Nat) : Prop := ∃ cur : List Value, w.heap[g]? = some (.cells cur.toArray ty (0, 0)) ∧ cur.length = N * cs.length ∧ cur.take (k * cs.length) = flat cs k
theorem Laid.cell {w : World} {g ty : Nat} {cs : List Value} {N k : Nat} (h : Laid w g ty cs N k) {v j : Nat} (hv : v < k) (hj : j < cs.length) : w.cell? ⟨g, v * cs.length + j, none⟩ = cs[j]? := by
 obtain ⟨cur, hg, hl, ht⟩ := h
 rw [cell_of_row w g _ _ _ _ hg]
 have e := flat_get cs hv hj
 rw [← ht, List.getElem?_take] at e
 split at e
 ·rw [List.getElem?_toArray]; exact e
 ·rename_i q
  exfalso; apply q
  have : (v + 1) * cs.length ≤ k * cs.length := Nat.mul_le_mul_right _ hv
  rw [Nat.add_mul, Nat.one_mul] at this
  omega
theorem Laid.blk {w : World} {g ty : Nat} {cs : List Value} {N k : Nat} (h : Laid w g ty cs N k) : Blk w g ty := by
 obtain ⟨cur, hg, _⟩ := h
 exact ⟨_, hg⟩
theorem Laid.later {b : Nat} {w w' : World} {g ty : Nat} {cs : List Value} {N k : Nat} (h : Laid w g ty cs N k) (hb : Below b w w') (hg : g < b) : Laid w' g ty cs N k := by
 obtain ⟨cur, e, r⟩ := h
 exact ⟨cur, (hb.block g hg).trans e, r⟩
theorem laid_next {cur cs : List Value} {N k m : Nat} (hl : cur.length = N * cs.length) (ht : cur.take (k * cs.length) = flat cs k) (hkm : k + m ≤ N) : (splice cur (k * cs.length) (flat cs m)).length = N * cs.length ∧ (splice cur (k * cs.length) (flat cs m)).take ((k + m) * cs.length) = flat cs (k + m) := by
 have le : k * cs.length + m * cs.length ≤ N * cs.length := by rw [← Nat.add_mul]; exact Nat.mul_le_mul_right _ hkm
 have fit : k * cs.length + (flat cs m).length ≤ cur.length := by rw [flat_len, hl]; exact le
 refine ⟨(length_splice _ _ _ fit).trans hl, ?_⟩
 unfold splice
 rw [ht, ← List.append_assoc, ← flat_add, ← flat_len cs (k + m), List.take_left']
 rfl
/-- The cells that copy reads within the block. -/
theorem Laid.src {w : World} {g ty : Nat} {cs : List Value} {N k m : Nat} (h : Laid w g ty cs N k) (hm : m ≤ k) : ∀ j v, (flat cs m)[j]? = some v → w.cell? ((⟨g, 0, none⟩ : Addr).add j) = some v := by
 intro j v hv
 have hadd : (⟨g, 0, none⟩ : Addr).add j = ⟨g, j, none⟩ := by unfold Addr.add; split <;> simp_all
 obtain ⟨cur, hg, hl, ht⟩ := h
 rw [hadd, cell_of_row w g _ _ _ _ hg, List.getElem?_toArray]
 have hlt : j < m * cs.length := by
  have := (List.getElem?_eq_some_iff.1 hv).1
  rwa [flat_len] at this
 have : m * cs.length ≤ k * cs.length := Nat.mul_le_mul_right _ hm
 rw [← flat_take cs hm, List.getElem?_take, if_pos hlt, ← ht, List.getElem?_take, if_pos (by omega)] at hv
 exact hv
end Go.Proofs.Ytijdglogadnbcaa
namespace Go.Proofs.Ytijdglogadnbcaa
open Go.RowKit Nt Bl
theorem info222 : (Try.prog.info? 101).map (fun i => (i.zero, i.size, i.bytes)) = some (some (.agg #[.bool false, .bool false, .slice none 0 0, .slice none 0 0, .bool false, .slice none 0 0, .slice none 0 0]), 7, 120) := by kernel_rfl
theorem bnd_made {w1 : World} {b g n : Nat} (h : w1.ownsRow b 101 7 (.slice (some ⟨g, 0, none⟩) n n) n (madeCells (Value.agg #[.bool false, .bool false, .slice none 0 0, .slice none 0 0, .bool false, .slice none 0 0, .slice none 0 0]).cells (n * 7)).toList) :
  BndR 101 w1 g n (fun _ => none) ∧ b ≤ g := by
 rcases h.2 with ⟨hv, _⟩ | ⟨g', cap, cur, hv, hb, hgg, _, _, hcs, ht⟩
 ·simp at hv
 ·simp only [Value.slice.injEq, Option.some.injEq, Addr.mk.injEq] at hv
  obtain ⟨⟨rfl, _⟩, _, rfl⟩ := hv
  refine ⟨⟨⟨_, hgg⟩, fun v hvn => ?_⟩, hb⟩
  have c : ∀ j, j < 7 → w1.cell? ⟨g, v * 7 + j, none⟩ = #[Value.bool false, .bool false, .slice none 0 0, .slice none 0 0, .bool false, .slice none 0 0, .slice none 0 0][j]? := fun j hj => by
   rw [cell_of_row w1 g _ _ _ _ hgg]
   have e := made_get (z := (Value.agg #[.bool false, .bool false, .slice none 0 0, .slice none 0 0, .bool false, .slice none 0 0, .slice none 0 0]).cells) (k := n) (sz := 7) (v := v) (j := j) rfl hj hvn
   rw [← ht, List.getElem?_take] at e
   have lt : v * 7 + j < n * 7 := by omega
   rw [if_pos lt] at e
   rw [← Array.getElem?_toList, e]
   rfl
  exact ⟨c 0 (by omega), Nw.zero, Nw.zero, c 1 (by omega), c 2 (by omega), c 3 (by omega), c 4 (by omega), c 5 (by omega), c 6 (by omega)⟩
def ints (a k : Nat) : List Value := (List.range k).map fun j => Value.int .i64 ((a + j : Nat) : Int)
def lnV (line : Nat → Nat) (n k : Nat) : List Value := (List.range k).map fun j => Value.slice (some ⟨line j, 0, none⟩) n n
theorem ints_succ (a k : Nat) : ints a (k + 1) = ints a k ++ [Value.int .i64 ((a + k : Nat) : Int)] := by simp [ints, List.range_succ]
theorem lnV_succ (line : Nat → Nat) (n k : Nat) : lnV line n (k + 1) = lnV line n k ++ [Value.slice (some ⟨line k, 0, none⟩) n n] := by simp [lnV, List.range_succ]
theorem lnV_congr {line line' : Nat → Nat} {n k : Nat} (h : ∀ j, j < k → line j = line' j) : lnV line n k = lnV line' n k := by
 unfold lnV
 refine List.map_congr_left fun j hj => ?_
 rw [h j (List.mem_range.1 hj)]
/-- Where things stand. -/
structure PtL where
 p : Nat
 low : Nat
 high : Nat
 now : Nat
 n : Nat
 N : Nat
 hb : Value
 hf : Value
 ht : Value
 bv : Value
 fv : Value
 tv : Value
 ib : Nat
 it : Nat
 nf : Nat
 nl : Nat
 line : Nat → Nat
 lo : Nat → Option V
 hi : Nat → Option V
 T : Nat → Nat → Rat
structure Pt (n0 : Nat) (w : World) (Z : PtL) : Prop where
 hd : w.heap[Z.p]? = some (.cells #[.int .i64 (Z.n : Int), .slice (some ⟨Z.low, 0, none⟩) Z.N Z.N, .slice (some ⟨Z.high, 0, none⟩) Z.N Z.N, .slice (some ⟨Z.now, 0, none⟩) Z.N Z.N, Z.hb, Z.hf, Z.ht] 98 (0, 0))
 lo : BndR 101 w Z.low Z.N Z.lo
 hi : BndR 101 w Z.high Z.N Z.hi
 no : NowR 76 w Z.now Z.N (fun _ => ⟨0, 0⟩)
 bo : Ow w n0 3 1 Z.bv Z.ib (ints Z.n Z.ib)
 fo : Ow w n0 3 1 Z.fv Z.nf (ints 0 Z.nf)
 to_ : Ow w n0 59 1 Z.tv Z.it (lnV Z.line Z.n Z.it)
 li : ∀ k, k < Z.nl → LineR w (Z.line k) Z.n (Z.T k)
 inj : ∀ k j, k < Z.nl → j < Z.nl → k ≠ j → Z.line k ≠ Z.line j
 lh : Z.low ≠ Z.high
 bf : ∀ g, Z.bv.ownBlock = some g → Z.fv.ownBlock ≠ some g
 ge : n0 ≤ Z.p ∧ n0 ≤ Z.low ∧ n0 ≤ Z.high ∧ n0 ≤ Z.now ∧ ∀ k, k < Z.nl → n0 ≤ Z.line k
variable {n0 : Nat} {w w' w1 : World} {Z : PtL}
theorem Pt.pb (h : Pt n0 w Z) : Blk w Z.p 98 := ⟨_, h.hd⟩
theorem Pt.below (h : Pt n0 w Z) (hb : Below w.heap.size w w') : Pt n0 w' Z := by
 have hl := Limb.of_below hb
 have B : ∀ {g ty : Nat}, Blk w g ty → w'.heap[g]? = w.heap[g]? := fun q => hb.block _ q.lt
 exact ⟨(B h.pb).trans h.hd, h.lo.keep (B h.lo.blk) hl, h.hi.keep (B h.hi.blk) hl, h.no.keep (B h.no.blk) hl, h.bo.below hb, h.fo.below hb, h.to_.below hb, fun k hk => (h.li k hk).keep (B (h.li k hk).blk) hl, h.inj, h.lh, h.bf, h.ge⟩
theorem Pt.drew (h : Pt n0 w Z) : Pt n0 w.drew Z := h.below (Below.refl _ _).drew
theorem Pt.head (h : Pt n0 w Z) : w.cell? ⟨Z.p, 0, none⟩ = some (.int .i64 (Z.n : Int)) ∧ w.cell? ⟨Z.p, 1, none⟩ = some (.slice (some ⟨Z.low, 0, none⟩) Z.N Z.N) ∧ w.cell? ⟨Z.p, 2, none⟩ = some (.slice (some ⟨Z.high, 0, none⟩) Z.N Z.N) ∧
  w.cell? ⟨Z.p, 3, none⟩ = some (.slice (some ⟨Z.now, 0, none⟩) Z.N Z.N) ∧ w.cell? ⟨Z.p, 4, none⟩ = some Z.hb ∧ w.cell? ⟨Z.p, 5, none⟩ = some Z.hf ∧ w.cell? ⟨Z.p, 6, none⟩ = some Z.ht ∧ ∀ i, w.frozen? ⟨Z.p, i, none⟩ = false := by
 refine ⟨?_, ?_, ?_, ?_, ?_, ?_, ?_, fun i => h.pb.free i⟩
 ·rw [cell_of_row w Z.p 0 _ _ _ h.hd]; rfl
 ·rw [cell_of_row w Z.p 1 _ _ _ h.hd]; rfl
 ·rw [cell_of_row w Z.p 2 _ _ _ h.hd]; rfl
 ·rw [cell_of_row w Z.p 3 _ _ _ h.hd]; rfl
 ·rw [cell_of_row w Z.p 4 _ _ _ h.hd]; rfl
 ·rw [cell_of_row w Z.p 5 _ _ _ h.hd]; rfl
 ·rw [cell_of_row w Z.p 6 _ _ _ h.hd]; rfl
/-- A row of its own grows. -/
theorem Pt.oth {base e size n : Nat} {v : Value} {xs : List Value} (o : Ow w base e size v n xs) (g : w.grownBy w1 v.ownBlock) {b ty : Nat} (hb : Blk w b ty) (hne : ty ≠ e) : w1.heap[b]? = w.heap[b]? :=
 g.block b hb.lt fun q => (hb.ne (o.blk q.symm) hne) rfl
theorem Ow.apart {base e size n : Nat} {v : Value} {xs : List Value} {base' e' size' n' : Nat} {v' : Value} {xs' : List Value} (o : Ow w base e size v n xs) (o' : Ow w base' e' size' v' n' xs') (hne : e' ≠ e) : v'.ownBlock = none ∨ v'.ownBlock ≠ v.ownBlock := by
 cases q : v'.ownBlock with
 | none => exact Or.inl rfl
 | some g => exact Or.inr fun r => (o'.blk q).ne (o.blk r.symm) hne rfl
theorem Pt.appB {bv' : Value} (h : Pt n0 w Z) (O : Ow w1 n0 3 1 bv' (Z.ib + 1) (ints Z.n (Z.ib + 1))) (G : w.grownBy w1 Z.bv.ownBlock) (hf : ∀ g, bv'.ownBlock = some g → Z.fv.ownBlock ≠ some g) : Pt n0 w1 { Z with bv := bv', ib := Z.ib + 1 } := by
 have hl := h.bo.limb G
 have B : ∀ {b ty : Nat}, Blk w b ty → ty ≠ 3 → w1.heap[b]? = w.heap[b]? := fun q hne => Pt.oth h.bo G q hne
 refine ⟨(B h.pb (by decide)).trans h.hd, h.lo.keep (B h.lo.blk (by decide)) hl, h.hi.keep (B h.hi.blk (by decide)) hl, h.no.keep (B h.no.blk (by decide)) hl, O, ?_, h.to_.kept G (Ow.apart h.bo h.to_ (by decide)), fun k hk => (h.li k hk).keep (B (h.li k hk).blk (by decide)) hl, h.inj, h.lh, hf, h.ge⟩
 refine h.fo.kept G ?_
 cases q : Z.fv.ownBlock with
 | none => exact Or.inl rfl
 | some g => exact Or.inr fun r => h.bf g r.symm q
theorem Pt.appF {fv' : Value} (h : Pt n0 w Z) (O : Ow w1 n0 3 1 fv' (Z.nf + 1) (ints 0 (Z.nf + 1))) (G : w.grownBy w1 Z.fv.ownBlock) (hf : Z.bv.ownBlock = none) : Pt n0 w1 { Z with fv := fv', nf := Z.nf + 1 } := by
 have hl := h.fo.limb G
 have B : ∀ {b ty : Nat}, Blk w b ty → ty ≠ 3 → w1.heap[b]? = w.heap[b]? := fun q hne => Pt.oth h.fo G q hne
 exact ⟨(B h.pb (by decide)).trans h.hd, h.lo.keep (B h.lo.blk (by decide)) hl, h.hi.keep (B h.hi.blk (by decide)) hl, h.no.keep (B h.no.blk (by decide)) hl, h.bo.kept G (Or.inl hf), O, h.to_.kept G (Ow.apart h.fo h.to_ (by decide)), fun k hk => (h.li k hk).keep (B (h.li k hk).blk (by decide)) hl, h.inj, h.lh, fun g q => by
  have q : Z.bv.ownBlock = some g := q
  rw [hf] at q; simp at q, h.ge⟩
theorem Pt.appT {tv' : Value} (h : Pt n0 w Z) (O : Ow w1 n0 59 1 tv' (Z.it + 1) (lnV Z.line Z.n (Z.it + 1))) (G : w.grownBy w1 Z.tv.ownBlock) : Pt n0 w1 { Z with tv := tv', it := Z.it + 1 } := by
 have hl := h.to_.limb G
 have B : ∀ {b ty : Nat}, Blk w b ty → ty ≠ 59 → w1.heap[b]? = w.heap[b]? := fun q hne => Pt.oth h.to_ G q hne
 exact ⟨(B h.pb (by decide)).trans h.hd, h.lo.keep (B h.lo.blk (by decide)) hl, h.hi.keep (B h.hi.blk (by decide)) hl, h.no.keep (B h.no.blk (by decide)) hl, h.bo.kept G (Ow.apart h.to_ h.bo (by decide)), h.fo.kept G (Ow.apart h.to_ h.fo (by decide)), O, fun k hk => (h.li k hk).keep (B (h.li k hk).blk (by decide)) hl, h.inj, h.lh, h.bf, h.ge⟩
/-- A new line. -/
theorem Pt.newLine {g : Nat} {f : Nat → Rat} (h : Pt n0 w Z) (hb : Below w.heap.size w w1) (hg : w.heap.size ≤ g) (hl : LineR w1 g Z.n f) (hn : n0 ≤ w.heap.size) (hit : Z.it ≤ Z.nl) : Pt n0 w1 { Z with nl := Z.nl + 1, line := fun k => if k = Z.nl then g else Z.line k, T := fun k => if k = Z.nl then f else Z.T k } := by
 have h1 := h.below hb
 have old : ∀ k, k < Z.nl → Z.line k < w.heap.size := fun k hk => (h.li k hk).blk.lt
 refine ⟨h1.hd, h1.lo, h1.hi, h1.no, h1.bo, h1.fo, ?_, fun k hk => ?_, fun k j hk hj hne => ?_, h1.lh, h1.bf, h1.ge.1, h1.ge.2.1, h1.ge.2.2.1, h1.ge.2.2.2.1, fun k hk => ?_⟩
 ·have e := lnV_congr (line := fun k => if k = Z.nl then g else Z.line k) (line' := Z.line) (n := Z.n) (k := Z.it) fun j hj => if_neg (by omega)
  show Ow w1 n0 59 1 Z.tv Z.it (lnV _ Z.n Z.it)
  rw [e]; exact h1.to_
 ·show LineR w1 (if k = Z.nl then g else Z.line k) Z.n (if k = Z.nl then f else Z.T k)
  by_cases e : k = Z.nl
  ·rw [if_pos e, if_pos e]; exact hl
  ·rw [if_neg e, if_neg e]
   have hk : k < Z.nl + 1 := hk
   exact h1.li k (by omega)
 ·show (if k = Z.nl then g else Z.line k) ≠ (if j = Z.nl then g else Z.line j)
  have hk : k < Z.nl + 1 := hk
  have hj : j < Z.nl + 1 := hj
  by_cases e : k = Z.nl
  ·rw [if_pos e, if_neg (by omega)]
   have := old j (by omega)
   omega
  ·rw [if_neg e]
   by_cases e2 : j = Z.nl
   ·rw [if_pos e2]
    have := old k (by omega)
    omega
   ·rw [if_neg e2]; exact h.inj k j (by omega) (by omega) hne
 ·show n0 ≤ (if k = Z.nl then g else Z.line k)
  have hk : k < Z.nl + 1 := hk
  by_cases e : k = Z.nl
  ·rw [if_pos e]; omega
  ·rw [if_neg e]; exact h.ge.2.2.2.2 k (by omega)
/-- Cells of the problem itself. -/
theorem Pt.hold (h : Pt n0 w Z) (e : ∀ b, b ≠ Z.p → w1.heap[b]? = w.heap[b]?) (hl : Limb w w1) {Z' : PtL} (hZ : Z' = { Z with hb := Z'.hb, hf := Z'.hf, ht := Z'.ht })
  (hd : w1.heap[Z'.p]? = some (.cells #[.int .i64 (Z'.n : Int), .slice (some ⟨Z'.low, 0, none⟩) Z'.N Z'.N, .slice (some ⟨Z'.high, 0, none⟩) Z'.N Z'.N, .slice (some ⟨Z'.now, 0, none⟩) Z'.N Z'.N, Z'.hb, Z'.hf, Z'.ht] 98 (0, 0))) (hs : w.heap.size = w1.heap.size) (ho : w1.os = w.os ∧ w1.tape = w.tape ∧ w1.output = w.output) : Pt n0 w1 Z' := by
 have B : ∀ {b ty : Nat}, Blk w b ty → ty ≠ 98 → w1.heap[b]? = w.heap[b]? := fun q hne => e _ (q.ne h.pb hne)
 have G : w.grownBy w1 (some Z.p) := ⟨ho.1, ho.2.1, ho.2.2, Nat.le_of_eq hs, fun k _ hk => e k fun q => hk (by rw [q])⟩
 have ap : ∀ {base ty size n : Nat} {v : Value} {xs : List Value}, Ow w base ty size v n xs → ty ≠ 98 → v.ownBlock = none ∨ v.ownBlock ≠ some Z.p := fun {base ty size n v xs} o hne => by
  cases q : v.ownBlock with
  | none => exact Or.inl rfl
  | some g => exact Or.inr fun r => (o.blk q).ne h.pb hne (Option.some.inj r)
 have F : Pt n0 w1 Z' := by
  refine ⟨hd, ?_, ?_, ?_, ?_, ?_, ?_, ?_, ?_, ?_, ?_, ?_⟩ <;> rw [hZ]
  ·exact h.lo.keep (B h.lo.blk (by decide)) hl
  ·exact h.hi.keep (B h.hi.blk (by decide)) hl
  ·exact h.no.keep (B h.no.blk (by decide)) hl
  ·exact h.bo.kept G (ap h.bo (by decide))
  ·exact h.fo.kept G (ap h.fo (by decide))
  ·exact h.to_.kept G (ap h.to_ (by decide))
  ·exact fun k hk => (h.li k hk).keep (B (h.li k hk).blk (by decide)) hl
  ·exact h.inj
  ·exact h.lh
  ·exact h.bf
  ·exact h.ge
 exact F
/-- An end of a range. -/
theorem BndR.set {g N v : Nat} {f : Nat → Option V} {M S : Nw} {x : V} (h : BndR 101 w g N f) (hv : v < N) (hw : Wr w w' g (v * 7) (.bool true :: (M.cs ++ S.cs))) (hl : Limb w w') (hm : RA w x.m M) (hs : RA w x.s S) : BndR 101 w' g N (fun j => if j = v then some x else f j) := by
 refine ⟨hw.blk _ _ h.blk, fun j hj => ?_⟩
 by_cases e : j = v
 ·subst e
  simp only [if_true]
  refine ⟨hw.new 0 (by simp [Nw.cs]), num_new ?_ ?_ ?_ hm hl, num_new ?_ ?_ ?_ hs hl⟩
  ·exact hw.new 1 (by simp [Nw.cs])
  ·exact hw.new 2 (by simp [Nw.cs])
  ·exact hw.new 3 (by simp [Nw.cs])
  ·exact hw.new 4 (by simp [Nw.cs])
  ·exact hw.new 5 (by simp [Nw.cs])
  ·exact hw.new 6 (by simp [Nw.cs])
 ·simp only [if_neg e]
  exact (h.at_ j hj).keep (fun i hi => hw.rest _ (by simp [Nw.cs]; omega)) hl
theorem BndC.notu {g o : Nat} {e : Option V} (h : BndC w g o e) (j : Nat) (hj : j < 7) (x : Int) : w.cell? ⟨g, o + j, none⟩ ≠ some (.int .u32 x) := by
 cases e with
 | none =>
  obtain ⟨a, M, S, b, c, d, e, f, i⟩ := h
  rcases j with _ | _ | _ | _ | _ | _ | _ | j
  ·rw [Nat.add_zero, a]; simp
  ·rw [show o + (0 + 1) = o + 1 from rfl, b]; simp
  ·rw [show o + (0 + 1 + 1) = o + 2 from rfl, c]; simp
  ·rw [show o + (0 + 1 + 1 + 1) = o + 3 from rfl, d]; simp
  ·rw [show o + (0 + 1 + 1 + 1 + 1) = o + 4 from rfl, e]; simp
  ·rw [show o + (0 + 1 + 1 + 1 + 1 + 1) = o + 5 from rfl, f]; simp
  ·rw [show o + (0 + 1 + 1 + 1 + 1 + 1 + 1) = o + 6 from rfl, i]; simp
  ·omega
 | some v =>
  cases j with
  | zero => rw [Nat.add_zero, h.1]; simp
  | succ j => have := h.2.notu j (by omega) x; rwa [show o + 1 + j = o + (j + 1) from by omega] at this
theorem BndR.limb {g N v : Nat} {f : Nat → Option V} {M S : Nw} (h : BndR 101 w g N f) (hv : v < N) (hw : Wr w w' g (v * 7) (.bool true :: (M.cs ++ S.cs))) : Limb w w' :=
 hw.limb fun j x hj => (h.at_ v hv).notu j (by simpa [Nw.cs] using hj) x
theorem Pt.setHi {v : Nat} {M S : Nw} {x : V} (h : Pt n0 w Z) (hv : v < Z.N) (hw : Wr w w' Z.high (v * 7) (.bool true :: (M.cs ++ S.cs))) (hm : RA w x.m M) (hs : RA w x.s S) (hsz : w.heap.size = w'.heap.size) (ho : w'.os = w.os ∧ w'.tape = w.tape ∧ w'.output = w.output) : Pt n0 w' { Z with hi := fun j => if j = v then some x else Z.hi j } := by
 have hl := h.hi.limb hv hw
 have B : ∀ {b ty : Nat}, Blk w b ty → ty ≠ 101 → w'.heap[b]? = w.heap[b]? := fun q hne => hw.oth _ (q.ne h.hi.blk hne)
 have G : w.grownBy w' (some Z.high) := ⟨ho.1, ho.2.1, ho.2.2, Nat.le_of_eq hsz, fun k _ hk => hw.oth k fun q => hk (by rw [q])⟩
 have ap : ∀ {base ty size n : Nat} {v : Value} {xs : List Value}, Ow w base ty size v n xs → ty ≠ 101 → v.ownBlock = none ∨ v.ownBlock ≠ some Z.high := fun {base ty size n v xs} o hne => by
  cases q : v.ownBlock with
  | none => exact Or.inl rfl
  | some g => exact Or.inr fun r => (o.blk q).ne h.hi.blk hne (Option.some.inj r)
 exact ⟨(B h.pb (by decide)).trans h.hd, h.lo.keep (hw.oth _ h.lh) hl, h.hi.set hv hw hl hm hs, h.no.keep (B h.no.blk (by decide)) hl, h.bo.kept G (ap h.bo (by decide)), h.fo.kept G (ap h.fo (by decide)), h.to_.kept G (ap h.to_ (by decide)), fun k hk => (h.li k hk).keep (B (h.li k hk).blk (by decide)) hl, h.inj, h.lh, h.bf, h.ge⟩
theorem Pt.setLo {v : Nat} {M S : Nw} {x : V} (h : Pt n0 w Z) (hv : v < Z.N) (hw : Wr w w' Z.low (v * 7) (.bool true :: (M.cs ++ S.cs))) (hm : RA w x.m M) (hs : RA w x.s S) (hsz : w.heap.size = w'.heap.size) (ho : w'.os = w.os ∧ w'.tape = w.tape ∧ w'.output = w.output) : Pt n0 w' { Z with lo := fun j => if j = v then some x else Z.lo j } := by
 have hl := h.lo.limb hv hw
 have B : ∀ {b ty : Nat}, Blk w b ty → ty ≠ 101 → w'.heap[b]? = w.heap[b]? := fun q hne => hw.oth _ (q.ne h.lo.blk hne)
 have G : w.grownBy w' (some Z.low) := ⟨ho.1, ho.2.1, ho.2.2, Nat.le_of_eq hsz, fun k _ hk => hw.oth k fun q => hk (by rw [q])⟩
 have ap : ∀ {base ty size n : Nat} {v : Value} {xs : List Value}, Ow w base ty size v n xs → ty ≠ 101 → v.ownBlock = none ∨ v.ownBlock ≠ some Z.low := fun {base ty size n v xs} o hne => by
  cases q : v.ownBlock with
  | none => exact Or.inl rfl
  | some g => exact Or.inr fun r => (o.blk q).ne h.lo.blk hne (Option.some.inj r)
 exact ⟨(B h.pb (by decide)).trans h.hd, h.lo.set hv hw hl hm hs, h.hi.keep (hw.oth _ h.lh.symm) hl, h.no.keep (B h.no.blk (by decide)) hl, h.bo.kept G (ap h.bo (by decide)), h.fo.kept G (ap h.fo (by decide)), h.to_.kept G (ap h.to_ (by decide)), fun k hk => (h.li k hk).keep (B (h.li k hk).blk (by decide)) hl, h.inj, h.lh, h.bf, h.ge⟩
end Go.Proofs.Ytijdglogadnbcaa
