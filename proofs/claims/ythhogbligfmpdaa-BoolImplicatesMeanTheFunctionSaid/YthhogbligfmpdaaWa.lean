/- The manager of nodes as it lies in memory: its maps, its row of nodes; what a step may turn. -/
import Derived.Test.YthhogbligfmpdaaProg
import Derived.WalkKit
import Derived.WalkSpells
import Derived.WalkLawsBesides
import Derived.Lib.Hide
import Derived.Maps.Own
import Derived.Maps.OwnSet
import Derived.Deep.AppendLies
import Derived.Test.YthhogbligfmpdaaPa
import Derived.Deep.QuietTactic
import Derived.BigQuiet
import Derived.StillTailTactics
import Derived.Deep.RegionLaw
set_option linter.unusedVariables false
set_option linter.unusedSimpArgs false
namespace Go.Proofs.Ythhogbligfmpdaa
open Go.RowKit Bd

def ndV (x : Nd) : Value := .agg #[.int .i64 x.1, .int .i64 x.2.1, .int .i64 x.2.2]
def inV (x : Int) : Value := .int .i64 x

theorem part3_0 (a b c : Int) (w : World) : (part 3 #[.int .i64 a, .int .i64 b, .int .i64 c] 0).run Try.prog w = .ok (.int .i64 a) w := by kernel_rfl
theorem part3_1 (a b c : Int) (w : World) : (part 3 #[.int .i64 a, .int .i64 b, .int .i64 c] 1).run Try.prog w = .ok (.int .i64 b) w := by kernel_rfl
theorem part3_2 (a b c : Int) (w : World) : (part 3 #[.int .i64 a, .int .i64 b, .int .i64 c] 2).run Try.prog w = .ok (.int .i64 c) w := by kernel_rfl
theorem stood77 : Try.prog.stoodInHeld 77 = false := by kernel_rfl
theorem fields77 : Try.prog.fieldsOf 77 = #[{ name := "Var", type := 3, offset := 0, embedded := false, tag := "", pkgPath := "", byteOffset := 0 },
        { name := "Low", type := 3, offset := 1, embedded := false, tag := "", pkgPath := "", byteOffset := 8 },
        { name := "High", type := 3, offset := 2, embedded := false, tag := "", pkgPath := "", byteOffset := 16 }] := by kernel_rfl

theorem run_eq77 (x y : Nd) (w : World) : (Op.equal 77 (ndV x) (ndV y)).run Try.prog w = .ok (x == y) w := by
  obtain ⟨a, b, c⟩ := x
  obtain ⟨a', b', c'⟩ := y
  show (Op.equalIn (9999 + 1) 77 _ _).run Try.prog w = _
  simp only [ndV]
  rw [run_equalIn_struct w 9999 77 _ _ (by rw [fields77]; exact Try.underlying77) stood77, fields77]
  have e : ∀ (p q : Int), (Op.equalIn 9999 3 (.int .i64 p) (.int .i64 q)).run Try.prog w = .ok (p == q) w := fun p q => run_equalIn_int w 9998 3 _ _ p q Try.underlying3
  dsimp only
  simp [Op.eqFields, part3_0, part3_1, part3_2, e]
  by_cases h1 : a = a' <;> by_cases h2 : b = b' <;> by_cases h3 : c = c' <;> simp [h1, h2, h3]

theorem run_eq115 (x y : Nd) (w : World) : (Op.equal 115 (ndV x) (ndV y)).run Try.prog w = .ok (x == y) w := by
  obtain ⟨a, b, c⟩ := x
  obtain ⟨a', b', c'⟩ := y
  obtain ⟨i, hi⟩ := Option.isSome_iff_exists.1 (show (Try.prog.info? 3).isSome = true by kernel_rfl)
  have hc : Try.prog.cellsOf 3 = 1 := by kernel_rfl
  show (Op.equalIn (9999 + 1) 115 _ _).run Try.prog w = _
  simp only [ndV]
  rw [run_equalIn_array w 9999 _ _ Try.underlying115 hi, hc]
  have e : ∀ (p q : Int), (Op.equalIn 9999 3 (.int .i64 p) (.int .i64 q)).run Try.prog w = .ok (p == q) w := fun p q => run_equalIn_int w 9998 3 _ _ p q Try.underlying3
  simp [List.range_succ, Op.eqItems, part3_0, part3_1, part3_2, e]
  by_cases h1 : a = a' <;> by_cases h2 : b = b' <;> by_cases h3 : c = c' <;> simp [h1, h2, h3]

theorem run_eq3 (x y : Int) (w : World) : (Op.equal 3 (inV x) (inV y)).run Try.prog w = .ok (x == y) w := run_equalIn_int w 9999 3 _ _ x y Try.underlying3

theorem run_check77 (x : Nd) (em : Bool) (w : World) : (Instr.checkKey em 10000 77 (ndV x)).run Try.prog w = .ok () w := by kernel_rfl
theorem run_check115 (x : Nd) (em : Bool) (w : World) : (Instr.checkKey em 10000 115 (ndV x)).run Try.prog w = .ok () w := by kernel_rfl
theorem run_check3 (x : Int) (em : Bool) (w : World) : (Instr.checkKey em 10000 3 (inV x)).run Try.prog w = .ok () w := by kernel_rfl
theorem zero3 (w : World) : (zeroValue 3).run Try.prog w = .ok (.int .i64 0) w := by kernel_rfl

/-- Block b is a map with these entries, in the order in which they came. -/
def mapIs {K : Type} (enc : K → Value) (w : World) (b : Nat) (l : List (K × Int)) : Prop :=
  ∃ es ck, w.heap[b]? = some (.map es ck) ∧ es.toList.map (fun e => (e.key, e.val)) = l.map (fun p => (enc p.1, Value.int .i64 p.2))

theorem mapIs.of_block {K : Type} {enc : K → Value} {w w' : World} {b : Nat} {l : List (K × Int)} (h : mapIs enc w b l) (hb : w'.heap[b]? = w.heap[b]?) : mapIs enc w' b l := by
  obtain ⟨es, ck, h1, h2⟩ := h
  exact ⟨es, ck, hb.trans h1, h2⟩

theorem run_findAsking_l {K : Type} [BEq K] {enc : K → Value} {kt : TypeId} (heq : ∀ x y w, (Op.equal kt (enc x) (enc y)).run Try.prog w = .ok (x == y) w) (w : World) (k : K) :
    ∀ (es : List MapEntry) (l : List (K × Int)) (i : Nat), es.map (fun e => (e.key, e.val)) = l.map (fun p => (enc p.1, Value.int .i64 p.2)) →
      ∃ r, (Instr.findAsking kt (enc k) es i).run Try.prog w = .ok r w ∧ (r.map (·.2)) = (l.lookup k).map (Value.int .i64)
  | [], l, i, h => by
    cases l with
    | nil => exact ⟨none, by simp [Instr.findAsking], rfl⟩
    | cons p l => simp at h
  | e :: es, l, i, h => by
    cases l with
    | nil => simp at h
    | cons p l =>
      simp only [List.map_cons, List.cons.injEq, Prod.mk.injEq] at h
      obtain ⟨⟨h1, h2⟩, h3⟩ := h
      obtain ⟨r, hr, hl⟩ := run_findAsking_l heq w k es l (i + 1) h3
      obtain ⟨pk, pv⟩ := p
      simp only [Instr.findAsking, Sem.run_bind, h1, heq, Result.andThen_ok, List.lookup_cons]
      cases hk : (k == pk)
      · exact ⟨r, by simpa using hr, by simpa using hl⟩
      · exact ⟨some (i, e.val), by simp, by simp [h2]⟩

theorem fk77 (x : Nd) (es : List MapEntry) (w : World) : (Instr.findKey 77 (ndV x) es).run Try.prog w = (Instr.findAsking 77 (ndV x) es).run Try.prog w := run_findKey_eq w (by rw [Try.underlying77]) _ es
theorem fk115 (x : Nd) (es : List MapEntry) (w : World) : (Instr.findKey 115 (ndV x) es).run Try.prog w = (Instr.findAsking 115 (ndV x) es).run Try.prog w := run_findKey_eq w (by rw [Try.underlying115]) _ es

theorem findNow_l (k : Int) : ∀ (es : List MapEntry) (l : List (Int × Int)) (i : Nat), es.map (fun e => (e.key, e.val)) = l.map (fun p => (inV p.1, Value.int .i64 p.2)) →
      ∃ r, Instr.findNow (.int .i64) (inV k) es i = some r ∧ (r.map (·.2)) = (l.lookup k).map (Value.int .i64)
  | [], l, i, h => by
    cases l with
    | nil => exact ⟨none, by simp [Instr.findNow], rfl⟩
    | cons p l => simp at h
  | e :: es, l, i, h => by
    cases l with
    | nil => simp at h
    | cons p l =>
      simp only [List.map_cons, List.cons.injEq, Prod.mk.injEq] at h
      obtain ⟨⟨h1, h2⟩, h3⟩ := h
      obtain ⟨r, hr, hl⟩ := findNow_l k es l (i + 1) h3
      obtain ⟨pk, pv⟩ := p
      simp only [inV] at h1 hr
      simp only [Instr.findNow, inV, h1, Instr.sameNow, if_true, List.lookup_cons]
      cases hk : (k == pk)
      · exact ⟨r, by simpa using hr, by simpa using hl⟩
      · exact ⟨some (i, e.val), by simp, by simp [h2]⟩

/-- A key's type with its law: it can be a key; how an entry is found. -/
structure KeyT {K : Type} [BEq K] (enc : K → Value) (kt : TypeId) : Prop where
  check : ∀ x em w, (Instr.checkKey em 10000 kt (enc x)).run Try.prog w = .ok () w
  find : ∀ (w : World) (k : K) (es : List MapEntry) (l : List (K × Int)), es.map (fun e => (e.key, e.val)) = l.map (fun p => (enc p.1, Value.int .i64 p.2)) →
    ∃ r, (Instr.findKey kt (enc k) es).run Try.prog w = .ok r w ∧ (r.map (·.2)) = (l.lookup k).map (Value.int .i64)

theorem key77 : KeyT ndV 77 := ⟨run_check77, fun w k es l h => by rw [fk77]; exact run_findAsking_l run_eq77 w k es l 0 h⟩
theorem key115 : KeyT ndV 115 := ⟨run_check115, fun w k es l h => by rw [fk115]; exact run_findAsking_l run_eq115 w k es l 0 h⟩
theorem key3 : KeyT inV 3 := ⟨run_check3, fun w k es l h => by
  obtain ⟨r, hr, hl⟩ := findNow_l k es l 0 h
  exact ⟨r, MapKept.run_findKey Try.underlying3 hr, hl⟩⟩

/-- 'v, ok := m[k]'. -/
theorem mapIs.look {K : Type} [BEq K] {enc : K → Value} {kt mt : TypeId} (T : KeyT enc kt) (hm : Try.prog.underlying mt = some (.map kt 3)) {w : World} {b : Nat} {l : List (K × Int)} (h : mapIs enc w b l) (k : K) :
    (Instr.lookup mt (.map (some b)) (enc k) true).run Try.prog w = .ok (.tuple #[.int .i64 ((l.lookup k).getD 0), .bool (l.lookup k).isSome]) w := by
  obtain ⟨es, ck, h1, h2⟩ := h
  obtain ⟨r, hr, hl⟩ := T.find w k es.toList l h2
  cases hk : l.lookup k with
  | none =>
    rw [hk] at hl
    have : r = none := by simpa using hl
    subst this
    simp [Instr.lookup, run_underlying hm, MapKept.run_getObj_map h1, T.check, hr, Result.andThen]
  | some n =>
    rw [hk] at hl
    obtain ⟨⟨j, u⟩, rfl, hu⟩ : ∃ p, r = some p ∧ p.2 = Value.int .i64 n := by simpa using hl
    simp only at hu
    subst hu
    simp [Instr.lookup, run_underlying hm, MapKept.run_getObj_map h1, T.check, hr, Result.andThen]

/-- 'm[k]'. -/
theorem mapIs.look1 {K : Type} [BEq K] {enc : K → Value} {kt mt : TypeId} (T : KeyT enc kt) (hm : Try.prog.underlying mt = some (.map kt 3)) {w : World} {b : Nat} {l : List (K × Int)} (h : mapIs enc w b l) (k : K) :
    (Instr.lookup mt (.map (some b)) (enc k) false).run Try.prog w = .ok (.int .i64 ((l.lookup k).getD 0)) w := by
  obtain ⟨es, ck, h1, h2⟩ := h
  obtain ⟨r, hr, hl⟩ := T.find w k es.toList l h2
  cases hk : l.lookup k with
  | none =>
    rw [hk] at hl
    have : r = none := by simpa using hl
    subst this
    simp [Instr.lookup, run_underlying hm, MapKept.run_getObj_map h1, T.check, hr, Result.andThen]
  | some n =>
    rw [hk] at hl
    obtain ⟨⟨j, u⟩, rfl, hu⟩ : ∃ p, r = some p ∧ p.2 = Value.int .i64 n := by simpa using hl
    simp only at hu
    subst hu
    simp [Instr.lookup, run_underlying hm, MapKept.run_getObj_map h1, T.check, hr, Result.andThen]

theorem heap_set_same {h : Array Obj} {b : Nat} {o o' : Obj} (hb : h[b]? = some o) : (h.setIfInBounds b o')[b]? = some o' := by
  have : b < h.size := by
    rcases Nat.lt_or_ge b h.size with h' | h'
    · exact h'
    · rw [Array.getElem?_eq_none h'] at hb; simp at hb
  simp [this]

/-- 'm[k] = n' at a key that is not there. -/
theorem mapIs.store {K : Type} [BEq K] {enc : K → Value} {kt mt : TypeId} (T : KeyT enc kt) (hm : Try.prog.underlying mt = some (.map kt 3)) {w : World} {b : Nat} {l : List (K × Int)} (h : mapIs enc w b l) (k : K) (n : Int) (hk : l.lookup k = none) :
    ∃ o, (Instr.mapUpdate mt (.map (some b)) (enc k) (.int .i64 n)).run Try.prog w = .ok () (ChangeMaps.setBlock w b o) ∧ mapIs enc (ChangeMaps.setBlock w b o) b (l ++ [(k, n)]) := by
  obtain ⟨es, ck, h1, h2⟩ := h
  obtain ⟨r, hr, hl⟩ := T.find w k es.toList l h2
  rw [hk] at hl
  have : r = none := by simpa using hl
  subst this
  refine ⟨.map (es.push { key := enc k, val := .int .i64 n, born := ck }) (ck + 1), ?_, ?_⟩
  · simp [Instr.mapUpdate, run_underlying hm, MapKept.run_getObj_map h1, T.check, hr, MapKept.run_setObj_map _ h1, Result.andThen, ChangeMaps.setBlock]
  · refine ⟨_, _, heap_set_same h1, ?_⟩
    simp [h2]


theorem setBlock_other {w : World} {b k : Nat} {o : Obj} (h : k ≠ b) : (ChangeMaps.setBlock w b o).heap[k]? = w.heap[k]? := by
  simp only [ChangeMaps.setBlock, Array.getElem?_setIfInBounds]
  rw [if_neg (by omega)]

/-- 'm[k] = n' at the operation. -/
theorem wpList_mapIs_store {K : Type} [BEq K] {enc : K → Value} {kt mt : TypeId} (T : KeyT enc kt) (hm : Try.prog.underlying mt = some (.map kt 3)) (w : World) {ops : Array Oper} {rest : List Oper} {o : Oper} {a : Act} {Q : Exit → Act → World → Prop}
    (hg : o.guard = none) (m x v : Operand) (hop : o.op = Op.mapUpdate mt m x v) (b : Nat) (l : List (K × Int)) (k : K) (n : Int)
    (hmv : a.eval m = .map (some b)) (hx : a.eval x = enc k) (hv : a.eval v = .int .i64 n) (h : mapIs enc w b l) (hk : l.lookup k = none)
    (hK : ∀ ob, mapIs enc (ChangeMaps.setBlock w b ob) b (l ++ [(k, n)]) → wpList Try.prog ops Q rest (a.put o.dst undef) (ChangeMaps.setBlock w b ob)) :
    wpList Try.prog ops Q (o :: rest) a w := by
  refine wpList_plain hg fun K' hK' => ?_
  obtain ⟨ob, hrun, r1⟩ := h.store T hm k n hk
  unfold Oper.wp
  simp [execOp, hop, hmv, hx, hv, hrun, Result.andThen]
  exact hK' _ _ (hK ob r1)

end Go.Proofs.Ythhogbligfmpdaa

/- The manager of nodes in memory; its methods top, split and node. -/
namespace Go.Proofs.Ythhogbligfmpdaa
open Go.RowKit Bd

def nsC (ns : List Nd) : List Value := ns.flatMap fun x => [.int .i64 x.1, .int .i64 x.2.1, .int .i64 x.2.2]

theorem nsC_length (ns : List Nd) : (nsC ns).length = ns.length * 3 := by
  induction ns with
  | nil => rfl
  | cons x l ih => simp only [nsC, List.flatMap_cons, List.length_append, List.length_cons, List.length_nil] at *; omega

theorem nsC_append (a b : List Nd) : nsC (a ++ b) = nsC a ++ nsC b := by simp [nsC]

theorem nsC_at : ∀ (ns : List Nd) (i : Nat), i < ns.length → (nsC ns)[i * 3]? = some (.int .i64 (nd ns i).1) ∧ (nsC ns)[i * 3 + 1]? = some (.int .i64 (nd ns i).2.1) ∧ (nsC ns)[i * 3 + 2]? = some (.int .i64 (nd ns i).2.2)
  | [], i, h => by simp at h
  | x :: l, 0, _ => by simp [nsC, nd]
  | x :: l, i + 1, h => by
    have ih := nsC_at l i (by simpa using h)
    have e : nsC (x :: l) = [.int .i64 x.1, .int .i64 x.2.1, .int .i64 x.2.2] ++ nsC l := by simp [nsC]
    have e2 : nd (x :: l) ((i + 1 : Nat) : Int) = nd l i := by simp [nd]
    rw [e, e2]
    refine ⟨?_, ?_, ?_⟩
    · rw [List.getElem?_append_right (by simp; omega)]; simpa [show (i + 1) * 3 - 3 = i * 3 from by omega] using ih.1
    · rw [List.getElem?_append_right (by simp; omega)]; simpa [show (i + 1) * 3 + 1 - 3 = i * 3 + 1 from by omega] using ih.2.1
    · rw [List.getElem?_append_right (by simp; omega)]; simpa [show (i + 1) * 3 + 2 - 3 = i * 3 + 2 from by omega] using ih.2.2

/-- Where a manager lies: its cells, its two maps, the slice of its nodes. -/
structure ML where
  b : Nat
  bi : Nat
  bd : Nat
  v : Value

def ML.foot (M : ML) (k : Nat) : Prop := k = M.b ∨ k = M.bi ∨ k = M.bd ∨ M.v.ownBlock = some k

def idxL (ns : List Nd) : List (Nd × Int) := ns.zipIdx.map fun p => (p.1, (p.2 : Int))

structure Mgr (w : World) (M : ML) (ns : List Nd) (dn : List (Nd × Int)) : Prop where
  cel : w.heap[M.b]? = some (.cells #[M.v, .map (some M.bi), .map (some M.bd)] 103 (0, 0))
  row : w.ownsRow 0 77 3 M.v ns.length (nsC ns)
  idx : mapIs ndV w M.bi (idxL ns)
  don : mapIs ndV w M.bd dn
  ne : M.bi ≠ M.bd

theorem Mgr.of_blocks {w w' : World} {M : ML} {ns : List Nd} {dn : List (Nd × Int)} (h : Mgr w M ns dn) (hb : ∀ k, M.foot k → w'.heap[k]? = w.heap[k]?) : Mgr w' M ns dn := by
  refine ⟨(hb _ (Or.inl rfl)).trans h.cel, ?_, h.idx.of_block (hb _ (Or.inr (Or.inl rfl))), h.don.of_block (hb _ (Or.inr (Or.inr (Or.inl rfl)))), h.ne⟩
  refine ⟨h.row.1, ?_⟩
  rcases h.row.2 with h2 | ⟨g, cap, cur, hv, r0, hg, r⟩
  · exact Or.inl h2
  · exact Or.inr ⟨g, cap, cur, hv, r0, (hb g (Or.inr (Or.inr (Or.inr (by rw [hv]; rfl))))).trans hg, r⟩

theorem lt_of_some {w : World} {k : Nat} {o : Obj} (h : w.heap[k]? = some o) : k < w.heap.size := by
  rcases Nat.lt_or_ge k w.heap.size with h' | h'
  · exact h'
  · rw [Array.getElem?_eq_none h'] at h; simp at h

theorem Mgr.lt {w : World} {M : ML} {ns : List Nd} {dn : List (Nd × Int)} (h : Mgr w M ns dn) {k : Nat} (hk : M.foot k) : k < w.heap.size := by
  rcases hk with rfl | rfl | rfl | hk
  · exact lt_of_some h.cel
  · obtain ⟨_, _, h1, _⟩ := h.idx; exact lt_of_some h1
  · obtain ⟨_, _, h1, _⟩ := h.don; exact lt_of_some h1
  · exact (h.row.lt k hk).2

theorem Mgr.alloc {w : World} {M : ML} {ns : List Nd} {dn : List (Nd × Int)} (h : Mgr w M ns dn) (o : Obj) : Mgr (w.alloc o) M ns dn :=
  h.of_blocks fun k hk => Below.heap_alloc w o k (h.lt hk)
theorem Mgr.drew {w : World} {M : ML} {ns : List Nd} {dn : List (Nd × Int)} (h : Mgr w M ns dn) : Mgr w.drew M ns dn := h.of_blocks fun _ _ => rfl
theorem Mgr.drewN {w : World} {M : ML} {ns : List Nd} {dn : List (Nd × Int)} (h : Mgr w M ns dn) (n : Nat) : Mgr (w.drewN n) M ns dn := h.of_blocks fun _ _ => rfl

/-- The slice of the nodes. -/
theorem Mgr.sl {w : World} {M : ML} {ns : List Nd} {dn : List (Nd × Int)} (h : Mgr w M ns dn) : ∃ a cap, M.v = .slice a ns.length cap := by
  rcases h.row.2 with ⟨h1, h2⟩ | ⟨g, cap, cur, hv, _⟩
  · exact ⟨none, 0, by rw [h1, h2]⟩
  · exact ⟨_, cap, hv⟩

theorem Mgr.at {w : World} {M : ML} {ns : List Nd} {dn : List (Nd × Int)} (h : Mgr w M ns dn) {i : Nat} (hi : i < ns.length) : ∃ g cap, M.v = .slice (some ⟨g, 0, none⟩) ns.length cap ∧
    w.cell? ⟨g, i * 3, none⟩ = some (.int .i64 (nd ns i).1) ∧ w.cell? ⟨g, i * 3 + 1, none⟩ = some (.int .i64 (nd ns i).2.1) ∧ w.cell? ⟨g, i * 3 + 2, none⟩ = some (.int .i64 (nd ns i).2.2) := by
  have hr := h.row
  rcases h.row.2 with ⟨h1, h2⟩ | ⟨g, cap, cur, hv, _⟩
  · omega
  · rw [hv] at hr
    have hn := nsC_at ns i hi
    refine ⟨g, cap, hv, ?_, ?_, ?_⟩
    · rw [hr.cellAt _ (by omega)]; exact hn.1
    · rw [hr.cellAt _ (by omega)]; exact hn.2.1
    · rw [hr.cellAt _ (by omega)]; exact hn.2.2

theorem Mgr.c0 {w : World} {M : ML} {ns : List Nd} {dn : List (Nd × Int)} (h : Mgr w M ns dn) : w.cell? ⟨M.b, 0, none⟩ = some M.v := by simp [World.cell?, h.cel]
theorem Mgr.c1 {w : World} {M : ML} {ns : List Nd} {dn : List (Nd × Int)} (h : Mgr w M ns dn) : w.cell? ⟨M.b, 1, none⟩ = some (.map (some M.bi)) := by simp [World.cell?, h.cel]
theorem Mgr.c2 {w : World} {M : ML} {ns : List Nd} {dn : List (Nd × Int)} (h : Mgr w M ns dn) : w.cell? ⟨M.b, 2, none⟩ = some (.map (some M.bd)) := by simp [World.cell?, h.cel]

set_option maxHeartbeats 400000 in
theorem top_neg_any (r : Int) (b : Nat) (w : World) (hr : r < 0) :
    Calls Try.prog 90 #[.pointer (some ⟨b, 0, none⟩), .int .i64 r] w fun e w' => e = .returned (.int .i64 16) ∧ w = w' := by
  go_enter Try.func90, Try.ntmps90
  go_wp2
  go_ret
  exact ⟨rfl, rfl⟩

set_option maxHeartbeats 400000 in
theorem top_pos_any (i n g cap b : Nat) (v : Int) (w : World) (hi : i < n) (hm : n ≤ 9223372036854775807) (h0 : w.cell? ⟨b, 0, none⟩ = some (.slice (some ⟨g, 0, none⟩) n cap)) (h1 : w.cell? ⟨g, i * 3, none⟩ = some (.int .i64 v)) :
    Calls Try.prog 90 #[.pointer (some ⟨b, 0, none⟩), .int .i64 i] w fun e w' => e = .returned (.int .i64 v) ∧ w = w' := by
  go_enter Try.func90, Try.ntmps90
  go_wp2
  go_ret
  exact ⟨rfl, rfl⟩

theorem top_any {w : World} {M : ML} {ns : List Nd} {dn : List (Nd × Int)} (h : Mgr w M ns dn) (hm : ns.length ≤ 9223372036854775807) {r : Int} (hr : Ref ns r) :
    Calls Try.prog 90 #[.pointer (some ⟨M.b, 0, none⟩), .int .i64 r] w fun e w' => e = .returned (.int .i64 (top ns r)) ∧ w = w' := by
  by_cases h0 : r < 0
  · rw [top_neg h0]; exact top_neg_any r M.b w h0
  · obtain ⟨i, rfl⟩ := Int.eq_ofNat_of_zero_le (by omega : 0 ≤ r)
    have hi : i < ns.length := by have := hr.2; omega
    obtain ⟨g, cap, hv, c0, c1, c2⟩ := h.at hi
    have hc := h.c0
    rw [hv] at hc
    rw [top_nat]
    exact top_pos_any i ns.length g cap M.b _ w hi hm hc c0

set_option maxHeartbeats 400000 in
theorem split_any {w : World} {M : ML} {ns : List Nd} {dn : List (Nd × Int)} (h : Mgr w M ns dn) (hm : ns.length ≤ 9223372036854775807) {r v : Int} (hr : Ref ns r) (h16 : v < 16) :
    Calls Try.prog 98 #[.pointer (some ⟨M.b, 0, none⟩), .int .i64 r, .int .i64 v] w fun e w' => e = .returned (.tuple #[.int .i64 (spl0 ns r v), .int .i64 (spl1 ns r v)]) ∧ ∃ q, w' = w.drewN q := by
  have hT := top_any h hm hr
  unfold spl0 spl1
  by_cases e : top ns r = v
  · have h0 : 0 ≤ r := by
      by_cases h0 : r < 0
      · rw [top_neg h0] at e; omega
      · omega
    rw [if_pos e, if_pos e]
    obtain ⟨i, rfl⟩ := Int.eq_ofNat_of_zero_le h0
    have hi : i < ns.length := by have := hr.2; omega
    obtain ⟨g, cap, hv, c0, c1, c2⟩ := h.at hi
    have hc := h.c0
    rw [hv] at hc
    have hb : (top ns i != v) = false := by rw [bne_eq_false_iff_eq]; exact e
    have HT := Lib.hid hT; clear hT
    have HE := Lib.hid e; clear e
    unfold lo Bd.hi
    generalize (nd ns i).2.1 = l at *
    generalize (nd ns i).2.2 = u at *
    generalize top ns i = tp at *
    go_enter Try.func98, Try.ntmps98
    go_wp2_with fail
    refine HT.out.mono ?_
    rintro e w' ⟨rfl, rfl⟩
    go_wp2_with fail
    go_quiet (fail)
    go_wp2
    go_ret2
    exact ⟨rfl, _, rfl⟩
  · rw [if_neg e, if_neg e]
    have hb : (top ns r != v) = true := by simpa using e
    have HT := Lib.hid hT; clear hT
    have HE := Lib.hid e; clear e
    generalize top ns r = tp at *
    go_enter Try.func98, Try.ntmps98
    go_wp2_with fail
    refine HT.out.mono ?_
    rintro e w' ⟨rfl, rfl⟩
    go_wp2_with fail
    go_ret2
    exact ⟨rfl, 0, rfl⟩


theorem look_zip (x : Nd) : ∀ (ns : List Nd) (k : Nat), ((ns.zipIdx k).map fun p => (p.1, (p.2 : Int))).lookup x = (ns.findIdx? (· == x)).map fun i => ((i + k : Nat) : Int)
  | [], k => by simp
  | y :: l, k => by
    have ih := look_zip x l (k + 1)
    simp only [List.zipIdx_cons, List.map_cons, List.lookup_cons, List.findIdx?_cons]
    have hc : (x == y) = (y == x) := by rw [Bool.eq_iff_iff, beq_iff_eq, beq_iff_eq]; exact ⟨Eq.symm, Eq.symm⟩
    rw [hc]
    cases hxy : (y == x)
    · simp only [ih, Bool.false_eq_true, if_false, Option.map_map]
      cases l.findIdx? (· == x) with
      | none => rfl
      | some i => simp; omega
    · simp

theorem look_idxL (x : Nd) (ns : List Nd) : (idxL ns).lookup x = (ns.findIdx? (· == x)).map fun i : Nat => (i : Int) := by
  exact look_zip x ns 0

theorem idxL_push (ns : List Nd) (x : Nd) : idxL (ns ++ [x]) = idxL ns ++ [(x, (ns.length : Int))] := by
  simp [idxL, List.zipIdx_append]

/-- What a step of the manager may turn: its own blocks; its row of nodes may move to a new block. -/
structure Step (w : World) (M : ML) (w' : World) (M' : ML) : Prop where
  b : M'.b = M.b
  bi : M'.bi = M.bi
  bd : M'.bd = M.bd
  os : w'.os = w.os
  tape : w'.tape = w.tape
  output : w'.output = w.output
  size : w.heap.size ≤ w'.heap.size
  keep : ∀ k, k < w.heap.size → ¬ M.foot k → w'.heap[k]? = w.heap[k]?
  loc : ∀ g, M'.v.ownBlock = some g → M.v.ownBlock = some g ∨ w.heap.size ≤ g

theorem Step.refl (w : World) (M : ML) : Step w M w M := ⟨rfl, rfl, rfl, rfl, rfl, rfl, Nat.le_refl _, fun _ _ _ => rfl, fun _ h => Or.inl h⟩

theorem Step.trans {w w1 w2 : World} {M M1 M2 : ML} (h : Step w M w1 M1) (k : Step w1 M1 w2 M2) : Step w M w2 M2 := by
  refine ⟨k.b.trans h.b, k.bi.trans h.bi, k.bd.trans h.bd, k.os.trans h.os, k.tape.trans h.tape, k.output.trans h.output, Nat.le_trans h.size k.size, ?_, ?_⟩
  · intro j hj hf
    rw [k.keep j (Nat.lt_of_lt_of_le hj h.size) ?_, h.keep j hj hf]
    rintro (e | e | e | e)
    · exact hf (Or.inl (e.trans h.b))
    · exact hf (Or.inr (Or.inl (e.trans h.bi)))
    · exact hf (Or.inr (Or.inr (Or.inl (e.trans h.bd))))
    · rcases h.loc j e with e' | e'
      · exact hf (Or.inr (Or.inr (Or.inr e')))
      · omega
  · intro g hg
    rcases k.loc g hg with e | e
    · exact h.loc g e
    · exact Or.inr (Nat.le_trans h.size e)

theorem Step.alloc (w : World) (M : ML) (o : Obj) : Step w M (w.alloc o) M := ⟨rfl, rfl, rfl, rfl, rfl, rfl, by simp, fun k hk _ => Below.heap_alloc w o k hk, fun _ h => Or.inl h⟩
theorem Step.drewN (w : World) (M : ML) (n : Nat) : Step w M (w.drewN n) M := ⟨rfl, rfl, rfl, rfl, rfl, rfl, Nat.le_refl _, fun _ _ _ => rfl, fun _ h => Or.inl h⟩
theorem Step.drew (w : World) (M : ML) : Step w M w.drew M := ⟨rfl, rfl, rfl, rfl, rfl, rfl, Nat.le_refl _, fun _ _ _ => rfl, fun _ h => Or.inl h⟩

/-- What 'node' comes to. -/
def NodePost (w : World) (M : ML) (dn : List (Nd × Int)) (ns' : List Nd) (r : Int) (e : Ending) (w' : World) : Prop :=
  e = .returned (.int .i64 r) ∧ ∃ v', Mgr w' { M with v := v' } ns' dn ∧ Step w M w' { M with v := v' }

set_option maxHeartbeats 400000 in
theorem node_same {w : World} {M : ML} {ns : List Nd} {dn : List (Nd × Int)} (h : Mgr w M ns dn) (v l : Int) :
    Calls Try.prog 80 #[.pointer (some ⟨M.b, 0, none⟩), .int .i64 v, .int .i64 l, .int .i64 l] w (NodePost w M dn ns l) := by
  go_enter Try.func80, Try.ntmps80
  go_wp2
  go_ret
  exact ⟨rfl, M.v, h, Step.refl _ _⟩

set_option maxHeartbeats 400000 in
theorem node_known {w : World} {M : ML} {ns : List Nd} {dn : List (Nd × Int)} (h : Mgr w M ns dn) (v l u : Int) (hne : (l == u) = false) (i : Nat) (hi : ns.findIdx? (· == (v, l, u)) = some i) :
    Calls Try.prog 80 #[.pointer (some ⟨M.b, 0, none⟩), .int .i64 v, .int .i64 l, .int .i64 u] w (NodePost w M dn ns i) := by
  have hc := h.c1
  have hlt := h.lt (Or.inl rfl)
  have hl : ∀ q, (Instr.lookup 100 (.map (some M.bi)) (.agg #[.int .i64 v, .int .i64 l, .int .i64 u]) true).run Try.prog ((w.alloc (.cells #[.int .i64 v, .int .i64 l, .int .i64 u] 77)).drewN q) = .ok (.tuple #[.int .i64 i, .bool true]) ((w.alloc (.cells #[.int .i64 v, .int .i64 l, .int .i64 u] 77)).drewN q) := by
    intro q
    have := ((h.alloc (.cells #[.int .i64 v, .int .i64 l, .int .i64 u] 77)).drewN q).idx.look key77 Try.underlying100 (v, l, u)
    rw [look_idxL, hi] at this
    exact this
  have H := Lib.hid h; clear h
  have HI := Lib.hid hi; clear hi
  go_enter Try.func80, Try.ntmps80
  go_wp2_with fail
  go_quiet (fail)
  go_wp2
  go_ret
  exact ⟨rfl, M.v, (H.out.alloc _).drewN _, (Step.alloc _ _ _).trans (Step.drewN _ _ _)⟩


end Go.Proofs.Ythhogbligfmpdaa

/- The method node where the node is new. -/
namespace Go.Proofs.Ythhogbligfmpdaa
open Go.RowKit Bd

theorem Mgr.row_block {w : World} {M : ML} {ns : List Nd} {dn : List (Nd × Int)} (h : Mgr w M ns dn) {g : Nat} (hg : M.v.ownBlock = some g) : ∃ cur, w.heap[g]? = some (.cells cur 77 (0, 0)) := by
  rcases h.row.2 with ⟨h1, _⟩ | ⟨g', cap, cur, hv, _, hb, _⟩
  · rw [h1] at hg; simp [Value.ownBlock] at hg
  · rw [hv] at hg
    simp only [Value.ownBlock, Option.some.injEq] at hg
    subst hg
    exact ⟨cur, hb⟩

theorem Mgr.apart {w : World} {M : ML} {ns : List Nd} {dn : List (Nd × Int)} (h : Mgr w M ns dn) : M.v.ownBlock ≠ some M.b ∧ M.v.ownBlock ≠ some M.bi ∧ M.v.ownBlock ≠ some M.bd ∧ M.b ≠ M.bi ∧ M.b ≠ M.bd := by
  have hc := h.cel
  obtain ⟨_, _, hi, _⟩ := h.idx
  obtain ⟨_, _, hd, _⟩ := h.don
  refine ⟨fun e => ?_, fun e => ?_, fun e => ?_, fun e => ?_, fun e => ?_⟩
  · obtain ⟨cur, hr⟩ := h.row_block e; rw [hc] at hr; simp at hr
  · obtain ⟨cur, hr⟩ := h.row_block e; rw [hi] at hr; simp at hr
  · obtain ⟨cur, hr⟩ := h.row_block e; rw [hd] at hr; simp at hr
  · rw [e, hi] at hc; simp at hc
  · rw [e, hd] at hc; simp at hc

/-- The manager's cells behind the append to its row. -/
theorem Mgr.cel_grown {w w2 : World} {M : ML} {ns : List Nd} {dn : List (Nd × Int)} (h : Mgr w M ns dn) {o : Obj} (hg : ((w.alloc o).drew).grownBy w2 M.v.ownBlock) :
    w2.heap[M.b]? = some (.cells #[M.v, .map (some M.bi), .map (some M.bd)] 103 (0, 0)) := by
  have hlt := h.lt (Or.inl rfl)
  rw [hg.block M.b (by simp; omega) (fun e => h.apart.1 e.symm)]
  exact (Below.heap_alloc w o M.b hlt).trans h.cel

theorem setCell_block {w : World} {a : Addr} {u : Value} {c : Array Value} {t : TypeId} {f : Nat × Nat} (h : w.heap[a.block]? = some (.cells c t f)) (hs : a.spot = none) : (w.setCell a u).heap[a.block]? = some (.cells (c.setIfInBounds a.off u) t f) := by
  simp [World.setCell, Array.getElem?_modify, h, hs]

/-- The manager behind the append and the store of the slice; the node is not among the keys yet. -/
theorem mgr_pushed {w w2 : World} {M : ML} {ns : List Nd} {dn : List (Nd × Int)} {x : Nd} {o : Obj} {gg cap1 : Nat} (h : Mgr w M ns dn) (hg : ((w.alloc o).drew).grownBy w2 M.v.ownBlock)
    (hown : w2.ownsRow 0 77 3 (.slice (some ⟨gg, 0, none⟩) (ns.length + 1) cap1) (ns.length + 1) (nsC ns ++ [.int .i64 x.1, .int .i64 x.2.1, .int .i64 x.2.2])) (hat : M.v.ownBlock = some gg ∨ gg = w.heap.size + 1) :
    let w3 := w2.setCell ⟨M.b, 0, none⟩ (.slice (some ⟨gg, 0, none⟩) (ns.length + 1) cap1)
    let M' : ML := { M with v := .slice (some ⟨gg, 0, none⟩) (ns.length + 1) cap1 }
    w3.heap[M.b]? = some (.cells #[M'.v, .map (some M.bi), .map (some M.bd)] 103 (0, 0)) ∧ w3.ownsRow 0 77 3 M'.v (ns ++ [x]).length (nsC (ns ++ [x])) ∧ mapIs ndV w3 M.bi (idxL ns) ∧ mapIs ndV w3 M.bd dn ∧ Step w M w3 M' := by
  intro w3 M'
  have hlt := h.lt (Or.inl rfl)
  have hsz := hg.size
  simp at hsz
  have hcel := h.cel_grown hg
  have hap := h.apart
  have hne : gg ≠ M.b := by
    rcases hat with e | e
    · intro e2; subst e2; exact hap.1 e
    · omega
  have oth : ∀ k, k ≠ M.b → w3.heap[k]? = w2.heap[k]? := fun k hk => Below.heap_setCell _ _ _ _ hk
  have old : ∀ k, k < w.heap.size → k ≠ M.b → M.v.ownBlock ≠ some k → w3.heap[k]? = w.heap[k]? := by
    intro k hk hkb hkr
    rw [oth k hkb, hg.block k (by simp; omega) (fun e => hkr e.symm)]
    exact Below.heap_alloc w o k hk
  refine ⟨?_, ?_, ?_, ?_, ?_⟩
  · have := setCell_block (w := w2) (a := ⟨M.b, 0, none⟩) (u := M'.v) hcel rfl
    simpa using this
  · have e1 : nsC (ns ++ [x]) = nsC ns ++ [.int .i64 x.1, .int .i64 x.2.1, .int .i64 x.2.2] := by rw [nsC_append]; rfl
    rw [e1, List.length_append]
    refine ⟨hown.1, ?_⟩
    rcases hown.2 with ⟨h1, h2⟩ | ⟨g, cap, cur, hv, r0, hb, r⟩
    · simp at h1
    · simp only [Value.slice.injEq, Option.some.injEq, Addr.mk.injEq, and_true, true_and] at hv
      obtain ⟨rfl, rfl⟩ := hv
      exact Or.inr ⟨gg, cap1, cur, rfl, r0, (oth gg hne).trans hb, r⟩
  · exact h.idx.of_block (old _ (h.lt (Or.inr (Or.inl rfl))) (Ne.symm hap.2.2.2.1) hap.2.1)
  · exact h.don.of_block (old _ (h.lt (Or.inr (Or.inr (Or.inl rfl)))) (Ne.symm hap.2.2.2.2) hap.2.2.1)
  · refine ⟨rfl, rfl, rfl, hg.os, hg.tape, hg.output, ?_, ?_, ?_⟩
    · show w.heap.size ≤ (w2.setCell _ _).heap.size
      simp [World.setCell]; omega
    · intro k hk hf
      exact old k hk (fun e => hf (Or.inl e)) (fun e => hf (Or.inr (Or.inr (Or.inr e))))
    · intro g hg'
      simp only [Value.ownBlock, Option.some.injEq, M'] at hg'
      subst hg'
      rcases hat with e | e
      · exact Or.inl e
      · exact Or.inr (by omega)

/-- A map of the manager is written. -/
theorem step_index {w : World} {M : ML} {ob : Obj} : Step w M (ChangeMaps.setBlock w.drew M.bi ob) M :=
  ⟨rfl, rfl, rfl, rfl, rfl, rfl, by simp [ChangeMaps.setBlock], fun k _ hf => setBlock_other (fun e => hf (Or.inr (Or.inl e))), fun _ h => Or.inl h⟩

theorem mgr_indexed {w : World} {M : ML} {ns : List Nd} {dn : List (Nd × Int)} {x : Nd} {ob : Obj} (h1 : w.heap[M.b]? = some (.cells #[M.v, .map (some M.bi), .map (some M.bd)] 103 (0, 0))) (h2 : w.ownsRow 0 77 3 M.v (ns ++ [x]).length (nsC (ns ++ [x])))
    (h3 : mapIs ndV w M.bi (idxL ns)) (h4 : mapIs ndV w M.bd dn) (ne : M.bi ≠ M.bd) (h5 : mapIs ndV (ChangeMaps.setBlock w.drew M.bi ob) M.bi (idxL ns ++ [(x, (ns.length : Int))])) : Mgr (ChangeMaps.setBlock w.drew M.bi ob) M (ns ++ [x]) dn := by
  obtain ⟨es, ck, hm, _⟩ := h3
  have hb : M.b ≠ M.bi := fun e => by rw [e, hm] at h1; simp at h1
  refine ⟨(setBlock_other hb).trans h1, ?_, by rw [idxL_push]; exact h5, h4.of_block (setBlock_other (Ne.symm ne)), ne⟩
  refine ⟨h2.1, ?_⟩
  rcases h2.2 with h' | ⟨g, cap, cur, hv, r0, hg, r⟩
  · exact Or.inl h'
  · have hgi : g ≠ M.bi := fun e => by rw [e, hm] at hg; simp at hg
    exact Or.inr ⟨g, cap, cur, hv, r0, (setBlock_other hgi).trans hg, r⟩

theorem info77 : (Try.prog.info? 77).map (fun i => (i.zero, i.size, i.bytes)) = some (some (.agg #[.int .i64 0, .int .i64 0, .int .i64 0]), 3, 24) := by kernel_rfl

set_option maxRecDepth 100000 in
set_option maxHeartbeats 400000 in
theorem node_new {w : World} {M : ML} {ns : List Nd} {dn : List (Nd × Int)} (h : Mgr w M ns dn) (v l u : Int) (hne : (l == u) = false) (hi : ns.findIdx? (· == (v, l, u)) = none) (hlen : ns.length + 1 ≤ 1000000000000) :
    Calls Try.prog 80 #[.pointer (some ⟨M.b, 0, none⟩), .int .i64 v, .int .i64 l, .int .i64 u] w (NodePost w M dn (ns ++ [(v, l, u)]) ns.length) := by
  have hc := h.c1
  have hc0 := h.c0
  have hlt := h.lt (Or.inl rfl)
  have hl : ∀ q, (Instr.lookup 100 (.map (some M.bi)) (.agg #[.int .i64 v, .int .i64 l, .int .i64 u]) true).run Try.prog ((w.alloc (.cells #[.int .i64 v, .int .i64 l, .int .i64 u] 77)).drewN q) = .ok (.tuple #[.int .i64 0, .bool false]) ((w.alloc (.cells #[.int .i64 v, .int .i64 l, .int .i64 u] 77)).drewN q) := by
    intro q
    have := ((h.alloc (.cells #[.int .i64 v, .int .i64 l, .int .i64 u] 77)).drewN q).idx.look key77 Try.underlying100 (v, l, u)
    rw [look_idxL, hi] at this
    exact this
  obtain ⟨a, cap, hv⟩ := h.sl
  rw [hv] at hc0
  have H := Lib.hid h; clear h
  have HI := Lib.hid hi; clear hi
  have HV := Lib.hid hv; clear hv
  obtain ⟨i0, hi0, hz0, hz1, hz2⟩ := info_parts info77
  go_enter Try.func80, Try.ntmps80
  go_wp2_with fail
  go_quiet (fail)
  go_wp2_with fail
  have H1 := Lib.hid ((H.out.alloc (.cells #[.int .i64 v, .int .i64 l, .int .i64 u] 77)).drewN nq)
  have hk0 : ((w.alloc (.cells #[.int .i64 v, .int .i64 l, .int .i64 u] 77)).drewN nq).cell? ⟨w.heap.size, 0, none⟩ = some (.int .i64 v) := by simp
  have hk1 : ((w.alloc (.cells #[.int .i64 v, .int .i64 l, .int .i64 u] 77)).drewN nq).cell? ⟨w.heap.size, 1, none⟩ = some (.int .i64 l) := by simp
  have hk2 : ((w.alloc (.cells #[.int .i64 v, .int .i64 l, .int .i64 u] 77)).drewN nq).cell? ⟨w.heap.size, 2, none⟩ = some (.int .i64 u) := by simp
  have hnf : Hid (¬ M.foot w.heap.size) := fun hf => absurd (H.out.lt hf) (by omega)
  have hS := Lib.hid ((Step.alloc w M (.cells #[.int .i64 v, .int .i64 l, .int .i64 u] 77)).trans (Step.drewN _ M nq))
  have hsz : Hid (((w.alloc (.cells #[.int .i64 v, .int .i64 l, .int .i64 u] 77)).drewN nq).heap.size = w.heap.size + 1) := by show _ = _; simp
  clear hl hc hc0
  generalize (w.alloc (.cells #[.int .i64 v, .int .i64 l, .int .i64 u] 77)).drewN nq = w1 at *
  have c0 := H1.out.c0
  rw [HV.out] at c0
  have f0 : w1.frozen? ⟨M.b, 0, none⟩ = false := by simp [World.frozen?, H1.out.cel]
  have hlt1 := H1.out.lt (Or.inl rfl)
  have hB : Hid (w1.heap.size = w.heap.size + 1) := hsz
  obtain ⟨B, HBe⟩ : ∃ B, Hid (B = w.heap.size) := ⟨_, rfl⟩
  have hown := Lib.hid H1.out.row
  go_region_law (refine step_append_lies _ (by rfl) _ _ _ (by rfl) 0 77 i0 _ 3 24 Try.underlying25 hi0 hz0 hz1 hz2 rfl (by omega) (.slice a ns.length cap) ns.length (nsC ns) (by rfl) (by rw [← HV.out]; exact (hown.out.alloc _).drew) ⟨w1.heap.size, 0, none⟩ 1 1 [.int .i64 v, .int .i64 l, .int .i64 u] (by rfl) (by rfl) (World.news_of_block (cs := #[.int .i64 v, .int .i64 l, .int .i64 u]) (t := 77) (fr := (0, 0)) (heap_alloc_new w1 _)) (by simp [Value.oneCell']) (by omega) (by unfold maxLen; omega) (by omega) (by simp) (w1.heap.size + 1) (by simp) ?_; intro gg cap1 w2 hown1 hgrow hat hlt2; have hcel2 := Lib.hid (H1.out.cel_grown (by rw [HV.out]; exact hgrow)); have cb2 : w2.cell? ⟨M.b, 0, none⟩ = some (.slice a ns.length cap) := (by rw [← HV.out]; simp [World.cell?, hcel2.out]); have fb2 : w2.frozen? ⟨M.b, 0, none⟩ = false := (by simp [World.frozen?, hcel2.out]))
  all_goals
    have hp := mgr_pushed (x := (v, l, u)) H1.out (by rw [HV.out]; exact hgrow) hown1 (by rw [HV.out]; exact hat)
    obtain ⟨p1, p2, p3, p4, p5⟩ := hp
    have e0 : (w2.setCell ⟨M.b, 0, none⟩ (.slice (some ⟨gg, 0, none⟩) (ns.length + 1) cap1)).cell? ⟨w.heap.size, 0, none⟩ = some (.int .i64 v) := (World.cell?_of_block (a := ⟨w.heap.size, 0, none⟩) (p5.keep w.heap.size (by rw [hsz.out]; omega) hnf.out)).trans hk0
    have e1 : (w2.setCell ⟨M.b, 0, none⟩ (.slice (some ⟨gg, 0, none⟩) (ns.length + 1) cap1)).cell? ⟨w.heap.size, 1, none⟩ = some (.int .i64 l) := (World.cell?_of_block (a := ⟨w.heap.size, 1, none⟩) (p5.keep w.heap.size (by rw [hsz.out]; omega) hnf.out)).trans hk1
    have e2 : (w2.setCell ⟨M.b, 0, none⟩ (.slice (some ⟨gg, 0, none⟩) (ns.length + 1) cap1)).cell? ⟨w.heap.size, 2, none⟩ = some (.int .i64 u) := (World.cell?_of_block (a := ⟨w.heap.size, 2, none⟩) (p5.keep w.heap.size (by rw [hsz.out]; omega) hnf.out)).trans hk2
    have e3 : (w2.setCell ⟨M.b, 0, none⟩ (.slice (some ⟨gg, 0, none⟩) (ns.length + 1) cap1)).cell? ⟨M.b, 1, none⟩ = some (.map (some M.bi)) := by simp only [World.cell?, p1]; simp
    clear hown1 hgrow hat hlt2 cb2 fb2 hcel2 hk0 hk1 hk2
    have P1 := Lib.hid p1; clear p1
    have P2 := Lib.hid p2; clear p2
    have P3 := Lib.hid p3; clear p3
    have P4 := Lib.hid p4; clear p4
    have P5 := Lib.hid p5; clear p5
    go_wp2_with fail
    generalize w2.setCell ⟨M.b, 0, none⟩ (.slice (some ⟨gg, 0, none⟩) (ns.length + 1) cap1) = w3 at *
    go_still_tail 6, (by kernel_rfl)
    go_wp2_with (at_mapUpdate; refine wpList_mapIs_store key77 Try.underlying100 _ rfl _ _ _ rfl M.bi (idxL ns) (v, l, u) ns.length rfl rfl rfl (P3.out.of_block rfl) (by rw [look_idxL, HI.out]; rfl) ?_; intro ob hmi; have HMI := Lib.hid hmi; clear hmi)
    go_ret
    refine ⟨rfl, .slice (some ⟨gg, 0, none⟩) (ns.length + 1) cap1, ?_, ?_⟩
    · exact mgr_indexed (M := { M with v := .slice (some ⟨gg, 0, none⟩) (ns.length + 1) cap1 }) P1.out P2.out P3.out P4.out H.out.ne HMI.out
    · exact (hS.out.trans P5.out).trans (step_index (M := { M with v := .slice (some ⟨gg, 0, none⟩) (ns.length + 1) cap1 }))

theorem node_any {w : World} {M : ML} {ns : List Nd} {dn : List (Nd × Int)} (h : Mgr w M ns dn) (v l u : Int) (hlen : ns.length + 1 ≤ 1000000000000) :
    Calls Try.prog 80 #[.pointer (some ⟨M.b, 0, none⟩), .int .i64 v, .int .i64 l, .int .i64 u] w (NodePost w M dn (nodeS ns v l u).1 (nodeS ns v l u).2) := by
  unfold nodeS
  by_cases e : l = u
  · rw [if_pos e]; subst e; exact node_same h v l
  · rw [if_neg e]
    have hne : (l == u) = false := by simpa using e
    cases hf : ns.findIdx? (· == (v, l, u)) with
    | some i => exact node_known h v l u hne i hf
    | none => exact node_new h v l u hne hf hlen

end Go.Proofs.Ythhogbligfmpdaa

/- The method ite. -/
namespace Go.Proofs.Ythhogbligfmpdaa
open Go.RowKit Bd

/-- What 'ite' comes to. -/
def ItePost (w : World) (M : ML) (ns : List Nd) (dn : List (Nd × Int)) (a b c m : Int) (e : Ending) (w' : World) : Prop :=
  ∃ ns' r es v', e = .returned (.int .i64 r) ∧ IteRes ns a b c m ns' r ∧ Mgr w' { M with v := v' } ns' (dn ++ es) ∧ DoneOk ns' (dn ++ es) ∧ (∀ p ∈ es, m ≤ top ns' p.1.1 ∧ m ≤ top ns' p.1.2.1 ∧ m ≤ top ns' p.1.2.2) ∧ Step w M w' { M with v := v' }

theorem ItePost.idle {w w' : World} {M : ML} {ns : List Nd} {dn : List (Nd × Int)} {a b c m r : Int} (hr : IteRes ns a b c m ns r) (h : Mgr w' M ns dn) (d : DoneOk ns dn) (s : Step w M w' M) : ItePost w M ns dn a b c m (.returned (.int .i64 r)) w' :=
  ⟨ns, r, [], M.v, rfl, hr, by simpa using h, by simpa using d, by simp, s⟩

set_option maxRecDepth 100000 in
set_option maxHeartbeats 400000 in
theorem ite_1 (b : Nat) (x y z : Int) (w : World) (h : (x == -2) = true) :
    Calls Try.prog 81 #[.pointer (some ⟨b, 0, none⟩), .int .i64 x, .int .i64 y, .int .i64 z] w fun e w' => e = .returned (.int .i64 y) ∧ w = w' := by
  go_enter Try.func81, Try.ntmps81
  go_wp2_with fail
  go_ret
  exact ⟨rfl, rfl⟩

set_option maxRecDepth 100000 in
set_option maxHeartbeats 400000 in
theorem ite_2 (b : Nat) (x y z : Int) (w : World) (h : (x == -2) = false) (h2 : (y == z) = true) :
    Calls Try.prog 81 #[.pointer (some ⟨b, 0, none⟩), .int .i64 x, .int .i64 y, .int .i64 z] w fun e w' => e = .returned (.int .i64 y) ∧ w = w' := by
  go_enter Try.func81, Try.ntmps81
  go_wp2_with fail
  go_ret
  exact ⟨rfl, rfl⟩

set_option maxRecDepth 100000 in
set_option maxHeartbeats 400000 in
theorem ite_3 (b : Nat) (x y z : Int) (w : World) (h : (x == -2) = false) (h2 : (y == z) = false) (h3 : (x == -1) = true) :
    Calls Try.prog 81 #[.pointer (some ⟨b, 0, none⟩), .int .i64 x, .int .i64 y, .int .i64 z] w fun e w' => e = .returned (.int .i64 z) ∧ w = w' := by
  go_enter Try.func81, Try.ntmps81
  go_wp2_with fail
  go_ret
  exact ⟨rfl, rfl⟩

set_option maxRecDepth 100000 in
set_option maxHeartbeats 400000 in
theorem ite_4 (b : Nat) (x y z : Int) (w : World) (h : (x == -2) = false) (h2 : (y == z) = false) (h3 : (x == -1) = false) (h4 : (y == -2) = true) (h5 : (z == -1) = true) :
    Calls Try.prog 81 #[.pointer (some ⟨b, 0, none⟩), .int .i64 x, .int .i64 y, .int .i64 z] w fun e w' => e = .returned (.int .i64 x) ∧ w = w' := by
  go_enter Try.func81, Try.ntmps81
  go_wp2_with fail
  go_ret
  exact ⟨rfl, rfl⟩

set_option maxRecDepth 100000 in
set_option maxHeartbeats 400000 in
theorem ite_hit {w : World} {M : ML} {ns : List Nd} {dn : List (Nd × Int)} (hM : Mgr w M ns dn) (x y z r : Int) (h : (x == -2) = false) (h2 : (y == z) = false) (h3 : (x == -1) = false) (h4 : (y == -2) = false ∨ (z == -1) = false)
    (hd : dn.lookup (x, y, z) = some r) :
    Calls Try.prog 81 #[.pointer (some ⟨M.b, 0, none⟩), .int .i64 x, .int .i64 y, .int .i64 z] w fun e w' => e = .returned (.int .i64 r) ∧ Mgr w' M ns dn ∧ Step w M w' M := by
  have hc := hM.c2
  have hlt := hM.lt (Or.inl rfl)
  have H := Lib.hid hM; clear hM
  have HD := Lib.hid hd; clear hd
  have hl : ∀ q, (Instr.lookup 101 (.map (some M.bd)) (.agg #[.int .i64 x, .int .i64 y, .int .i64 z]) true).run Try.prog ((w.alloc (.cells #[.int .i64 x, .int .i64 y, .int .i64 z] 115)).drewN q) = .ok (.tuple #[.int .i64 r, .bool true]) ((w.alloc (.cells #[.int .i64 x, .int .i64 y, .int .i64 z] 115)).drewN q) := by
    intro q
    have := ((H.out.alloc (.cells #[.int .i64 x, .int .i64 y, .int .i64 z] 115)).drewN q).don.look key115 Try.underlying101 (x, y, z)
    rw [HD.out] at this
    exact this
  have hh : (y == -2) = false ∨ ((y == -2) = true ∧ (z == -1) = false) := by
    cases hy : (y == -2)
    · exact Or.inl rfl
    · exact Or.inr ⟨rfl, by rcases h4 with h4 | h4 <;> simp_all⟩
  clear h4
  rcases hh with h4 | ⟨h4, h5⟩
  all_goals
    go_enter Try.func81, Try.ntmps81
    go_wp2_with fail
    go_quiet (fail)
    go_wp2_with fail
    go_ret
    exact ⟨rfl, (H.out.alloc _).drewN _, (Step.alloc _ _ _).trans (Step.drewN _ _ _)⟩

theorem lookup_none_of {dn : List (Nd × Int)} {k : Nd} (h : ∀ p ∈ dn, p.1 ≠ k) : dn.lookup k = none := by
  induction dn with
  | nil => rfl
  | cons p l ih =>
    rw [List.lookup_cons]
    have : (k == p.1) = false := by
      have := h p List.mem_cons_self
      exact beq_eq_false_iff_ne.2 (fun e => this e.symm)
    rw [this]
    exact ih fun q hq => h q (List.mem_cons_of_mem _ hq)

theorem lookup_append_none {dn es : List (Nd × Int)} {k : Nd} (h : dn.lookup k = none) (h2 : es.lookup k = none) : (dn ++ es).lookup k = none := by
  rw [List.lookup_append, h, h2]; rfl

theorem fresh_key {ns ns1 ns2 ms1 ms2 : List Nd} {dn es1 es2 : List (Nd × Int)} {x y z v : Int} (hd : dn.lookup (x, y, z) = none) (hv : v = min (top ns x) (min (top ns y) (top ns z))) (hx : Ref ns x) (hy : Ref ns y) (hz : Ref ns z) (e1 : ns1 = ns ++ ms1) (e2 : ns2 = ns1 ++ ms2)
    (t1 : ∀ p ∈ es1, v + 1 ≤ top ns1 p.1.1 ∧ v + 1 ≤ top ns1 p.1.2.1 ∧ v + 1 ≤ top ns1 p.1.2.2) (t2 : ∀ p ∈ es2, v + 1 ≤ top ns2 p.1.1 ∧ v + 1 ≤ top ns2 p.1.2.1 ∧ v + 1 ≤ top ns2 p.1.2.2) : (dn ++ es1 ++ es2).lookup (x, y, z) = none := by
  subst e1; subst e2
  refine lookup_append_none (lookup_append_none hd (lookup_none_of ?_)) (lookup_none_of ?_)
  · intro p hp e
    have := t1 p hp
    rw [e] at this
    simp only [top_app hx, top_app hy, top_app hz] at this
    omega
  · intro p hp e
    have := t2 p hp
    rw [e] at this
    simp only [top_app (hx.app ms1), top_app (hy.app ms1), top_app (hz.app ms1), top_app hx, top_app hy, top_app hz] at this
    omega

theorem nodeRes_of {ns ns1 ns2 ms2 : List Nd} {a b c a' b' c' v low high : Int} (h0 : IteRes ns a b c (v + 1) ns1 low) (h1 : IteRes ns1 a' b' c' (v + 1) ns2 high) (e2 : ns2 = ns1 ++ ms2) (hv : 0 ≤ v) (h16 : v < 16) :
    NodeRes ns2 v low high (nodeS ns2 v low high).1 (nodeS ns2 v low high).2 := by
  have t0 := h0.top
  have t1 := h1.top
  exact nodeS_spec h1.good hv h16 (by rw [e2]; exact h0.ref.app _) h1.ref (by rw [e2, top_app h0.ref]; omega) (by omega)

theorem mem_of_lookup {l : List (Nd × Int)} {k : Nd} {r : Int} (h : l.lookup k = some r) : (k, r) ∈ l := by
  induction l with
  | nil => simp at h
  | cons p l ih =>
    rw [List.lookup_cons] at h
    cases hk : (k == p.1)
    · rw [hk] at h; exact List.mem_cons_of_mem _ (ih h)
    · rw [hk] at h
      simp only [Option.some.injEq] at h
      have : k = p.1 := by simpa using hk
      rw [this, ← h]; exact List.mem_cons_self

theorem step_done {w : World} {M : ML} {ob : Obj} : Step w M (ChangeMaps.setBlock w.drew M.bd ob) M :=
  ⟨rfl, rfl, rfl, rfl, rfl, rfl, by simp [ChangeMaps.setBlock], fun k _ hf => setBlock_other (fun e => hf (Or.inr (Or.inr (Or.inl e)))), fun _ h => Or.inl h⟩

theorem mgr_done {w : World} {M : ML} {ns : List Nd} {dn : List (Nd × Int)} {dn' : List (Nd × Int)} {ob : Obj} (h : Mgr w M ns dn) (h5 : mapIs ndV (ChangeMaps.setBlock w.drew M.bd ob) M.bd dn') : Mgr (ChangeMaps.setBlock w.drew M.bd ob) M ns dn' := by
  have ap := h.apart
  refine ⟨(setBlock_other ap.2.2.2.2).trans h.cel, ?_, h.idx.of_block (setBlock_other h.ne), h5, h.ne⟩
  refine ⟨h.row.1, ?_⟩
  rcases h.row.2 with h' | ⟨g, cap, cur, hv, r0, hg, r⟩
  · exact Or.inl h'
  · have hgi : g ≠ M.bd := fun e => ap.2.2.1 (by rw [hv]; simp [Value.ownBlock, e])
    exact Or.inr ⟨g, cap, cur, hv, r0, (setBlock_other hgi).trans hg, r⟩

theorem new_tops {ns ns1 ns2 ns3 ms1 ms2 ms3 : List Nd} {dn es1 es2 : List (Nd × Int)} {x y z v r : Int} (hv : v = min (top ns x) (min (top ns y) (top ns z))) (hx : Ref ns x) (hy : Ref ns y) (hz : Ref ns z) (e1 : ns1 = ns ++ ms1) (e2 : ns2 = ns1 ++ ms2) (e3 : ns3 = ns2 ++ ms3)
    (d1 : DoneOk ns1 (dn ++ es1)) (d2 : DoneOk ns2 (dn ++ es1 ++ es2))
    (t1 : ∀ p ∈ es1, v + 1 ≤ top ns1 p.1.1 ∧ v + 1 ≤ top ns1 p.1.2.1 ∧ v + 1 ≤ top ns1 p.1.2.2) (t2 : ∀ p ∈ es2, v + 1 ≤ top ns2 p.1.1 ∧ v + 1 ≤ top ns2 p.1.2.1 ∧ v + 1 ≤ top ns2 p.1.2.2) :
    ∀ p ∈ es1 ++ es2 ++ [((x, y, z), r)], v ≤ top ns3 p.1.1 ∧ v ≤ top ns3 p.1.2.1 ∧ v ≤ top ns3 p.1.2.2 := by
  subst e1; subst e2; subst e3
  intro p hp
  rcases List.mem_append.1 hp with hp | hp
  · rcases List.mem_append.1 hp with hp | hp
    · have r := d1 p (List.mem_append_right _ hp)
      have t := t1 p hp
      rw [top_app (r.1.app _), top_app r.1, top_app (r.2.1.app _), top_app r.2.1, top_app (r.2.2.1.app _), top_app r.2.2.1]
      omega
    · have r := d2 p (List.mem_append_right _ hp)
      have t := t2 p hp
      rw [top_app r.1, top_app r.2.1, top_app r.2.2.1]
      omega
  · simp only [List.mem_cons, List.not_mem_nil, or_false] at hp
    subst hp
    simp only [top_app ((hx.app ms1).app ms2), top_app ((hy.app ms1).app ms2), top_app ((hz.app ms1).app ms2), top_app (hx.app ms1), top_app (hy.app ms1), top_app (hz.app ms1), top_app hx, top_app hy, top_app hz]
    omega

set_option maxRecDepth 100000 in
set_option maxHeartbeats 1000000 in
theorem ite_rec {w : World} {M : ML} {ns : List Nd} {dn : List (Nd × Int)} (hM : Mgr w M ns dn) (g : Bd.Good ns) (d : DoneOk ns dn) (x y z v : Int) (h : (x == -2) = false) (h2 : (y == z) = false) (h3 : (x == -1) = false) (h4 : (y == -2) = false ∨ (z == -1) = false)
    (hd : dn.lookup (x, y, z) = none) (hx : Ref ns x) (hy : Ref ns y) (hz : Ref ns z) (hv : v = min (top ns x) (min (top ns y) (top ns z))) (hv16 : v < 16) (hlen : ns.length + 2 ^ (16 - v).toNat ≤ 1000000000000)
    (ih : ∀ (w : World) (M : ML) (ns : List Nd) (dn : List (Nd × Int)) (a b c : Int), Mgr w M ns dn → Bd.Good ns → DoneOk ns dn → Ref ns a → Ref ns b → Ref ns c → v + 1 ≤ top ns a → v + 1 ≤ top ns b → v + 1 ≤ top ns c →
      ns.length + 2 ^ (16 - (v + 1)).toNat ≤ 1000000000000 → Calls Try.prog 81 #[.pointer (some ⟨M.b, 0, none⟩), .int .i64 a, .int .i64 b, .int .i64 c] w (ItePost w M ns dn a b c (v + 1))) :
    Calls Try.prog 81 #[.pointer (some ⟨M.b, 0, none⟩), .int .i64 x, .int .i64 y, .int .i64 z] w (ItePost w M ns dn x y z v) := by
  have hc := hM.c2
  have hlt := hM.lt (Or.inl rfl)
  have H := Lib.hid hM; clear hM
  have HD := Lib.hid hd; clear hd
  have HV := Lib.hid hv; clear hv
  have IH := Lib.hid ih; clear ih
  have hl9 : ns.length ≤ 9223372036854775807 := by have : 0 ≤ 2 ^ (16 - v).toNat := Nat.zero_le _; generalize 2 ^ (16 - v).toNat = p at *; omega
  have hl : ∀ q, (Instr.lookup 101 (.map (some M.bd)) (.agg #[.int .i64 x, .int .i64 y, .int .i64 z]) true).run Try.prog ((w.alloc (.cells #[.int .i64 x, .int .i64 y, .int .i64 z] 115)).drewN q) = .ok (.tuple #[.int .i64 0, .bool false]) ((w.alloc (.cells #[.int .i64 x, .int .i64 y, .int .i64 z] 115)).drewN q) := by
    intro q
    have := ((H.out.alloc (.cells #[.int .i64 x, .int .i64 y, .int .i64 z] 115)).drewN q).don.look key115 Try.underlying101 (x, y, z)
    rw [HD.out] at this
    exact this
  have hh : (y == -2) = false ∨ ((y == -2) = true ∧ (z == -1) = false) := by
    cases hy : (y == -2)
    · exact Or.inl rfl
    · exact Or.inr ⟨rfl, by rcases h4 with h4 | h4 <;> simp_all⟩
  clear h4
  rcases hh with h4 | ⟨h4, h5⟩
  all_goals
    go_enter Try.func81, Try.ntmps81
    go_wp2_with fail
    go_quiet (fail)
    go_wp2_with fail
    have H1 := Lib.hid ((H.out.alloc (.cells #[.int .i64 x, .int .i64 y, .int .i64 z] 115)).drewN nq)
    have hk0 : ((w.alloc (.cells #[.int .i64 x, .int .i64 y, .int .i64 z] 115)).drewN nq).heap[w.heap.size]? = some (.cells #[.int .i64 x, .int .i64 y, .int .i64 z] 115) := heap_alloc_new w _
    have HK := Lib.hid hk0
    have hS := Lib.hid ((Step.alloc w M (.cells #[.int .i64 x, .int .i64 y, .int .i64 z] 115)).trans (Step.drewN _ M nq))
    clear hl hc hk0
    generalize (w.alloc (.cells #[.int .i64 x, .int .i64 y, .int .i64 z] 115)).drewN nq = w1 at *
    refine (top_any H1.out hl9 hx).mono ?_
    rintro e w' ⟨rfl, rfl⟩
    go_wp2_with fail
    refine (top_any H1.out hl9 hy).mono ?_
    rintro e w' ⟨rfl, rfl⟩
    go_wp2_with fail
    refine (top_any H1.out hl9 hz).mono ?_
    rintro e w' ⟨rfl, rfl⟩
    have hmin : (if top ns z < (if top ns y < top ns x then top ns y else top ns x) then top ns z else (if top ns y < top ns x then top ns y else top ns x)) = v := by
      rw [HV.out]; split <;> split at * <;> omega
    go_wp2_with fail
    clear hmin
    refine (split_any H1.out hl9 hx hv16).mono ?_
    rintro e w' ⟨rfl, q1, rfl⟩
    go_wp2_with fail
    refine (split_any (H1.out.drewN _) hl9 hy hv16).mono ?_
    rintro e w' ⟨rfl, q2, rfl⟩
    go_wp2_with fail
    refine (split_any (H1.out.drewN _) hl9 hz hv16).mono ?_
    rintro e w' ⟨rfl, q3, rfl⟩
    go_wp2_with fail
    have H2 := Lib.hid (H1.out.drewN (q1 + q2 + q3))
    have HK2 : Hid ((w1.drewN (q1 + q2 + q3)).heap[w.heap.size]? = some (.cells #[.int .i64 x, .int .i64 y, .int .i64 z] 115)) := HK.out
    have hS2 := Lib.hid (hS.out.trans (Step.drewN w1 M (q1 + q2 + q3)))
    clear HK hS H1
    generalize w1.drewN (q1 + q2 + q3) = w2 at *
    have tx : v ≤ top ns x := by rw [HV.out]; omega
    have ty : v ≤ top ns y := by rw [HV.out]; omega
    have tz : v ≤ top ns z := by rw [HV.out]; omega
    have x0 := g.ord.spl0 hx tx hv16
    have y0 := g.ord.spl0 hy ty hv16
    have z0 := g.ord.spl0 hz tz hv16
    have x1 := g.ord.spl1 hx tx hv16
    have y1 := g.ord.spl1 hy ty hv16
    have z1 := g.ord.spl1 hz tz hv16
    have epow : 2 ^ (16 - v).toNat = 2 ^ (16 - (v + 1)).toNat + 2 ^ (16 - (v + 1)).toNat := by
      rw [show (16 - v).toNat = (16 - (v + 1)).toNat + 1 from by omega, Nat.pow_succ]; omega
    obtain ⟨pw, hpw⟩ : ∃ pw : Nat, 2 ^ (16 - (v + 1)).toNat = pw := ⟨_, rfl⟩
    rw [epow, hpw] at hlen
    have EP := Lib.hid hpw; clear hpw epow
    refine (IH.out w2 M ns dn _ _ _ H2.out g d x0.1 y0.1 z0.1 x0.2 y0.2 z0.2 (by rw [EP.out]; omega)).mono ?_
    rintro e w3 ⟨ns1, low, es1, v1, rfl, r1, m1, d1, t1, s1⟩
    have R1 := Lib.hid r1; clear r1
    have M1 := Lib.hid m1; clear m1
    have D1 := Lib.hid d1; clear d1
    have T1 := Lib.hid t1; clear t1
    have S1 := Lib.hid s1; clear s1
    go_wp2_with fail
    obtain ⟨ms1, hns1, lms1⟩ := R1.out.ext
    have HN1 := Lib.hid hns1; clear hns1
    refine (IH.out w3 { M with v := v1 } ns1 (dn ++ es1) _ _ _ M1.out R1.out.good D1.out (by rw [HN1.out]; exact x1.1.app _) (by rw [HN1.out]; exact y1.1.app _) (by rw [HN1.out]; exact z1.1.app _)
      (by rw [HN1.out, top_app x1.1]; exact x1.2) (by rw [HN1.out, top_app y1.1]; exact y1.2) (by rw [HN1.out, top_app z1.1]; exact z1.2) (by rw [HN1.out, List.length_append, EP.out]; rw [EP.out] at lms1; omega)).mono ?_
    rintro e w4 ⟨ns2, high, es2, v2, rfl, r2, m2, d2, t2, s2⟩
    have R2 := Lib.hid r2; clear r2
    have M2 := Lib.hid m2; clear m2
    have D2 := Lib.hid d2; clear d2
    have T2 := Lib.hid t2; clear t2
    have S2 := Lib.hid s2; clear s2
    go_wp2_with fail
    obtain ⟨ms2, hns2, lms2⟩ := R2.out.ext
    have HN2 := Lib.hid hns2; clear hns2
    refine (node_any M2.out v low high (by rw [HN2.out, HN1.out, List.length_append, List.length_append]; rw [EP.out] at lms1 lms2; omega)).mono ?_
    rintro e w5 ⟨rfl, v3, m3, s3⟩
    have M3 := Lib.hid m3; clear m3
    have S3 := Lib.hid s3; clear s3
    have nf : Hid (¬ M.foot w.heap.size) := fun hf => absurd (H.out.lt hf) (by omega)
    have lt2 : w.heap.size < w2.heap.size := lt_of_some HK2.out
    have SA := Lib.hid ((S1.out.trans S2.out).trans S3.out)
    have HK5 : Hid (w5.heap[w.heap.size]? = some (.cells #[.int .i64 x, .int .i64 y, .int .i64 z] 115)) := (SA.out.keep _ lt2 nf.out).trans HK2.out
    have e0 : w5.cell? ⟨w.heap.size, 0, none⟩ = some (.int .i64 x) := by simp [World.cell?, HK5.out]
    have e1 : w5.cell? ⟨w.heap.size, 1, none⟩ = some (.int .i64 y) := by simp [World.cell?, HK5.out]
    have e2 : w5.cell? ⟨w.heap.size, 2, none⟩ = some (.int .i64 z) := by simp [World.cell?, HK5.out]
    have e3 : w5.cell? ⟨M.b, 2, none⟩ = some (.map (some M.bd)) := M3.out.c2
    have RS := Lib.hid (ite_step g hx hy hz (by rw [HV.out]; have a1 := (g.ord.top_lt hx).1; have a2 := (g.ord.top_lt hy).1; have a3 := (g.ord.top_lt hz).1; omega) hv16 tx ty tz R1.out R2.out)
    clear x0 y0 z0 x1 y1 z1 tx ty tz hlen lms1 lms2 lt2
    go_wp2_with fail
    go_still_tail 6, (by kernel_rfl)
    go_wp2_with (at_mapUpdate; refine wpList_mapIs_store key115 Try.underlying101 _ rfl _ _ _ rfl M.bd (dn ++ es1 ++ es2) (x, y, z) (nodeS ns2 v low high).2 rfl rfl rfl (M3.out.don.of_block rfl) (fresh_key HD.out HV.out hx hy hz HN1.out HN2.out T1.out T2.out) ?_; intro ob hmi; have HMI := Lib.hid hmi; clear hmi)
    go_ret
    refine ⟨_, _, es1 ++ es2 ++ [((x, y, z), (nodeS ns2 v low high).2)], v3, rfl, RS.out, ?_, ?_, ?_, ?_⟩
    · have := mgr_done M3.out (dn' := dn ++ (es1 ++ es2 ++ [((x, y, z), (nodeS ns2 v low high).2)])) (by simpa using HMI.out)
      exact this
    · have h0 : DoneOk (nodeS ns2 v low high).1 (dn ++ es1 ++ es2) := by
        obtain ⟨ms3, e3, _⟩ := (nodeRes_of R1.out R2.out HN2.out (v := v) (by rw [HV.out]; have a1 := (g.ord.top_lt hx).1; have a2 := (g.ord.top_lt hy).1; have a3 := (g.ord.top_lt hz).1; omega) hv16).ext
        rw [e3]; exact D2.out.app R2.out.good.ord _
      have := h0.push g hx hy hz HV.out RS.out
      simpa using this
    · obtain ⟨ms3, e3, _⟩ := (nodeRes_of R1.out R2.out HN2.out (v := v) (by rw [HV.out]; have a1 := (g.ord.top_lt hx).1; have a2 := (g.ord.top_lt hy).1; have a3 := (g.ord.top_lt hz).1; omega) hv16).ext
      exact new_tops HV.out hx hy hz HN1.out HN2.out e3 D1.out D2.out T1.out T2.out
    · exact (hS2.out.trans SA.out).trans (step_done (M := { M with v := v3 }))

theorem ite_any (k : Nat) : ∀ (w : World) (M : ML) (ns : List Nd) (dn : List (Nd × Int)) (a b c m : Int), (16 - m).toNat ≤ k → Mgr w M ns dn → Bd.Good ns → DoneOk ns dn → Ref ns a → Ref ns b → Ref ns c → m ≤ top ns a → m ≤ top ns b → m ≤ top ns c →
    ns.length + 2 ^ (16 - m).toNat ≤ 1000000000000 → Calls Try.prog 81 #[.pointer (some ⟨M.b, 0, none⟩), .int .i64 a, .int .i64 b, .int .i64 c] w (ItePost w M ns dn a b c m) := by
  induction k with
  | zero =>
    intro w M ns dn a b c m hk hM g d ha hb hc ta tb' tc hl
    have t16 := g.ord.top_lt ha
    have h0 : a < 0 := by
      by_cases h0 : 0 ≤ a
      · have := t16.2.2 h0; omega
      · omega
    have := ha.1
    by_cases e : a = -2
    · exact (ite_1 M.b a b c w (by simp [e])).mono fun e' w' ⟨h1, h2⟩ => by subst h1; subst h2; exact ItePost.idle (ite_b g hb tb' (Or.inl e)) hM d (Step.refl _ _)
    · by_cases e2 : b = c
      · exact (ite_2 M.b a b c w (by simpa using e) (by simpa using e2)).mono fun e' w' ⟨h1, h2⟩ => by subst h1; subst h2; exact ItePost.idle (ite_b g hb tb' (Or.inr e2)) hM d (Step.refl _ _)
      · have e3 : a = -1 := by omega
        exact (ite_3 M.b a b c w (by simpa using e) (by simpa using e2) (by simpa using e3)).mono fun e' w' ⟨h1, h2⟩ => by subst h1; subst h2; exact ItePost.idle (ite_c g hc tc e3) hM d (Step.refl _ _)
  | succ k ih =>
    intro w M ns dn a b c m hk hM g d ha hb hc ta tb' tc hl
    by_cases e : a = -2
    · exact (ite_1 M.b a b c w (by simp [e])).mono fun e' w' ⟨h1, h2⟩ => by subst h1; subst h2; exact ItePost.idle (ite_b g hb tb' (Or.inl e)) hM d (Step.refl _ _)
    by_cases e2 : b = c
    · exact (ite_2 M.b a b c w (by simpa using e) (by simpa using e2)).mono fun e' w' ⟨h1, h2⟩ => by subst h1; subst h2; exact ItePost.idle (ite_b g hb tb' (Or.inr e2)) hM d (Step.refl _ _)
    by_cases e3 : a = -1
    · exact (ite_3 M.b a b c w (by simpa using e) (by simpa using e2) (by simpa using e3)).mono fun e' w' ⟨h1, h2⟩ => by subst h1; subst h2; exact ItePost.idle (ite_c g hc tc e3) hM d (Step.refl _ _)
    by_cases e4 : b = -2 ∧ c = -1
    · exact (ite_4 M.b a b c w (by simpa using e) (by simpa using e2) (by simpa using e3) (by simpa using e4.1) (by simpa using e4.2)).mono fun e' w' ⟨h1, h2⟩ => by subst h1; subst h2; exact ItePost.idle (ite_a g ha ta e4) hM d (Step.refl _ _)
    have e4' : (b == -2) = false ∨ (c == -1) = false := by
      by_cases x : b = -2
      · exact Or.inr (by simpa using fun y => e4 ⟨x, y⟩)
      · exact Or.inl (by simpa using x)
    cases hd : dn.lookup (a, b, c) with
    | some r =>
      refine (ite_hit hM a b c r (by simpa using e) (by simpa using e2) (by simpa using e3) e4' hd).mono fun e' w' ⟨h1, h2, h3⟩ => ?_
      subst h1
      exact ItePost.idle (d.hit g (mem_of_lookup hd) ta tb' tc) h2 d h3
    | none =>
      have a0 : 0 ≤ a := by have := ha.1; omega
      have ta16 := (g.ord.top_lt ha).2.2 a0
      have hmv : m ≤ min (top ns a) (min (top ns b) (top ns c)) := by omega
      have hp : 2 ^ (16 - min (top ns a) (min (top ns b) (top ns c))).toNat ≤ 2 ^ (16 - m).toNat := pow_mono (by omega)
      refine (ite_rec hM g d a b c _ (by simpa using e) (by simpa using e2) (by simpa using e3) e4' hd ha hb hc rfl (by omega) (by omega) ?_).mono ?_
      · intro w M ns' dn a' b' c' hM g d ha hb hc ta tb' tc hl
        exact ih w M ns' dn a' b' c' _ (by omega) hM g d ha hb hc ta tb' tc hl
      · rintro e' w' ⟨ns', r, es, v', h1, h2, h3, h4, h5, h6⟩
        exact ⟨ns', r, es, v', h1, h2.mono hmv, h3, h4, fun p hp => by have := h5 p hp; omega, h6⟩

end Go.Proofs.Ythhogbligfmpdaa

/- The manager's state; its methods not, and, or, xor; a new manager. -/
namespace Go.Proofs.Ythhogbligfmpdaa
open Go.RowKit Bd

structure St (w : World) (M : ML) (ns : List Nd) (dn : List (Nd × Int)) : Prop where
  mgr : Mgr w M ns dn
  good : Bd.Good ns
  don : DoneOk ns dn

/-- What an operation that yields the reference of a function comes to. -/
def RPost (w : World) (M : ML) (ns : List Nd) (f : Nat → Bool) (grow : Nat) (e : Ending) (w' : World) : Prop :=
  ∃ ns' r dn' v', e = .returned (.int .i64 r) ∧ (∃ ms, ns' = ns ++ ms ∧ ms.length ≤ grow) ∧ Ref ns' r ∧ Tab ns' r f ∧ St w' { M with v := v' } ns' dn' ∧ Step w M w' { M with v := v' }

theorem RPost.congr {w : World} {M : ML} {ns : List Nd} {f g : Nat → Bool} {k : Nat} {e : Ending} {w' : World} (h : RPost w M ns f k e w') (hf : ∀ x, x < 65536 → f x = g x) : RPost w M ns g k e w' := by
  obtain ⟨ns', r, dn', v', h1, h2, h3, h4, h5, h6⟩ := h
  exact ⟨ns', r, dn', v', h1, h2, h3, h4.congr hf, h5, h6⟩

theorem St.of_step {w w' : World} {M : ML} {ns : List Nd} {dn : List (Nd × Int)} (h : St w M ns dn) (hb : ∀ k, M.foot k → w'.heap[k]? = w.heap[k]?) : St w' M ns dn := ⟨h.mgr.of_blocks hb, h.good, h.don⟩
theorem St.alloc {w : World} {M : ML} {ns : List Nd} {dn : List (Nd × Int)} (h : St w M ns dn) (o : Obj) : St (w.alloc o) M ns dn := ⟨h.mgr.alloc o, h.good, h.don⟩

theorem ite_tab {w : World} {M : ML} {ns : List Nd} {dn : List (Nd × Int)} (h : St w M ns dn) {a b c : Int} {f g k : Nat → Bool} (ha : Ref ns a) (hb : Ref ns b) (hc : Ref ns c) (ta : Tab ns a f) (tb' : Tab ns b g) (tc : Tab ns c k) (hl : ns.length + 65536 ≤ 1000000000000) :
    Calls Try.prog 81 #[.pointer (some ⟨M.b, 0, none⟩), .int .i64 a, .int .i64 b, .int .i64 c] w (RPost w M ns (fun x => if f x then g x else k x) 65536) := by
  have p16 : (2 : Nat) ^ ((16 : Int) - 0).toNat = 65536 := by decide
  refine (ite_any 16 w M ns dn a b c 0 (by omega) h.mgr h.good h.don ha hb hc (h.good.ord.top_lt ha).1 (h.good.ord.top_lt hb).1 (h.good.ord.top_lt hc).1 (by rw [p16]; exact hl)).mono ?_
  rintro e w' ⟨ns', r, es, v', h1, h2, h3, h4, _, h6⟩
  obtain ⟨ms, em, lm⟩ := h2.ext
  rw [p16] at lm
  exact ⟨ns', r, dn ++ es, v', h1, ⟨ms, em, by omega⟩, h2.ref, Tab.ite ta tb' tc h2, ⟨h3, h2.good, h4⟩, h6⟩

theorem ref_false (ns : List Nd) : Ref ns (-1) := ⟨by omega, by omega⟩
theorem ref_true (ns : List Nd) : Ref ns (-2) := ⟨by omega, by omega⟩

set_option maxRecDepth 100000 in
set_option maxHeartbeats 400000 in
theorem not_any {w : World} {M : ML} {ns : List Nd} {dn : List (Nd × Int)} (h : St w M ns dn) {a : Int} {f : Nat → Bool} (ha : Ref ns a) (ta : Tab ns a f) (hl : ns.length + 65536 ≤ 1000000000000) :
    Calls Try.prog 56 #[.pointer (some ⟨M.b, 0, none⟩), .int .i64 a] w (RPost w M ns (fun x => !f x) 65536) := by
  have C := Lib.hid (ite_tab h ha (ref_false ns) (ref_true ns) ta (tab_false ns) (tab_true ns) hl)
  clear h ta
  go_enter Try.func56, Try.ntmps56
  go_wp2_with fail
  refine C.out.mono ?_
  intro e w' hp
  have HP := Lib.hid hp; clear hp
  obtain ⟨ns', r, dn', v', rfl, h2⟩ := HP.out
  have H2 := Lib.hid h2; clear h2
  go_wp2_with fail
  go_ret
  exact RPost.congr (f := fun x => if f x then false else true) ⟨ns', r, dn', v', rfl, H2.out⟩ (fun x _ => by cases f x <;> rfl)

set_option maxRecDepth 100000 in
set_option maxHeartbeats 400000 in
theorem and_any {w : World} {M : ML} {ns : List Nd} {dn : List (Nd × Int)} (h : St w M ns dn) {a b : Int} {f g : Nat → Bool} (ha : Ref ns a) (hb : Ref ns b) (ta : Tab ns a f) (tb' : Tab ns b g) (hl : ns.length + 65536 ≤ 1000000000000) :
    Calls Try.prog 52 #[.pointer (some ⟨M.b, 0, none⟩), .int .i64 a, .int .i64 b] w (RPost w M ns (fun x => f x && g x) 65536) := by
  have C := Lib.hid (ite_tab h ha hb (ref_false ns) ta tb' (tab_false ns) hl)
  clear h ta tb'
  go_enter Try.func52, Try.ntmps52
  go_wp2_with fail
  refine C.out.mono ?_
  intro e w' hp
  have HP := Lib.hid hp; clear hp
  obtain ⟨ns', r, dn', v', rfl, h2⟩ := HP.out
  have H2 := Lib.hid h2; clear h2
  go_wp2_with fail
  go_ret
  exact RPost.congr (f := fun x => if f x then g x else false) ⟨ns', r, dn', v', rfl, H2.out⟩ (fun x _ => by cases f x <;> rfl)

set_option maxRecDepth 100000 in
set_option maxHeartbeats 400000 in
theorem or_any {w : World} {M : ML} {ns : List Nd} {dn : List (Nd × Int)} (h : St w M ns dn) {a b : Int} {f g : Nat → Bool} (ha : Ref ns a) (hb : Ref ns b) (ta : Tab ns a f) (tb' : Tab ns b g) (hl : ns.length + 65536 ≤ 1000000000000) :
    Calls Try.prog 53 #[.pointer (some ⟨M.b, 0, none⟩), .int .i64 a, .int .i64 b] w (RPost w M ns (fun x => f x || g x) 65536) := by
  have C := Lib.hid (ite_tab h ha (ref_true ns) hb ta (tab_true ns) tb' hl)
  clear h ta tb'
  go_enter Try.func53, Try.ntmps53
  go_wp2_with fail
  refine C.out.mono ?_
  intro e w' hp
  have HP := Lib.hid hp; clear hp
  obtain ⟨ns', r, dn', v', rfl, h2⟩ := HP.out
  have H2 := Lib.hid h2; clear h2
  go_wp2_with fail
  go_ret
  exact RPost.congr (f := fun x => if f x then true else g x) ⟨ns', r, dn', v', rfl, H2.out⟩ (fun x _ => by cases f x <;> rfl)

set_option maxRecDepth 100000 in
set_option maxHeartbeats 400000 in
theorem xor_any {w : World} {M : ML} {ns : List Nd} {dn : List (Nd × Int)} (h : St w M ns dn) {a b : Int} {f g : Nat → Bool} (ha : Ref ns a) (hb : Ref ns b) (ta : Tab ns a f) (tb' : Tab ns b g) (hl : ns.length + 131072 ≤ 1000000000000) :
    Calls Try.prog 54 #[.pointer (some ⟨M.b, 0, none⟩), .int .i64 a, .int .i64 b] w (RPost w M ns (fun x => f x != g x) 131072) := by
  have C := Lib.hid (not_any h hb tb' (by omega))
  have HO := Lib.hid h.good.ord
  have TA := Lib.hid ta
  have TB := Lib.hid tb'
  clear h ta tb'
  go_enter Try.func54, Try.ntmps54
  go_wp2_with fail
  refine C.out.mono ?_
  rintro e w1 ⟨ns1, r1, dn1, v1, rfl, ⟨ms, em, lm⟩, rr, rt, st, sp⟩
  have EM := Lib.hid em; clear em
  have RT := Lib.hid rt; clear rt
  have SP := Lib.hid sp; clear sp
  have C2 := Lib.hid (ite_tab st (by rw [EM.out]; exact ha.app _) rr (by rw [EM.out]; exact hb.app _) (by rw [EM.out]; exact TA.out.app HO.out ha) RT.out (by rw [EM.out]; exact TB.out.app HO.out hb) (by rw [EM.out, List.length_append]; omega))
  have STH := Lib.hid st; clear st
  go_wp2_with fail
  refine C2.out.mono ?_
  rintro e w2 ⟨ns2, r2, dn2, v2, rfl, ⟨ms2, em2, lm2⟩, rr2, rt2, st2, sp2⟩
  have EM2 := Lib.hid em2; clear em2
  have RT2 := Lib.hid rt2; clear rt2
  have SP2 := Lib.hid sp2; clear sp2
  have ST2 := Lib.hid st2; clear st2
  go_wp2_with fail
  go_ret
  exact ⟨ns2, r2, dn2, v2, rfl, ⟨ms ++ ms2, by rw [EM2.out, EM.out, List.append_assoc], by rw [List.length_append]; omega⟩, rr2, RT2.out.congr (fun x _ => by cases f x <;> cases g x <;> rfl), ST2.out, SP.out.trans SP2.out⟩

/-- What is laid out for a new manager, and that all else is as it was. -/
def NewPost (w : World) (e : Ending) (w' : World) : Prop :=
  ∃ M : ML, e = .returned (.pointer (some ⟨M.b, 0, none⟩)) ∧ St w' M [] [] ∧ Below w.heap.size w w' ∧ (∀ k, M.foot k → w.heap.size ≤ k)

theorem good_nil : Bd.Good [] := ⟨fun i h => by simp at h, fun i h => by simp at h, by simp⟩

theorem new_lies (w : World) : NewPost w (.returned (.pointer (some ⟨w.heap.size + 1 + 1, 0, none⟩))) (((w.alloc (.map #[] 0)).alloc (.map #[] 0)).alloc (.cells #[.slice none 0 0, .map (some w.heap.size), .map (some (w.heap.size + 1))] 103)) := by
  have s1 : (w.alloc (.map #[] 0)).heap.size = w.heap.size + 1 := by simp
  have s2 : ((w.alloc (.map #[] 0)).alloc (.map #[] 0)).heap.size = w.heap.size + 1 + 1 := by simp
  have h0 := heap_alloc_new w (.map #[] 0)
  have h1 := heap_alloc_new (w.alloc (.map #[] 0)) (.map #[] 0)
  have h2 := heap_alloc_new ((w.alloc (.map #[] 0)).alloc (.map #[] 0)) (.cells #[.slice none 0 0, .map (some w.heap.size), .map (some (w.heap.size + 1))] 103)
  rw [s1] at h1
  rw [s2] at h2
  refine ⟨⟨w.heap.size + 1 + 1, w.heap.size, w.heap.size + 1, .slice none 0 0⟩, rfl, ⟨⟨h2, ?_, ?_, ?_, by show w.heap.size ≠ w.heap.size + 1; omega⟩, good_nil, fun p hp => by simp at hp⟩, ?_, ?_⟩
  · exact World.ownsRow_nil _ _ _ _
  · refine ⟨#[], 0, ?_, rfl⟩
    rw [Below.heap_alloc _ _ _ (by rw [s2]; show w.heap.size < _; omega), Below.heap_alloc _ _ _ (by rw [s1]; show w.heap.size < _; omega)]
    exact h0
  · refine ⟨#[], 0, ?_, rfl⟩
    rw [Below.heap_alloc _ _ _ (by rw [s2]; show w.heap.size + 1 < _; omega)]
    exact h1
  · exact (((Below.refl _ _).alloc (Nat.le_refl _) _).alloc (by rw [s1]; omega) _).alloc (by rw [s2]; omega) _
  · rintro k (h | h | h | h)
    · have : k = w.heap.size + 1 + 1 := h
      omega
    · have : k = w.heap.size := h
      omega
    · have : k = w.heap.size + 1 := h
      omega
    · simp [Value.ownBlock] at h

set_option maxRecDepth 100000 in
set_option maxHeartbeats 400000 in
theorem new_any (w : World) : Calls Try.prog 41 #[] w (NewPost w) := by
  have hmm := @run_makeMap Try.prog
  go_enter Try.func41, Try.ntmps41
  go_wp2_with fail
  go_ret
  exact new_lies w

end Go.Proofs.Ythhogbligfmpdaa
