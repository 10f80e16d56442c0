/- The manager of nodes as it lies in memory: its maps, its row of nodes; what a step may turn. -/
import Derived.Test.YthhogbligfmpdaaProg
import Derived.WalkKit
import Derived.WalkSpells
import Derived.WalkLawsBesides
import Derived.Lib.Hide
import Derived.Maps.Own
import Derived.Maps.OwnSet
import Derived.Deep.AppendLies
import Derived.Test.YthhogbligfmpdaaPa
set_option linter.unusedVariables false
set_option linter.unusedSimpArgs false
namespace Go.Proofs.Ythhogbligfmpdaa
open Go.RowKit Bd

def ndV (x : Nd) : Value := .agg #[.int .i64 x.1, .int .i64 x.2.1, .int .i64 x.2.2]
def inV (x : Int) : Value := .int .i64 x

theorem part3_0 (a b c : Int) (w : World) : (part 3 #[.int .i64 a, .int .i64 b, .int .i64 c] 0).run Try.prog w = .ok (.int .i64 a) w := by kernel_rfl
theorem part3_1 (a b c : Int) (w : World) : (part 3 #[.int .i64 a, .int .i64 b, .int .i64 c] 1).run Try.prog w = .ok (.int .i64 b) w := by kernel_rfl
theorem part3_2 (a b c : Int) (w : World) : (part 3 #[.int .i64 a, .int .i64 b, .int .i64 c] 2).run Try.prog w = .ok (.int .i64 c) w := by kernel_rfl
theorem stood77 : Try.prog.stoodInHeld 77 = false := by kernel_rfl
theorem fields77 : Try.prog.fieldsOf 77 = #[{ name := "Var", type := 3, offset := 0, embedded := false, tag := "", pkgPath := "", byteOffset := 0 },
        { name := "Low", type := 3, offset := 1, embedded := false, tag := "", pkgPath := "", byteOffset := 8 },
        { name := "High", type := 3, offset := 2, embedded := false, tag := "", pkgPath := "", byteOffset := 16 }] := by kernel_rfl

theorem run_eq77 (x y : Nd) (w : World) : (Op.equal 77 (ndV x) (ndV y)).run Try.prog w = .ok (x == y) w := by
  obtain ⟨a, b, c⟩ := x
  obtain ⟨a', b', c'⟩ := y
  show (Op.equalIn (9999 + 1) 77 _ _).run Try.prog w = _
  simp only [ndV]
  rw [run_equalIn_struct w 9999 77 _ _ (by rw [fields77]; exact Try.underlying77) stood77, fields77]
  have e : ∀ (p q : Int), (Op.equalIn 9999 3 (.int .i64 p) (.int .i64 q)).run Try.prog w = .ok (p == q) w := fun p q => run_equalIn_int w 9998 3 _ _ p q Try.underlying3
  dsimp only
  simp [Op.eqFields, part3_0, part3_1, part3_2, e]
  by_cases h1 : a = a' <;> by_cases h2 : b = b' <;> by_cases h3 : c = c' <;> simp [h1, h2, h3]

theorem run_eq115 (x y : Nd) (w : World) : (Op.equal 115 (ndV x) (ndV y)).run Try.prog w = .ok (x == y) w := by
  obtain ⟨a, b, c⟩ := x
  obtain ⟨a', b', c'⟩ := y
  obtain ⟨i, hi⟩ := Option.isSome_iff_exists.1 (show (Try.prog.info? 3).isSome = true by kernel_rfl)
  have hc : Try.prog.cellsOf 3 = 1 := by kernel_rfl
  show (Op.equalIn (9999 + 1) 115 _ _).run Try.prog w = _
  simp only [ndV]
  rw [run_equalIn_array w 9999 _ _ Try.underlying115 hi, hc]
  have e : ∀ (p q : Int), (Op.equalIn 9999 3 (.int .i64 p) (.int .i64 q)).run Try.prog w = .ok (p == q) w := fun p q => run_equalIn_int w 9998 3 _ _ p q Try.underlying3
  simp [List.range_succ, Op.eqItems, part3_0, part3_1, part3_2, e]
  by_cases h1 : a = a' <;> by_cases h2 : b = b' <;> by_cases h3 : c = c' <;> simp [h1, h2, h3]

theorem run_eq3 (x y : Int) (w : World) : (Op.equal 3 (inV x) (inV y)).run Try.prog w = .ok (x == y) w := run_equalIn_int w 9999 3 _ _ x y Try.underlying3

theorem run_check77 (x : Nd) (em : Bool) (w : World) : (Instr.checkKey em 10000 77 (ndV x)).run Try.prog w = .ok () w := by kernel_rfl
theorem run_check115 (x : Nd) (em : Bool) (w : World) : (Instr.checkKey em 10000 115 (ndV x)).run Try.prog w = .ok () w := by kernel_rfl
theorem run_check3 (x : Int) (em : Bool) (w : World) : (Instr.checkKey em 10000 3 (inV x)).run Try.prog w = .ok () w := by kernel_rfl
theorem zero3 (w : World) : (zeroValue 3).run Try.prog w = .ok (.int .i64 0) w := by kernel_rfl

/-- Block b is a map with these entries, in the order in which they came. -/
def mapIs {K : Type} (enc : K → Value) (w : World) (b : Nat) (l : List (K × Int)) : Prop :=
  ∃ es ck, w.heap[b]? = some (.map es ck) ∧ es.toList.map (fun e => (e.key, e.val)) = l.map (fun p => (enc p.1, Value.int .i64 p.2))

theorem mapIs.of_block {K : Type} {enc : K → Value} {w w' : World} {b : Nat} {l : List (K × Int)} (h : mapIs enc w b l) (hb : w'.heap[b]? = w.heap[b]?) : mapIs enc w' b l := by
  obtain ⟨es, ck, h1, h2⟩ := h
  exact ⟨es, ck, hb.trans h1, h2⟩

theorem run_findAsking_l {K : Type} [BEq K] {enc : K → Value} {kt : TypeId} (heq : ∀ x y w, (Op.equal kt (enc x) (enc y)).run Try.prog w = .ok (x == y) w) (w : World) (k : K) :
    ∀ (es : List MapEntry) (l : List (K × Int)) (i : Nat), es.map (fun e => (e.key, e.val)) = l.map (fun p => (enc p.1, Value.int .i64 p.2)) →
      ∃ r, (Instr.findAsking kt (enc k) es i).run Try.prog w = .ok r w ∧ (r.map (·.2)) = (l.lookup k).map (Value.int .i64)
  | [], l, i, h => by
    cases l with
    | nil => exact ⟨none, by simp [Instr.findAsking], rfl⟩
    | cons p l => simp at h
  | e :: es, l, i, h => by
    cases l with
    | nil => simp at h
    | cons p l =>
      simp only [List.map_cons, List.cons.injEq, Prod.mk.injEq] at h
      obtain ⟨⟨h1, h2⟩, h3⟩ := h
      obtain ⟨r, hr, hl⟩ := run_findAsking_l heq w k es l (i + 1) h3
      obtain ⟨pk, pv⟩ := p
      simp only [Instr.findAsking, Sem.run_bind, h1, heq, Result.andThen_ok, List.lookup_cons]
      cases hk : (k == pk)
      · exact ⟨r, by simpa using hr, by simpa using hl⟩
      · exact ⟨some (i, e.val), by simp, by simp [h2]⟩

theorem fk77 (x : Nd) (es : List MapEntry) (w : World) : (Instr.findKey 77 (ndV x) es).run Try.prog w = (Instr.findAsking 77 (ndV x) es).run Try.prog w := run_findKey_eq w (by rw [Try.underlying77]) _ es
theorem fk115 (x : Nd) (es : List MapEntry) (w : World) : (Instr.findKey 115 (ndV x) es).run Try.prog w = (Instr.findAsking 115 (ndV x) es).run Try.prog w := run_findKey_eq w (by rw [Try.underlying115]) _ es

theorem findNow_l (k : Int) : ∀ (es : List MapEntry) (l : List (Int × Int)) (i : Nat), es.map (fun e => (e.key, e.val)) = l.map (fun p => (inV p.1, Value.int .i64 p.2)) →
      ∃ r, Instr.findNow (.int .i64) (inV k) es i = some r ∧ (r.map (·.2)) = (l.lookup k).map (Value.int .i64)
  | [], l, i, h => by
    cases l with
    | nil => exact ⟨none, by simp [Instr.findNow], rfl⟩
    | cons p l => simp at h
  | e :: es, l, i, h => by
    cases l with
    | nil => simp at h
    | cons p l =>
      simp only [List.map_cons, List.cons.injEq, Prod.mk.injEq] at h
      obtain ⟨⟨h1, h2⟩, h3⟩ := h
      obtain ⟨r, hr, hl⟩ := findNow_l k es l (i + 1) h3
      obtain ⟨pk, pv⟩ := p
      simp only [inV] at h1 hr
      simp only [Instr.findNow, inV, h1, Instr.sameNow, if_true, List.lookup_cons]
      cases hk : (k == pk)
      · exact ⟨r, by simpa using hr, by simpa using hl⟩
      · exact ⟨some (i, e.val), by simp, by simp [h2]⟩

/-- A key's type with its law: it can be a key; how an entry is found. -/
structure KeyT {K : Type} [BEq K] (enc : K → Value) (kt : TypeId) : Prop where
  check : ∀ x em w, (Instr.checkKey em 10000 kt (enc x)).run Try.prog w = .ok () w
  find : ∀ (w : World) (k : K) (es : List MapEntry) (l : List (K × Int)), es.map (fun e => (e.key, e.val)) = l.map (fun p => (enc p.1, Value.int .i64 p.2)) →
    ∃ r, (Instr.findKey kt (enc k) es).run Try.prog w = .ok r w ∧ (r.map (·.2)) = (l.lookup k).map (Value.int .i64)

theorem key77 : KeyT ndV 77 := ⟨run_check77, fun w k es l h => by rw [fk77]; exact run_findAsking_l run_eq77 w k es l 0 h⟩
theorem key115 : KeyT ndV 115 := ⟨run_check115, fun w k es l h => by rw [fk115]; exact run_findAsking_l run_eq115 w k es l 0 h⟩
theorem key3 : KeyT inV 3 := ⟨run_check3, fun w k es l h => by
  obtain ⟨r, hr, hl⟩ := findNow_l k es l 0 h
  exact ⟨r, MapKept.run_findKey Try.underlying3 hr, hl⟩⟩

/-- 'v, ok := m[k]'. -/
theorem mapIs.look {K : Type} [BEq K] {enc : K → Value} {kt mt : TypeId} (T : KeyT enc kt) (hm : Try.prog.underlying mt = some (.map kt 3)) {w : World} {b : Nat} {l : List (K × Int)} (h : mapIs enc w b l) (k : K) :
    (Instr.lookup mt (.map (some b)) (enc k) true).run Try.prog w = .ok (.tuple #[.int .i64 ((l.lookup k).getD 0), .bool (l.lookup k).isSome]) w := by
  obtain ⟨es, ck, h1, h2⟩ := h
  obtain ⟨r, hr, hl⟩ := T.find w k es.toList l h2
  cases hk : l.lookup k with
  | none =>
    rw [hk] at hl
    have : r = none := by simpa using hl
    subst this
    simp [Instr.lookup, run_underlying hm, MapKept.run_getObj_map h1, T.check, hr, Result.andThen]
  | some n =>
    rw [hk] at hl
    obtain ⟨⟨j, u⟩, rfl, hu⟩ : ∃ p, r = some p ∧ p.2 = Value.int .i64 n := by simpa using hl
    simp only at hu
    subst hu
    simp [Instr.lookup, run_underlying hm, MapKept.run_getObj_map h1, T.check, hr, Result.andThen]

/-- 'm[k]'. -/
theorem mapIs.look1 {K : Type} [BEq K] {enc : K → Value} {kt mt : TypeId} (T : KeyT enc kt) (hm : Try.prog.underlying mt = some (.map kt 3)) {w : World} {b : Nat} {l : List (K × Int)} (h : mapIs enc w b l) (k : K) :
    (Instr.lookup mt (.map (some b)) (enc k) false).run Try.prog w = .ok (.int .i64 ((l.lookup k).getD 0)) w := by
  obtain ⟨es, ck, h1, h2⟩ := h
  obtain ⟨r, hr, hl⟩ := T.find w k es.toList l h2
  cases hk : l.lookup k with
  | none =>
    rw [hk] at hl
    have : r = none := by simpa using hl
    subst this
    simp [Instr.lookup, run_underlying hm, MapKept.run_getObj_map h1, T.check, hr, Result.andThen]
  | some n =>
    rw [hk] at hl
    obtain ⟨⟨j, u⟩, rfl, hu⟩ : ∃ p, r = some p ∧ p.2 = Value.int .i64 n := by simpa using hl
    simp only at hu
    subst hu
    simp [Instr.lookup, run_underlying hm, MapKept.run_getObj_map h1, T.check, hr, Result.andThen]

theorem heap_set_same {h : Array Obj} {b : Nat} {o o' : Obj} (hb : h[b]? = some o) : (h.setIfInBounds b o')[b]? = some o' := by
  have : b < h.size := by
    rcases Nat.lt_or_ge b h.size with h' | h'
    · exact h'
    · rw [Array.getElem?_eq_none h'] at hb; simp at hb
  simp [this]

/-- 'm[k] = n' at a key that is not there. -/
theorem mapIs.store {K : Type} [BEq K] {enc : K → Value} {kt mt : TypeId} (T : KeyT enc kt) (hm : Try.prog.underlying mt = some (.map kt 3)) {w : World} {b : Nat} {l : List (K × Int)} (h : mapIs enc w b l) (k : K) (n : Int) (hk : l.lookup k = none) :
    ∃ o, (Instr.mapUpdate mt (.map (some b)) (enc k) (.int .i64 n)).run Try.prog w = .ok () (ChangeMaps.setBlock w b o) ∧ mapIs enc (ChangeMaps.setBlock w b o) b (l ++ [(k, n)]) := by
  obtain ⟨es, ck, h1, h2⟩ := h
  obtain ⟨r, hr, hl⟩ := T.find w k es.toList l h2
  rw [hk] at hl
  have : r = none := by simpa using hl
  subst this
  refine ⟨.map (es.push { key := enc k, val := .int .i64 n, born := ck }) (ck + 1), ?_, ?_⟩
  · simp [Instr.mapUpdate, run_underlying hm, MapKept.run_getObj_map h1, T.check, hr, MapKept.run_setObj_map _ h1, Result.andThen, ChangeMaps.setBlock]
  · refine ⟨_, _, heap_set_same h1, ?_⟩
    simp [h2]


theorem setBlock_other {w : World} {b k : Nat} {o : Obj} (h : k ≠ b) : (ChangeMaps.setBlock w b o).heap[k]? = w.heap[k]? := by
  simp only [ChangeMaps.setBlock, Array.getElem?_setIfInBounds]
  rw [if_neg (by omega)]

/-- 'm[k] = n' at the operation. -/
theorem wpList_mapIs_store {K : Type} [BEq K] {enc : K → Value} {kt mt : TypeId} (T : KeyT enc kt) (hm : Try.prog.underlying mt = some (.map kt 3)) (w : World) {ops : Array Oper} {rest : List Oper} {o : Oper} {a : Act} {Q : Exit → Act → World → Prop}
    (hg : o.guard = none) (m x v : Operand) (hop : o.op = Op.mapUpdate mt m x v) (b : Nat) (l : List (K × Int)) (k : K) (n : Int)
    (hmv : a.eval m = .map (some b)) (hx : a.eval x = enc k) (hv : a.eval v = .int .i64 n) (h : mapIs enc w b l) (hk : l.lookup k = none)
    (hK : ∀ ob, mapIs enc (ChangeMaps.setBlock w b ob) b (l ++ [(k, n)]) → wpList Try.prog ops Q rest (a.put o.dst undef) (ChangeMaps.setBlock w b ob)) :
    wpList Try.prog ops Q (o :: rest) a w := by
  refine wpList_plain hg fun K' hK' => ?_
  obtain ⟨ob, hrun, r1⟩ := h.store T hm k n hk
  unfold Oper.wp
  simp [execOp, hop, hmv, hx, hv, hrun, Result.andThen]
  exact hK' _ _ (hK ob r1)

end Go.Proofs.Ythhogbligfmpdaa
