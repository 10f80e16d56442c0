/- Maps from ints to marks and to numbers (after the texts of the Solve seat). Printed by gwm.py. -/
import Derived.Test.YteiohgiecpibhaaGreatWl
import Derived.Maps.Own
import Derived.Maps.OwnOps
set_option linter.unusedVariables false
set_option linter.unusedSimpArgs false
namespace Go.Proofs.YteiohgiecpibhaaGreat
open Go.RowKit Fdm

/-- The first entry of a key. -/
def fi (k : Int) : List (Int × Value) → Option (Nat × Value)
  | [] => none
  | p :: l => if k = p.1 then some (0, p.2) else (fi k l).map fun x => (x.1 + 1, x.2)
theorem findNow_fi (k : Int) : ∀ (es : List MapEntry) (l : List (Int × Value)) (i : Nat), es.map (fun e => (e.key, e.val)) = l.map (fun p => (Value.int .i64 p.1, p.2)) →
    Instr.findNow (.int .i64) (.int .i64 k) es i = some ((fi k l).map fun x => (i + x.1, x.2))
  | [], l, i, h => by
    cases l with
    | nil => rfl
    | cons p l => simp at h
  | e :: es, l, i, h => by
    cases l with
    | nil => simp at h
    | cons p l =>
      simp only [List.map_cons, List.cons.injEq, Prod.mk.injEq] at h
      obtain ⟨⟨h1, h2⟩, h3⟩ := h
      have ih := findNow_fi k es l (i + 1) h3
      obtain ⟨pk, pv⟩ := p
      simp only at h1 h2
      by_cases hk : k = pk
      · subst hk
        simp [Instr.findNow, h1, Instr.sameNow, fi, h2]
      · have hb : (k == pk) = false := by simpa using hk
        simp only [Instr.findNow, h1, Instr.sameNow, if_true, hb, ih, fi, if_neg hk, Option.map_map]
        congr 2
        funext x
        simp; omega
theorem fi_set (k v' : Int) (v : Value) : ∀ (l : List (Int × Value)) (i : Nat) (u : Value), fi k l = some (i, u) → fi v' (l.set i (k, v)) = if v' = k then some (i, v) else fi v' l
  | [], i, u, h => by simp [fi] at h
  | p :: l, i, u, h => by
    unfold fi at h
    by_cases e : k = p.1
    · rw [if_pos e] at h
      simp only [Option.some.injEq, Prod.mk.injEq] at h
      obtain ⟨rfl, _⟩ := h
      simp only [List.set_cons_zero, fi]
      by_cases q : v' = k
      · simp [q]
      · simp only [if_neg q, ← e]
    · rw [if_neg e] at h
      obtain ⟨⟨j, x⟩, hj, he⟩ := Option.map_eq_some_iff.1 h
      simp only [Prod.mk.injEq] at he
      obtain ⟨rfl, rfl⟩ := he
      have ih := fi_set k v' v l j x hj
      simp only [List.set_cons_succ, fi, ih]
      by_cases q : v' = k
      · subst q; simp [e]
      · simp only [if_neg q]
theorem fi_lt {k : Int} : ∀ {l : List (Int × Value)} {i : Nat} {u : Value}, fi k l = some (i, u) → i < l.length ∧ (l[i]?).map (·.1) = some k
  | [], i, u, h => by simp [fi] at h
  | p :: l, i, u, h => by
    unfold fi at h
    by_cases e : k = p.1
    · rw [if_pos e] at h
      simp only [Option.some.injEq, Prod.mk.injEq] at h
      obtain ⟨rfl, _⟩ := h
      simp [e]
    · rw [if_neg e] at h
      obtain ⟨⟨j, x⟩, hj, he⟩ := Option.map_eq_some_iff.1 h
      simp only [Prod.mk.injEq] at he
      obtain ⟨rfl, rfl⟩ := he
      have ih := fi_lt hj
      simp; exact ⟨ih.1, by simpa using ih.2⟩
theorem fi_push (k v' : Int) (v : Value) : ∀ (l : List (Int × Value)), fi k l = none → ∃ i, fi k (l ++ [(k, v)]) = some (i, v) ∧ ∀ v', v' ≠ k → fi v' (l ++ [(k, v)]) = fi v' l
  | [], _ => ⟨0, by simp [fi], fun v' h => by simp [fi, h]⟩
  | p :: l, h => by
    unfold fi at h
    by_cases e : k = p.1
    · rw [if_pos e] at h; simp at h
    · rw [if_neg e, Option.map_eq_none_iff] at h
      obtain ⟨i, h1, h2⟩ := fi_push k v' v l h
      refine ⟨i + 1, by simp [fi, e, h1], fun v' hv => ?_⟩
      simp only [List.cons_append, fi, h2 v' hv]
/-- Block b is a map with these entries. -/
def MpI (w : World) (b : Nat) (l : List (Int × Value)) : Prop := ∃ es ck, w.heap[b]? = some (.map es ck) ∧ es.toList.map (fun e => (e.key, e.val)) = l.map (fun p => (Value.int .i64 p.1, p.2))
theorem MpI.of_block {w w' : World} {b : Nat} {l : List (Int × Value)} (h : MpI w b l) (hb : w'.heap[b]? = w.heap[b]?) : MpI w' b l := by
  obtain ⟨es, ck, h1, h2⟩ := h
  exact ⟨es, ck, hb.trans h1, h2⟩
theorem run_check3z (x : Int) (em : Bool) (w : World) : (Instr.checkKey em 10000 3 (.int .i64 x)).run Tryz.prog w = .ok () w := by kernel_rfl
theorem find3z {w : World} {b : Nat} {l : List (Int × Value)} {es : Array MapEntry} (h2 : es.toList.map (fun e => (e.key, e.val)) = l.map (fun p => (Value.int .i64 p.1, p.2))) (k : Int) :
    (Instr.findKey 3 (.int .i64 k) es.toList).run Tryz.prog w = .ok (fi k l) w := by
  have := findNow_fi k es.toList l 0 h2
  have e : ((fi k l).map fun x => (0 + x.1, x.2)) = fi k l := by
    cases fi k l with
    | none => rfl
    | some x => simp
  rw [e] at this
  exact MapKept.run_findKey Tryz.underlying3 this
theorem heap_set_samez {h : Array Obj} {b : Nat} {o o' : Obj} (hb : h[b]? = some o) : (h.setIfInBounds b o')[b]? = some o' := by
  have : b < h.size := by
    rcases Nat.lt_or_ge b h.size with h' | h'
    · exact h'
    · rw [Array.getElem?_eq_none h'] at hb; simp at hb
  simp [this]
/-- What a map reads as behind 'm[k] = v'. -/
def mpS (l : List (Int × Value)) (k : Int) (v : Value) : List (Int × Value) := match fi k l with | some (i, _) => l.set i (k, v) | none => l ++ [(k, v)]
theorem mpS_fi (l : List (Int × Value)) (k : Int) (v : Value) (k' : Int) : ((fi k' (mpS l k v)).map (·.2)) = if k' = k then some v else (fi k' l).map (·.2) := by
  unfold mpS
  cases hk : fi k l with
  | none =>
    obtain ⟨i, h1, h2⟩ := fi_push k k v l hk
    simp only
    by_cases e : k' = k
    · subst e; rw [h1]; simp
    · rw [h2 k' e, if_neg e]
  | some p =>
    obtain ⟨i, u⟩ := p
    simp only
    rw [fi_set k k' v l i u hk]
    by_cases e : k' = k
    · simp [e]
    · simp [e]
theorem keyStays (x : Int) (w : World) : (Instr.keyThatStays (.int .i64 x) (.int .i64 x)).run Tryz.prog w = .ok (.int .i64 x) w := by
  have : Instr.sameBits 10000 (.int .i64 x) (.int .i64 x) = true := by simp [Instr.sameBits]
  simp [Instr.keyThatStays, this]
theorem setBlock_oth {w : World} {b k : Nat} {o : Obj} (h : k ≠ b) : (ChangeMaps.setBlock w b o).heap[k]? = w.heap[k]? := by
  simp only [ChangeMaps.setBlock, Array.getElem?_setIfInBounds]
  rw [if_neg (by omega)]
theorem grown_setBlock (w : World) (b : Nat) (o : Obj) : w.grownBy (ChangeMaps.setBlock w b o) (some b) :=
  ⟨rfl, rfl, rfl, by simp [ChangeMaps.setBlock], fun k _ hne => setBlock_oth fun e => hne (by rw [e])⟩
theorem below_setBlock {k b : Nat} {w0 w : World} (h : Below k w0 w) (hk : k ≤ b) (o : Obj) : Below k w0 (ChangeMaps.setBlock w b o) :=
  ⟨h.os, h.tape, h.output, by simpa [ChangeMaps.setBlock] using h.size, fun q hq => (setBlock_oth (by omega)).trans (h.block q hq)⟩
theorem MpI.ne {w : World} {b : Nat} {l : List (Int × Value)} (h : MpI w b l) {g : Nat} {arr : Array Value} {ty : Nat} {z : Nat × Nat} (hg : w.heap[g]? = some (.cells arr ty z)) : g ≠ b := by
  rintro rfl
  obtain ⟨es, ck, h1, _⟩ := h
  rw [h1] at hg; simp at hg
theorem MpI.lt {w : World} {b : Nat} {l : List (Int × Value)} (h : MpI w b l) : b < w.heap.size := by
  obtain ⟨es, ck, h1, _⟩ := h
  exact (Array.getElem?_eq_some_iff.1 h1).1
theorem MpI.below {w w' : World} {b : Nat} {l : List (Int × Value)} (h : MpI w b l) (hb : Below w.heap.size w w') : MpI w' b l := h.of_block (hb.block b h.lt)
theorem zerob (w : World) : (zeroValue 4).run Tryz.prog w = .ok (.bool false) w := by kernel_rfl
def nvb : Value := .bool false
/-- 'v, ok := m[k]'. -/
theorem MpI.lookb {w : World} {b : Nat} {l : List (Int × Value)} (h : MpI w b l) (k : Int) :
    (Instr.lookup 128 (.map (some b)) (.int .i64 k) true).run Tryz.prog w = .ok (.tuple #[((fi k l).map (·.2)).getD nvb, .bool (fi k l).isSome]) w := by
  obtain ⟨es, ck, h1, h2⟩ := h
  have hr := find3z (w := w) (b := b) h2 k
  cases hk : fi k l with
  | none =>
    rw [hk] at hr
    simp [Instr.lookup, run_underlying Tryz.underlying128, MapKept.run_getObj_map h1, run_check3z, hr, Result.andThen, zerob, nvb]
  | some p =>
    rw [hk] at hr
    simp [Instr.lookup, run_underlying Tryz.underlying128, MapKept.run_getObj_map h1, run_check3z, hr, Result.andThen, zerob]
theorem MpI.looksb {w : World} {b : Nat} {l : List (Int × Value)} (h : MpI w b l) (k : Int) :
    (Instr.lookup 128 (.map (some b)) (.int .i64 k) false).run Tryz.prog w = .ok (((fi k l).map (·.2)).getD nvb) w := by
  obtain ⟨es, ck, h1, h2⟩ := h
  have hr := find3z (w := w) (b := b) h2 k
  cases hk : fi k l with
  | none =>
    rw [hk] at hr
    simp [Instr.lookup, run_underlying Tryz.underlying128, MapKept.run_getObj_map h1, run_check3z, hr, Result.andThen, zerob, nvb]
  | some p =>
    rw [hk] at hr
    simp [Instr.lookup, run_underlying Tryz.underlying128, MapKept.run_getObj_map h1, run_check3z, hr, Result.andThen, zerob]
theorem MpI.storeb {w : World} {b : Nat} {l : List (Int × Value)} (h : MpI w b l) (k : Int) (v : Value) :
    ∃ o, (Instr.mapUpdate 128 (.map (some b)) (.int .i64 k) v).run Tryz.prog w = .ok () (ChangeMaps.setBlock w b o) ∧ MpI (ChangeMaps.setBlock w b o) b (mpS l k v) := by
  obtain ⟨es, ck, h1, h2⟩ := h
  have hr := find3z (w := w) (b := b) h2 k
  cases hk : fi k l with
  | none =>
    rw [hk] at hr
    refine ⟨.map (es.push { key := .int .i64 k, val := v, born := ck }) (ck + 1), ?_, ?_⟩
    · simp [Instr.mapUpdate, run_underlying Tryz.underlying128, MapKept.run_getObj_map h1, run_check3z, hr, MapKept.run_setObj_map _ h1, Result.andThen, ChangeMaps.setBlock]
    · refine ⟨_, _, heap_set_samez h1, ?_⟩
      unfold mpS
      rw [hk]
      simp [h2]
  | some p =>
    obtain ⟨i, u⟩ := p
    rw [hk] at hr
    obtain ⟨lt, ke⟩ := fi_lt hk
    have hl : es.toList.length = l.length := by have := congrArg List.length h2; simpa using this
    have ei : (es[i]?).map (·.key) = some (.int .i64 k) := by
      have := congrArg (fun q => (q[i]?).map (·.1)) h2
      simp only [List.getElem?_map, Option.map_map] at this
      rw [← Array.getElem?_toList]
      obtain ⟨e, he⟩ : ∃ e, es.toList[i]? = some e := ⟨_, List.getElem?_eq_getElem (by omega)⟩
      obtain ⟨q, hq⟩ : ∃ q, l[i]? = some q := ⟨_, List.getElem?_eq_getElem lt⟩
      rw [he, hq] at this
      rw [hq] at ke
      rw [he]
      simp at this ke ⊢
      rw [this, ke]
    refine ⟨.map (es.modify i fun e => { e with key := .int .i64 k, val := v }) ck, ?_, ?_⟩
    · have ks : (Instr.keyThatStays (.int .i64 k) (.int .i64 k)).run Tryz.prog w = .ok (.int .i64 k) w := keyStays k w
      simp [Instr.mapUpdate, run_underlying Tryz.underlying128, MapKept.run_getObj_map h1, run_check3z, hr, MapKept.run_setObj_map _ h1, Result.andThen, ChangeMaps.setBlock, ei, ks]
    · refine ⟨_, _, heap_set_samez h1, ?_⟩
      unfold mpS
      rw [hk]
      simp only
      rw [Array.toList_modify]
      refine List.ext_getElem? fun j => ?_
      have := congrArg (fun q => q[j]?) h2
      simp only [List.getElem?_map] at this ⊢
      rw [List.getElem?_modify, List.getElem?_set]
      by_cases e : i = j
      · subst e
        obtain ⟨e, he⟩ : ∃ e, es.toList[i]? = some e := ⟨_, List.getElem?_eq_getElem (by omega)⟩
        simp [he, lt]
      · simp only [if_neg e]
        simpa using this

theorem wpList_mp_lookb (w : World) {ops : Array Oper} {rest : List Oper} {o : Oper} {a : Act} {Q : Exit → Act → World → Prop} (hg : o.guard = none) (m x : Operand) (c : Bool) (hop : o.op = Op.lookup 128 m x c) (b : Nat) (l : List (Int × Value)) (k : Int)
    (hm : a.eval m = .map (some b)) (hx : a.eval x = .int .i64 k) (h : MpI w b l)
    (hK : wpList Tryz.prog ops Q rest (a.put o.dst (if c then .tuple #[((fi k l).map (·.2)).getD nvb, .bool (fi k l).isSome] else ((fi k l).map (·.2)).getD nvb)) w) :
    wpList Tryz.prog ops Q (o :: rest) a w := by
  refine wpList_plain hg fun K' hK' => ?_
  have h1 := h.lookb k
  have h2 := h.looksb k
  unfold Oper.wp
  cases c with
  | true => simp [execOp, hop, hm, hx, h1, Result.andThen]; exact hK' _ _ hK
  | false => simp [execOp, hop, hm, hx, h2, Result.andThen]; exact hK' _ _ hK
theorem wp_mp_storeb (w : World) {o : Oper} {a : Act} {K : Act → World → Prop} {Q : Exit → Act → World → Prop} (m x v : Operand) (hop : o.op = Op.mapUpdate 128 m x v) (b : Nat) (l : List (Int × Value)) (k : Int) (u : Value)
    (hm : a.eval m = .map (some b)) (hx : a.eval x = .int .i64 k) (hv : a.eval v = u) (h : MpI w b l)
    (hK : ∀ ob, MpI (ChangeMaps.setBlock w b ob) b (mpS l k u) → K (a.put o.dst undef) (ChangeMaps.setBlock w b ob)) : Oper.wp Tryz.prog o a w K Q := by
  obtain ⟨ob, hrun, r1⟩ := h.storeb k u
  unfold Oper.wp
  simp [execOp, hop, hm, hx, hv, hrun, Result.andThen]
  exact hK ob r1
theorem zeroi (w : World) : (zeroValue 3).run Tryz.prog w = .ok (.int .i64 0) w := by kernel_rfl
def nvi : Value := .int .i64 0
/-- 'v, ok := m[k]'. -/
theorem MpI.looki {w : World} {b : Nat} {l : List (Int × Value)} (h : MpI w b l) (k : Int) :
    (Instr.lookup 145 (.map (some b)) (.int .i64 k) true).run Tryz.prog w = .ok (.tuple #[((fi k l).map (·.2)).getD nvi, .bool (fi k l).isSome]) w := by
  obtain ⟨es, ck, h1, h2⟩ := h
  have hr := find3z (w := w) (b := b) h2 k
  cases hk : fi k l with
  | none =>
    rw [hk] at hr
    simp [Instr.lookup, run_underlying Tryz.underlying145, MapKept.run_getObj_map h1, run_check3z, hr, Result.andThen, zeroi, nvi]
  | some p =>
    rw [hk] at hr
    simp [Instr.lookup, run_underlying Tryz.underlying145, MapKept.run_getObj_map h1, run_check3z, hr, Result.andThen, zeroi]
theorem MpI.looksi {w : World} {b : Nat} {l : List (Int × Value)} (h : MpI w b l) (k : Int) :
    (Instr.lookup 145 (.map (some b)) (.int .i64 k) false).run Tryz.prog w = .ok (((fi k l).map (·.2)).getD nvi) w := by
  obtain ⟨es, ck, h1, h2⟩ := h
  have hr := find3z (w := w) (b := b) h2 k
  cases hk : fi k l with
  | none =>
    rw [hk] at hr
    simp [Instr.lookup, run_underlying Tryz.underlying145, MapKept.run_getObj_map h1, run_check3z, hr, Result.andThen, zeroi, nvi]
  | some p =>
    rw [hk] at hr
    simp [Instr.lookup, run_underlying Tryz.underlying145, MapKept.run_getObj_map h1, run_check3z, hr, Result.andThen, zeroi]
theorem MpI.storei {w : World} {b : Nat} {l : List (Int × Value)} (h : MpI w b l) (k : Int) (v : Value) :
    ∃ o, (Instr.mapUpdate 145 (.map (some b)) (.int .i64 k) v).run Tryz.prog w = .ok () (ChangeMaps.setBlock w b o) ∧ MpI (ChangeMaps.setBlock w b o) b (mpS l k v) := by
  obtain ⟨es, ck, h1, h2⟩ := h
  have hr := find3z (w := w) (b := b) h2 k
  cases hk : fi k l with
  | none =>
    rw [hk] at hr
    refine ⟨.map (es.push { key := .int .i64 k, val := v, born := ck }) (ck + 1), ?_, ?_⟩
    · simp [Instr.mapUpdate, run_underlying Tryz.underlying145, MapKept.run_getObj_map h1, run_check3z, hr, MapKept.run_setObj_map _ h1, Result.andThen, ChangeMaps.setBlock]
    · refine ⟨_, _, heap_set_samez h1, ?_⟩
      unfold mpS
      rw [hk]
      simp [h2]
  | some p =>
    obtain ⟨i, u⟩ := p
    rw [hk] at hr
    obtain ⟨lt, ke⟩ := fi_lt hk
    have hl : es.toList.length = l.length := by have := congrArg List.length h2; simpa using this
    have ei : (es[i]?).map (·.key) = some (.int .i64 k) := by
      have := congrArg (fun q => (q[i]?).map (·.1)) h2
      simp only [List.getElem?_map, Option.map_map] at this
      rw [← Array.getElem?_toList]
      obtain ⟨e, he⟩ : ∃ e, es.toList[i]? = some e := ⟨_, List.getElem?_eq_getElem (by omega)⟩
      obtain ⟨q, hq⟩ : ∃ q, l[i]? = some q := ⟨_, List.getElem?_eq_getElem lt⟩
      rw [he, hq] at this
      rw [hq] at ke
      rw [he]
      simp at this ke ⊢
      rw [this, ke]
    refine ⟨.map (es.modify i fun e => { e with key := .int .i64 k, val := v }) ck, ?_, ?_⟩
    · have ks : (Instr.keyThatStays (.int .i64 k) (.int .i64 k)).run Tryz.prog w = .ok (.int .i64 k) w := keyStays k w
      simp [Instr.mapUpdate, run_underlying Tryz.underlying145, MapKept.run_getObj_map h1, run_check3z, hr, MapKept.run_setObj_map _ h1, Result.andThen, ChangeMaps.setBlock, ei, ks]
    · refine ⟨_, _, heap_set_samez h1, ?_⟩
      unfold mpS
      rw [hk]
      simp only
      rw [Array.toList_modify]
      refine List.ext_getElem? fun j => ?_
      have := congrArg (fun q => q[j]?) h2
      simp only [List.getElem?_map] at this ⊢
      rw [List.getElem?_modify, List.getElem?_set]
      by_cases e : i = j
      · subst e
        obtain ⟨e, he⟩ : ∃ e, es.toList[i]? = some e := ⟨_, List.getElem?_eq_getElem (by omega)⟩
        simp [he, lt]
      · simp only [if_neg e]
        simpa using this

theorem wpList_mp_looki (w : World) {ops : Array Oper} {rest : List Oper} {o : Oper} {a : Act} {Q : Exit → Act → World → Prop} (hg : o.guard = none) (m x : Operand) (c : Bool) (hop : o.op = Op.lookup 145 m x c) (b : Nat) (l : List (Int × Value)) (k : Int)
    (hm : a.eval m = .map (some b)) (hx : a.eval x = .int .i64 k) (h : MpI w b l)
    (hK : wpList Tryz.prog ops Q rest (a.put o.dst (if c then .tuple #[((fi k l).map (·.2)).getD nvi, .bool (fi k l).isSome] else ((fi k l).map (·.2)).getD nvi)) w) :
    wpList Tryz.prog ops Q (o :: rest) a w := by
  refine wpList_plain hg fun K' hK' => ?_
  have h1 := h.looki k
  have h2 := h.looksi k
  unfold Oper.wp
  cases c with
  | true => simp [execOp, hop, hm, hx, h1, Result.andThen]; exact hK' _ _ hK
  | false => simp [execOp, hop, hm, hx, h2, Result.andThen]; exact hK' _ _ hK
theorem wp_mp_storei (w : World) {o : Oper} {a : Act} {K : Act → World → Prop} {Q : Exit → Act → World → Prop} (m x v : Operand) (hop : o.op = Op.mapUpdate 145 m x v) (b : Nat) (l : List (Int × Value)) (k : Int) (u : Value)
    (hm : a.eval m = .map (some b)) (hx : a.eval x = .int .i64 k) (hv : a.eval v = u) (h : MpI w b l)
    (hK : ∀ ob, MpI (ChangeMaps.setBlock w b ob) b (mpS l k u) → K (a.put o.dst undef) (ChangeMaps.setBlock w b ob)) : Oper.wp Tryz.prog o a w K Q := by
  obtain ⟨ob, hrun, r1⟩ := h.storei k u
  unfold Oper.wp
  simp [execOp, hop, hm, hx, hv, hrun, Result.andThen]
  exact hK ob r1

theorem wpList_mp_storeb (w : World) {ops : Array Oper} {rest : List Oper} {o : Oper} {a : Act} {Q : Exit → Act → World → Prop} (hg : o.guard = none) (m x v : Operand) (hop : o.op = Op.mapUpdate 128 m x v) (b : Nat) (l : List (Int × Value)) (k : Int) (u : Value)
    (hm : a.eval m = .map (some b)) (hx : a.eval x = .int .i64 k) (hv : a.eval v = u) (h : MpI w b l)
    (hK : ∀ ob, MpI (ChangeMaps.setBlock w b ob) b (mpS l k u) → wpList Tryz.prog ops Q rest (a.put o.dst undef) (ChangeMaps.setBlock w b ob)) : wpList Tryz.prog ops Q (o :: rest) a w :=
  wpList_plain hg fun _ hK' => wp_mp_storeb w m x v hop b l k u hm hx hv h fun ob r => hK' _ _ (hK ob r)
theorem wpList_mp_storei (w : World) {ops : Array Oper} {rest : List Oper} {o : Oper} {a : Act} {Q : Exit → Act → World → Prop} (hg : o.guard = none) (m x v : Operand) (hop : o.op = Op.mapUpdate 145 m x v) (b : Nat) (l : List (Int × Value)) (k : Int) (u : Value)
    (hm : a.eval m = .map (some b)) (hx : a.eval x = .int .i64 k) (hv : a.eval v = u) (h : MpI w b l)
    (hK : ∀ ob, MpI (ChangeMaps.setBlock w b ob) b (mpS l k u) → wpList Tryz.prog ops Q rest (a.put o.dst undef) (ChangeMaps.setBlock w b ob)) : wpList Tryz.prog ops Q (o :: rest) a w :=
  wpList_plain hg fun _ hK' => wp_mp_storei w m x v hop b l k u hm hx hv h fun ob r => hK' _ _ (hK ob r)
/-- Marks kept in a map: those of the numbers of a list. -/
def mkM : List Int → List (Int × Value)
  | [] => []
  | v :: l => mpS (mkM l) v (.bool true)
theorem mkM_fi (k : Int) : ∀ l : List Int, ((fi k (mkM l)).map (·.2)).getD nvb = .bool (l.contains k)
  | [] => rfl
  | v :: l => by
    show (((fi k (mpS (mkM l) v (.bool true))).map (·.2))).getD nvb = _
    rw [mpS_fi]
    by_cases e : k = v
    · subst e; simp
    · rw [if_neg e, mkM_fi k l]; simp [e]
end Go.Proofs.YteiohgiecpibhaaGreat
