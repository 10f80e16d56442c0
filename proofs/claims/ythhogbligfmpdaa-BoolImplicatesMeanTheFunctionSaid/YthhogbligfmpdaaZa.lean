/- The reference's Primes: its parts. -/
import Derived.Test.YthhogbligfmpdaaYz
import Derived.Test.YthhogbligfmpdaaYx
set_option linter.unusedVariables false
set_option linter.unusedSimpArgs false
namespace Go.Proofs.Ythhogbligfmpdaa
open Go.RowKit Bd

theorem rpB_prime {T : List Bool} {vs : List Int} (hv : Vs vs) (hd : Dep T vs) {cl : List Int} (hs : Sel vs cl) : rpB (tru T vs (2 ^ vs.length)) cl = true ↔ Prime T cl := by
  unfold rpB
  rw [@decide_eq_true_iff _ (Classical.propDecidable _)]
  unfold rprime Prime
  rw [rimp_iff hv hd hs]
  refine and_congr Iff.rfl (forall_congr' fun i => forall_congr' fun hi => ?_)
  have := rimp_iff hv hd (sel_erase i hs)
  rw [← this]
  simp

/-- The row turned, each list as it was. -/
theorem OL.reorder {S : Nat → Prop} {w w' : World} {g n cap : Nat} {LS LS' : List (List Int)} {VS VS' : List Value} (h : OL S w (.slice (some ⟨g, 0, none⟩) n cap) LS VS) (hr : w'.ownsRow 0 53 1 (.slice (some ⟨g, 0, none⟩) n cap) n VS') (hg : w.grownBy w' (some g)) (hl : LS'.length = n) (hn : LS.length = n)
    (hm : ∀ i, i < n → ∃ j, j < n ∧ VS'[i]? = VS[j]? ∧ LS'.getD i [] = LS.getD j []) : OL S w' (.slice (some ⟨g, 0, none⟩) n cap) LS' VS' := by
  refine ⟨by rw [hl]; exact hr, h.rs, fun i hi => ?_, fun k hk => Nat.lt_of_lt_of_le (h.lt k hk) hg.size⟩
  obtain ⟨j, hj, e1, e2⟩ := hm i (by omega)
  obtain ⟨a, c, e3, e4⟩ := h.each j (by omega)
  refine ⟨a, c, by rw [e1, e2]; exact e3, fun hne => ?_⟩
  rw [e2] at hne
  obtain ⟨g', f1, f2, f3, f4⟩ := e4 hne
  refine ⟨g', f1, f2, f3, fun q hq => ?_⟩
  rw [e2] at hq ⊢
  exact (World.cell?_of_block (a := ⟨g', q, none⟩) (hg.block g' (h.lt g' f2) (fun e => f3 (show (some g : Option Nat) = some g' from e.symm)))).trans (f4 q hq)

/-- A list moved from the end to a place. -/
theorem OL.insert {S : Nat → Prop} {w w' : World} {g n m cap : Nat} {ls : List (List Int)} {l : List Int} {vals : List Value} {v : Value} (h : OL S w (.slice (some ⟨g, 0, none⟩) (n + 1) cap) (ls ++ [l]) (vals ++ [v])) (hln : ls.length = n) (hmn : m ≤ n) (hg : w.grownBy w' (some g))
    (hr : w'.ownsRow 0 53 1 (.slice (some ⟨g, 0, none⟩) (n + 1) cap) (n + 1) (vals.take m ++ v :: vals.drop m)) : OL S w' (.slice (some ⟨g, 0, none⟩) (n + 1) cap) (ls.take m ++ l :: ls.drop m) (vals.take m ++ v :: vals.drop m) := by
  have hvl : vals.length = n := by have := h.vlen; simp at this; omega
  refine h.reorder hr hg (by simp; omega) (by simp; omega) fun i hi => ?_
  rcases Nat.lt_trichotomy i m with x | x | x
  · refine ⟨i, hi, ?_, ?_⟩
    · rw [List.getElem?_append_left (by simp; omega), List.getElem?_take, if_pos x, List.getElem?_append_left (by omega)]
    · rw [List.getD_eq_getElem?_getD, List.getD_eq_getElem?_getD, List.getElem?_append_left (by simp; omega), List.getElem?_take, if_pos x, List.getElem?_append_left (by omega)]
  · subst x
    refine ⟨n, by omega, ?_, ?_⟩
    · rw [List.getElem?_append_right (by rw [List.length_take]; omega), List.getElem?_append_right (by omega)]
      simp [hvl, Nat.min_eq_left hmn]
    · rw [List.getD_eq_getElem?_getD, List.getD_eq_getElem?_getD, List.getElem?_append_right (by rw [List.length_take]; omega), List.getElem?_append_right (by omega)]
      simp [hln, Nat.min_eq_left hmn]
  · obtain ⟨d, rfl⟩ : ∃ d, i = m + 1 + d := ⟨i - (m + 1), by omega⟩
    refine ⟨m + d, by omega, ?_, ?_⟩
    · rw [List.getElem?_append_right (by simp; omega), List.getElem?_append_left (by omega)]
      have : m + 1 + d - (vals.take m).length = d + 1 := by simp [hvl]; omega
      rw [this, List.getElem?_cons_succ, List.getElem?_drop]
    · rw [List.getD_eq_getElem?_getD, List.getD_eq_getElem?_getD, List.getElem?_append_right (by simp; omega), List.getElem?_append_left (by omega)]
      have : m + 1 + d - (ls.take m).length = d + 1 := by simp [hln]; omega
      rw [this, List.getElem?_cons_succ, List.getElem?_drop]

/-- One step of the shift. -/
theorem shift_set {vals : List Value} {n m : Nat} {j : Value} (hvl : vals.length = n) (hm : m + 1 ≤ n) : (vals.take (m + 1) ++ j :: vals.drop (m + 1)).set (m + 1) (vals.getD m (.bool false)) = vals.take m ++ vals.getD m (.bool false) :: vals.drop m := by
  have hlt : m < vals.length := by omega
  rw [List.set_append_right _ _ (by simp; omega)]
  have : m + 1 - (vals.take (m + 1)).length = 0 := by simp; omega
  have e1 := List.take_succ_eq_append_getElem hlt
  have e2 := List.drop_eq_getElem_cons hlt
  have e3 : vals.getD m (.bool false) = vals[m] := by rw [List.getD_eq_getElem?_getD, List.getElem?_eq_getElem hlt]; rfl
  rw [this, List.set_cons_zero, e3, e2, e1, List.append_assoc]
  rfl
theorem shift_get {vals : List Value} {n m : Nat} {j : Value} (hvl : vals.length = n) (hm : m + 1 ≤ n) : (vals.take (m + 1) ++ j :: vals.drop (m + 1))[m]? = some (vals.getD m (.bool false)) := by
  have hlt : m < vals.length := by omega
  rw [List.getElem?_append_left (by simp; omega), List.getElem?_take, if_pos (by omega), List.getElem?_eq_getElem hlt, List.getD_eq_getElem?_getD, List.getElem?_eq_getElem hlt]
  rfl
theorem place_set {vals : List Value} {n m : Nat} {j v : Value} (hvl : vals.length = n) (hm : m ≤ n) : (vals.take m ++ j :: vals.drop m).set m v = vals.take m ++ v :: vals.drop m := by
  rw [List.set_append_right _ _ (by rw [List.length_take]; omega)]
  have : m - (vals.take m).length = 0 := by simp; omega
  rw [this, List.set_cons_zero]

theorem drop_cons {vs : List Int} {i : Nat} (h : i < vs.length) : vs.drop i = vs.getD i 0 :: vs.drop (i + 1) := drop_getD h
theorem ck_one {q : Nat} {v : Int} {vs : List Int} (h : q % 3 = 1) : ck q (v :: vs) = (v + 1) :: ck (q / 3) vs := by simp only [ck]; rw [if_pos h]; rfl
theorem ck_two {q : Nat} {v : Int} {vs : List Int} (h : q % 3 = 2) : ck q (v :: vs) = (-v - 1) :: ck (q / 3) vs := by simp only [ck]; rw [if_neg (by omega), if_pos h]; rfl
theorem ck_nil {q : Nat} {v : Int} {vs : List Int} (h : q % 3 = 0) : ck q (v :: vs) = ck (q / 3) vs := by simp only [ck]; rw [if_neg (by omega), if_neg (by omega)]; rfl

theorem place_get {vals : List Value} {n m : Nat} {j : Value} (hvl : vals.length = n) (hm : m ≤ n) : (vals.take m ++ j :: vals.drop m)[m]? = some j := by
  rw [List.getElem?_append_right (by rw [List.length_take]; omega)]
  have : m - (vals.take m).length = 0 := by simp; omega
  rw [this]; rfl
theorem own_ge {D g7 g n c : Nat} (h : (Value.slice (some ⟨g7, 0, none⟩) n c).ownBlock = some g) (hD : D ≤ g7) : D ≤ g := by
  have e : g7 = g := by injection h
  rw [← e]; exact hD
theorem gb_trans {w w1 w2 : World} {g : Nat} (h : w.grownBy w1 (some g)) (k : w1.grownBy w2 (some g)) : w.grownBy w2 (some g) :=
  ⟨k.os.trans h.os, k.tape.trans h.tape, k.output.trans h.output, Nat.le_trans h.size k.size, fun b hb hn => (k.block b (Nat.lt_of_lt_of_le hb h.size) hn).trans (h.block b hb hn)⟩
theorem OL.iAt {S : Nat → Prop} {w : World} {g n cap : Nat} {LS : List (List Int)} {VS : List Value} (h : OL S w (.slice (some ⟨g, 0, none⟩) n cap) LS VS) {i : Nat} (hi : i < LS.length) : ∃ a c, VS[i]? = some (.slice a (LS.getD i []).length c) ∧ ∀ W, w.grownBy W (some g) → IAt W (LS.getD i []) a := by
  obtain ⟨a, c, e, f⟩ := h.each i hi
  refine ⟨a, c, e, fun W hW hne => ?_⟩
  obtain ⟨g', e1, e2, e3, e4⟩ := f hne
  refine ⟨g', 0, e1, fun j hj => ?_⟩
  rw [Nat.zero_add]
  exact (World.cell?_of_block (a := ⟨g', j, none⟩) (hW.block g' (h.lt g' e2) (fun e => e3 (show (some g : Option Nat) = some g' from e.symm)))).trans (e4 j hj)

/-- The loop that multiplies. -/
def ThL (n : Nat) (av iv : Value) : Prop := ∃ i : Nat, i ≤ n ∧ iv = .int .i64 i ∧ av = .int .i64 ((3 ^ i : Nat) : Int)
/-- The loop over the clauses. -/
def PkL (T : List Bool) (vs : List Int) (N D : Nat) (w : World) (ov kv : Value) (wr : World) : Prop :=
  ∃ (k len : Nat) (ls : List (List Int)) (S : Nat → Prop) (vals : List Value) (oa : Option Addr) (oc : Nat), k ≤ N ∧ len ≤ k ∧ kv = .int .i64 k ∧ ov = .slice oa len oc ∧ ls.length = len ∧ PrK T vs k ls ∧ OL S wr ov ls vals ∧ (∀ b, S b → D ≤ b) ∧ Below D w wr
/-- The loop that makes a clause. -/
def PcL (vs : List Int) (k nv : Nat) (w : World) (cv nvv iv : Value) (wr : World) : Prop :=
  ∃ (i q m : Nat) (p : List Int) (la : Option Addr) (lc : Nat), i ≤ nv ∧ q ≤ 65536 ∧ m ≤ i ∧ cv = .slice la m lc ∧ nvv = .int .i64 q ∧ iv = .int .i64 i ∧ wr.ownsRow w.heap.size 3 1 cv m (p.map (Value.int .i64)) ∧ p ++ ck q (vs.drop i) = ck k vs ∧ Below w.heap.size w wr
/-- The loop that makes room. -/
def PsL (cl : List Int) (ls : List (List Int)) (vals : List Value) (g n cap : Nat) (w : World) (av : Value) (wr : World) : Prop :=
  ∃ (m : Nat) (j : Value), m ≤ n ∧ av = .int .i64 m ∧ (∀ i, m ≤ i → i < n → lbf cl (ls.getD i []) = true) ∧ wr.ownsRow 0 53 1 (.slice (some ⟨g, 0, none⟩) (n + 1) cap) (n + 1) (vals.take m ++ j :: vals.drop m) ∧ w.grownBy wr (some g)

theorem three_eight {n : Nat} (h : n ≤ 8) : 3 ^ n ≤ 6561 := by
  have : 3 ^ n ≤ 3 ^ 8 := Nat.pow_le_pow_right (by omega) h
  omega
end Go.Proofs.Ythhogbligfmpdaa
