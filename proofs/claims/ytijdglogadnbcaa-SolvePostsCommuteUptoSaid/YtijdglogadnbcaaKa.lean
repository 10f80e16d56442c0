/- Rows as handed in, in any order; in memory. -/
import Derived.Test.YtijdglogadnbcaaZ48
set_option linter.unusedVariables false
set_option linter.unusedSimpArgs false
set_option maxRecDepth 100000
set_option maxHeartbeats 40000000
namespace Go.Proofs.Ytijdglogadnbcaa
open Go.RowKit Nt Bl
/-- A row as handed in. -/
structure Rw where
  rel : Int
  l : List Cf
  B : Raw
instance : Inhabited Rw := ⟨⟨0, [], default⟩⟩
def Rw.q (R : Rw) : Rl := rowQ R.rel R.l R.B
def rws (l : List Rw) : List Rl := l.map Rw.q
def rwAt (l : List Rw) (i : Nat) : Rw := l.getD i default
/-- All rows can be posted. -/
def Adm (n : Nat) (l : List Rw) : Prop := (∀ R, R ∈ l → rowN (n : Int) R.rel R.l R.B = 0) ∧ l.length ≤ 40 ∧ ∃ x, Sol (lns (rws l)) n x
theorem sol_sub {l k : List Rl} {n : Nat} {x : Nat → Rat} (h : ∀ r, r ∈ k → r ∈ l) (s : Sol (lns l) n x) : Sol (lns k) n x := by
  intro r hr
  obtain ⟨R, hR, rfl⟩ := List.mem_map.1 hr
  exact s _ (List.mem_map.2 ⟨R, h R hR, rfl⟩)
theorem rws_sub {l k : List Rw} (h : ∀ r, r ∈ k → r ∈ l) : ∀ r, r ∈ rws k → r ∈ rws l := by
  intro r hr
  obtain ⟨R, hR, rfl⟩ := List.mem_map.1 hr
  exact List.mem_map.2 ⟨R, h R hR, rfl⟩
theorem Adm.sub {n : Nat} {l k : List Rw} (a : Adm n l) (h : ∀ r, r ∈ k → r ∈ l) (hl : k.length ≤ l.length) : Adm n k := by
  obtain ⟨a, b, x, s⟩ := a
  exact ⟨fun R hR => a R (h R hR), Nat.le_trans hl b, x, sol_sub (rws_sub h) s⟩
theorem Adm.rev {n : Nat} {l : List Rw} : Adm n l.reverse ↔ Adm n l :=
  ⟨fun a => a.sub (fun r hr => List.mem_reverse.2 hr) (by simp), fun a => a.sub (fun r hr => List.mem_reverse.1 hr) (by simp)⟩
theorem sol_rev {n : Nat} {l : List Rw} : Sol (lns (rws l.reverse)) n = Sol (lns (rws l)) n := by
  funext x
  exact propext ⟨sol_sub (rws_sub fun r hr => List.mem_reverse.2 hr), sol_sub (rws_sub fun r hr => List.mem_reverse.1 hr)⟩
theorem take_next {l : List Rw} {i : Nat} (h : i < l.length) : l.take (i + 1) = l.take i ++ [rwAt l i] := by
  rw [List.take_succ_eq_append_getElem h]
  unfold rwAt
  rw [List.getD_eq_getElem?_getD, List.getElem?_eq_getElem h]
  rfl
theorem rws_next {l : List Rw} {i : Nat} (h : i < l.length) : rws (l.take (i + 1)) = rws (l.take i) ++ [(rwAt l i).q] := by
  rw [take_next h]; simp [rws]
theorem adm_next {n i : Nat} {l : List Rw} (h : i < l.length) (a : Adm n (l.take i)) : Adm n (l.take (i + 1)) ↔ rowN (n : Int) (rwAt l i).rel (rwAt l i).l (rwAt l i).B = 0 ∧ i < 40 ∧ ∃ x, Sol (lns (rws (l.take i) ++ [(rwAt l i).q])) n x := by
  unfold Adm
  rw [rws_next h, take_next h]
  constructor
  · rintro ⟨p, q, s⟩
    refine ⟨p _ (by simp), ?_, s⟩
    rw [List.length_append, List.length_take, List.length_singleton, Nat.min_eq_left (by omega)] at q
    omega
  · rintro ⟨p, q, s⟩
    refine ⟨fun R hR => ?_, ?_, s⟩
    · rcases List.mem_append.1 hR with k | k
      · exact a.1 R k
      · obtain rfl := List.mem_singleton.1 k; exact p
    · rw [List.length_append, List.length_take, List.length_singleton, Nat.min_eq_left (by omega)]; omega
theorem adm_not {n i : Nat} {l : List Rw} (a : ¬ Adm n (l.take i)) : ¬ Adm n (l.take (i + 1)) := fun b => a (b.sub (fun r hr => by
  rw [show l.take i = (l.take (i + 1)).take i from by rw [List.take_take, Nat.min_eq_left (by omega)]] at hr
  exact List.mem_of_mem_take hr) (by simp only [List.length_take]; omega))
/-! In memory -/
def rw5 (R : Rw) (ca : Option Addr) (cc : Nat) (N : Nw) : List Value := [.slice ca R.l.length cc, .int .i64 R.rel, .bool R.B.neg, .slice N.a N.n N.c, .slice N.b N.m N.d]
structure Q5 (w : World) (R : Rw) (ca : Option Addr) (cc : Nat) (N : Nw) : Prop where
  co : CfAt w R.l ca
  le : R.l.length ≤ cc
  cap : cc ≤ 9223372036854775807
  bd : RwAt w R.B N.a N.n N.c N.b N.m N.d
theorem Q5.below {w w' : World} {R : Rw} {ca : Option Addr} {cc : Nat} {N : Nw} (h : Q5 w R ca cc N) (hb : Below w.heap.size w w') : Q5 w' R ca cc N := ⟨h.co.below hb, h.le, h.cap, h.bd.below hb⟩
def RwV (w : World) (l : List Rw) (vs : List Value) : Prop := vs.length = l.length * 5 ∧ ∀ i, i < l.length → ∃ ca cc N, (∀ k, k < 5 → vs[i * 5 + k]? = (rw5 (rwAt l i) ca cc N)[k]?) ∧ Q5 w (rwAt l i) ca cc N
theorem RwV.below {w w' : World} {l : List Rw} {vs : List Value} (h : RwV w l vs) (hb : Below w.heap.size w w') : RwV w' l vs :=
  ⟨h.1, fun i hi => by obtain ⟨ca, cc, N, a, b⟩ := h.2 i hi; exact ⟨ca, cc, N, a, b.below hb⟩⟩
theorem RwV.nil (w : World) : RwV w [] [] := ⟨rfl, fun i hi => absurd hi (Nat.not_lt_zero _)⟩
theorem rwAt_append {l : List Rw} {R : Rw} {i : Nat} (h : i < l.length) : rwAt (l ++ [R]) i = rwAt l i := by
  unfold rwAt; rw [List.getD_eq_getElem?_getD, List.getD_eq_getElem?_getD, List.getElem?_append_left h]
theorem rwAt_last {l : List Rw} {R : Rw} : rwAt (l ++ [R]) l.length = R := by
  unfold rwAt; rw [List.getD_eq_getElem?_getD, List.getElem?_append_right (Nat.le_refl _)]; simp
theorem RwV.push {w : World} {l : List Rw} {vs : List Value} {R : Rw} {ca : Option Addr} {cc : Nat} {N : Nw} (h : RwV w l vs) (r : Q5 w R ca cc N) : RwV w (l ++ [R]) (vs ++ rw5 R ca cc N) := by
  refine ⟨by simp [h.1, rw5]; omega, fun i hi => ?_⟩
  rw [List.length_append, List.length_singleton] at hi
  by_cases e : i < l.length
  · obtain ⟨ca', cc', N', a, b⟩ := h.2 i e
    rw [rwAt_append e]
    refine ⟨ca', cc', N', fun k hk => ?_, b⟩
    rw [List.getElem?_append_left (by rw [h.1]; omega)]; exact a k hk
  · obtain rfl : i = l.length := by omega
    rw [rwAt_last]
    refine ⟨ca, cc, N, fun k hk => ?_, r⟩
    rw [List.getElem?_append_right (by rw [h.1]; omega), h.1, Nat.add_sub_cancel_left]
/-- Rows in memory, as handed in. -/
def RwsAt (w : World) (l : List Rw) (ra : Option Addr) : Prop := ∃ vs, RwV w l vs ∧ (l ≠ [] → ∃ g o, ra = some ⟨g, o, none⟩ ∧ ∀ j u, vs[j]? = some u → w.cell? ⟨g, o + j, none⟩ = some u)
theorem RwsAt.below {w w' : World} {l : List Rw} {ra : Option Addr} (h : RwsAt w l ra) (hb : Below w.heap.size w w') : RwsAt w' l ra := by
  obtain ⟨vs, a, b⟩ := h
  refine ⟨vs, a.below hb, fun hne => ?_⟩
  obtain ⟨g, o, e, k⟩ := b hne
  exact ⟨g, o, e, fun j u hu => cell_later hb (Nat.le_refl _) (k j u hu)⟩
theorem RwsAt.row {w : World} {l : List Rw} {ra : Option Addr} (h : RwsAt w l ra) {i : Nat} (hi : i < l.length) : ∃ g o ca cc N, ra = some ⟨g, o, none⟩ ∧ Q5 w (rwAt l i) ca cc N ∧
    w.cell? ⟨g, o + i * 5, none⟩ = some (.slice ca (rwAt l i).l.length cc) ∧ w.cell? ⟨g, o + i * 5 + 1, none⟩ = some (.int .i64 (rwAt l i).rel) ∧ w.cell? ⟨g, o + i * 5 + 2, none⟩ = some (.bool (rwAt l i).B.neg) ∧ w.cell? ⟨g, o + i * 5 + 3, none⟩ = some (.slice N.a N.n N.c) ∧ w.cell? ⟨g, o + i * 5 + 4, none⟩ = some (.slice N.b N.m N.d) := by
  obtain ⟨vs, a, b⟩ := h
  obtain ⟨g, o, e, k⟩ := b (by rintro rfl; simp at hi)
  obtain ⟨ca, cc, N, q, r⟩ := a.2 i hi
  have f : ∀ j u, j < 5 → (rw5 (rwAt l i) ca cc N)[j]? = some u → w.cell? ⟨g, o + i * 5 + j, none⟩ = some u := fun j u hj hu => by
    have := k (i * 5 + j) u ((q j hj).trans hu)
    rwa [← Nat.add_assoc] at this
  exact ⟨g, o, ca, cc, N, e, r, f 0 _ (by omega) rfl, f 1 _ (by omega) rfl, f 2 _ (by omega) rfl, f 3 _ (by omega) rfl, f 4 _ (by omega) rfl⟩
theorem SyR.start {w : World} {p n : Nat} (h : SyB w p n (.slice none 0 0) (.slice none 0 0)) (hn : n ≤ 24) : SyR w p n 0 0 none (.slice none 0 0) [] :=
  ⟨h, ⟨[], RlV.nil w, fun h => absurd rfl h⟩, rfl, Nat.le_refl _, by omega, hn, by omega, fun i hi => absurd hi (Nat.not_lt_zero _), ⟨fun _ => 0, fun r hr => by simp [lns] at hr⟩⟩
end Go.Proofs.Ytijdglogadnbcaa
