/- How numbers, coefficients and rows that came in are read. -/
import Derived.Test.YtijdglogadnbcaaRows
import Derived.Test.YtijdglogadnbcaaZ09
import Derived.Deep.Strs
import Derived.Lib.SmallJoins
set_option linter.unusedVariables false
set_option linter.unusedSimpArgs false
set_option maxRecDepth 100000
set_option maxHeartbeats 40000000
namespace Go.Proofs.Ytijdglogadnbcaa
open Go.RowKit Nt
theorem cells25 : Try.prog.cellsOf 26 = 3 := by kernel_rfl
theorem cells27 : Try.prog.cellsOf 28 = 5 := by kernel_rfl
theorem cells23 : Try.prog.cellsOf 24 = 1 := by kernel_rfl
theorem cells22 : Try.prog.cellsOf 23 = 1 := by kernel_rfl
theorem cells72 : Try.prog.cellsOf 54 = 4 := by kernel_rfl
theorem cells111 : Try.prog.cellsOf 55 = 1 := by kernel_rfl
theorem cells3' : Try.prog.cellsOf 3 = 1 := by kernel_rfl
theorem cells4' : Try.prog.cellsOf 4 = 1 := by kernel_rfl
theorem ll3 {α : Type} {l : List α} (h : l.length = 3) : ∃ a b c, l = [a, b, c] := by
 match l, h with
 | [a, b, c], _ => exact ⟨a, b, c, rfl⟩
theorem ll4 {α : Type} {l : List α} (h : l.length = 4) : ∃ a b c d, l = [a, b, c, d] := by
 match l, h with
 | [a, b, c, d], _ => exact ⟨a, b, c, d, rfl⟩
theorem ll5 {α : Type} {l : List α} (h : l.length = 5) : ∃ a b c d e, l = [a, b, c, d, e] := by
 match l, h with
 | [a, b, c, d, e], _ => exact ⟨a, b, c, d, e, rfl⟩
theorem one_spot {w : World} {b o : Nat} {sp : Option Nat} {i : Nat} {v : Value} (h : w.cell? ((⟨b, o, sp⟩ : Addr).add i) = some v) : (i = 0 → sp = none) ∧ w.cell? ⟨b, o + i, none⟩ = some v := by
 have s0 := World.cell?_spot (w := w) (v := v) h
 by_cases hi : i = 0
 ·subst hi
  simp [Addr.add] at s0 h
  subst s0
  exact ⟨fun _ => rfl, by simpa using h⟩
 ·refine ⟨fun e => absurd e hi, ?_⟩
  simp only [Addr.add] at h
  simpa [hi] using h
/-- Four cells of an element. -/
theorem four_at {w : World} {b o : Nat} {sp : Option Nat} {i : Nat} {x y z u : Value} (h : w.cells? 0 ((⟨b, o, sp⟩ : Addr).add (i * 4)) 4 = some [x, y, z, u]) : (i = 0 → sp = none) ∧ w.cell? ⟨b, o + i * 4, none⟩ = some x ∧ w.cell? ⟨b, o + i * 4 + 1, none⟩ = some y ∧ w.cell? ⟨b, o + i * 4 + 2, none⟩ = some z ∧ w.cell? ⟨b, o + i * 4 + 3, none⟩ = some u := by
 obtain ⟨_, _, hc⟩ := World.cells?_some h
 have h0 := hc 0 (by omega)
 have h1 := hc 1 (by omega)
 have h2 := hc 2 (by omega)
 have h3 := hc 3 (by omega)
 rw [Deep.add_add] at h0 h1 h2 h3
 obtain ⟨s, h0⟩ := one_spot h0
 refine ⟨fun e => s (by omega), by simpa using h0, ?_, ?_, ?_⟩
 ·simpa [Nat.add_assoc] using (one_spot h1).2
 ·simpa [Nat.add_assoc] using (one_spot h2).2
 ·simpa [Nat.add_assoc] using (one_spot h3).2
variable {H : Type} {enc : TypeId × Value → H} {W : World} {sp : Nat → Bool} {hd : Bool}
theorem limbs_read {fuel : Nat} {v : Value} {x : DataW H × List MemPlace} (h : DataW.trod enc Try.prog W 0 sp hd fuel 24 [v] = some x) : ∃ l a n c, v = .slice a n c ∧ LAt W l a n c := by
 rcases Deep.open_slice1 Try.underlying24 cells111 h with ⟨e, _⟩ | ⟨a, len, cap, m, n, V, D, Pl, e, _, hlc, hcm, hm, _, hD⟩
 ·simp at e
  exact ⟨[], none, 0, 0, e, fun q => absurd rfl q, rfl, Nat.le_refl _, by omega, fun x hx => by simp at hx⟩
 ·simp at e
  have hml : len ≤ m := by rw [hm]; split <;> omega
  have each : ∀ i, i < len → ∃ y : Nat, y < 4294967296 ∧ W.cell? (a.add i) = some (.int .u32 (y : Int)) := by
   intro i hi
   obtain ⟨hc, ht⟩ := hD i (by omega)
   obtain ⟨z, e1, _, hw⟩ := DataW.trod_int Try.underlying55 ht
   simp at e1
   have hz : 0 ≤ z ∧ z < 4294967296 := by
    have e0 : IntKind.u32.min = 0 := by decide
    have e1 : IntKind.u32.max = 4294967295 := by decide
    simp only [Lit.wf, Bool.and_eq_true, decide_eq_true_eq, e0, e1] at hw
    omega
   refine ⟨z.toNat, by omega, ?_⟩
   rw [hc, e1, Int.toNat_of_nonneg hz.1]
  obtain ⟨f, hf⟩ := Deep.choose_lt each
  unfold maxLen at hcm
  refine ⟨(List.range len).map f, some a, len, cap, e, ?_, by simp, hlc, by omega, ?_⟩
  ·intro hne
   have hpos : 0 < len := by
    have := List.length_pos_iff.2 hne
    simpa using this
   obtain ⟨b, o, spot⟩ := a
   have hs := (one_spot (hf 0 hpos).2).1 rfl
   subst hs
   refine ⟨b, o, rfl, fun i hi => ?_⟩
   have hi' : i < len := by simpa using hi
   rw [(one_spot (hf i hi').2).2, List.getD_eq_getElem?_getD]
   simp [hi']
  ·intro y hy
   obtain ⟨i, hi, rfl⟩ := List.mem_map.1 hy
   exact (hf i (List.mem_range.1 hi)).1
theorem num_read {fuel : Nat} {cs : List Value} {x : DataW H × List MemPlace} (h : DataW.trod enc Try.prog W 0 sp hd fuel 26 cs = some x) :
  ∃ R a n c b m d, cs = [.bool R.neg, .slice a n c, .slice b m d] ∧ RwAt W R a n c b m d := by
 obtain ⟨y0, y1, y2, n, rfl, hl, h0, h1, h2⟩ := Deep.trod_struct3 Try.underlying26 h
 rw [cells25] at hl
 obtain ⟨c0, c1, c2, rfl⟩ := ll3 hl
 simp only [cells4', cells23] at h0 h1 h2
 obtain ⟨s, e0, _⟩ := DataW.trod_bool Try.underlying4 h0
 simp at e0
 subst e0
 obtain ⟨l1, a, n1, k1, e1, L1⟩ := limbs_read (v := c1) (by simpa using h1)
 obtain ⟨l2, b, n2, k2, e2, L2⟩ := limbs_read (v := c2) (by simpa using h2)
 subst e1 e2
 exact ⟨⟨s, l1, l2⟩, a, n1, k1, b, n2, k2, rfl, ⟨L1, L2⟩⟩
theorem coefs_read {fuel : Nat} {v : Value} {x : DataW H × List MemPlace} (h : DataW.trod enc Try.prog W 0 sp hd fuel 23 [v] = some x) : ∃ l ca nc cc, v = .slice ca nc cc ∧ CfAt W l ca ∧ l.length = nc ∧ nc ≤ cc ∧ cc ≤ 9223372036854775807 := by
 rcases Deep.open_slice Try.underlying23 h with ⟨e2, _⟩ | ⟨a, len, cap, m, n', D, Pl, e2, _, hlc, hcm, hm, _, hD⟩
 ·simp at e2
  exact ⟨[], none, 0, 0, e2, fun q => absurd rfl q, rfl, Nat.le_refl _, by omega⟩
 ·simp at e2
  have hml : len ≤ m := by rw [hm]; split <;> omega
  rw [cells72] at hD
  have each : ∀ i, i < len → ∃ q : Cf, ∃ a1 n1 c1 b1 m1 d1, W.cells? 0 (a.add (i * 4)) 4 = some [.int .i64 q.var, .bool q.by_.neg, .slice a1 n1 c1, .slice b1 m1 d1] ∧ RwAt W q.by_ a1 n1 c1 b1 m1 d1 := by
   intro i hi
   obtain ⟨cs', hc, ht⟩ := hD i (by omega)
   obtain ⟨z0, z1, k, _, kl, t0, t1⟩ := ChangeShapes.trod_struct2 Try.underlying54 ht
   rw [cells72] at kl
   obtain ⟨d0, d1, d2, d3, rfl⟩ := ll4 kl
   simp only [cells3', cells25] at t0 t1
   obtain ⟨v0, f0, _, _⟩ := DataW.trod_int Try.underlying3 t0
   simp at f0
   subst f0
   obtain ⟨R, a1, n1, c1, b1, m1, k1, e1, r⟩ := num_read t1
   simp at e1
   obtain ⟨rfl, rfl, rfl⟩ := e1
   exact ⟨⟨v0, R⟩, a1, n1, c1, b1, m1, k1, hc, r⟩
  obtain ⟨q, hq⟩ := Deep.choose_lt each
  unfold maxLen at hcm
  refine ⟨(List.range len).map q, some a, len, cap, e2, ?_, by simp, hlc, by omega⟩
  intro hne
  have hpos : 0 < len := by
   have := List.length_pos_iff.2 hne
   simpa using this
  obtain ⟨b, o, spot⟩ := a
  obtain ⟨_, _, _, _, _, _, h0, _⟩ := hq 0 hpos
  have hs := (four_at h0).1 rfl
  subst hs
  refine ⟨b, o, rfl, fun i hi => ?_⟩
  have hi' : i < len := by simpa using hi
  obtain ⟨a1, n1, c1, b1, m1, d1, hh, r⟩ := hq i hi'
  obtain ⟨_, k0, k1, k2, k3⟩ := four_at hh
  have e : cf ((List.range len).map q) i = q i := by
   unfold cf
   rw [List.getD_eq_getElem?_getD]
   simp [hi']
  rw [e]
  exact ⟨a1, n1, c1, b1, m1, d1, k0, k1, k2, k3, r⟩
/-- A ROW THAT CAME IN. -/
theorem rel_read {fuel : Nat} {cs : List Value} {x : DataW H × List MemPlace} (h : DataW.trod enc Try.prog W 0 sp hd fuel 28 cs = some x) :
  ∃ rel l B ca nc cc a n c b m d, cs = [.slice ca nc cc, .int .i64 rel, .bool B.neg, .slice a n c, .slice b m d] ∧ CfAt W l ca ∧ l.length = nc ∧ nc ≤ cc ∧ cc ≤ 9223372036854775807 ∧ RwAt W B a n c b m d := by
 obtain ⟨y0, y1, y2, n, rfl, hl, h0, h1, h2⟩ := Deep.trod_struct3 Try.underlying28 h
 rw [cells27] at hl
 obtain ⟨c0, c1, c2, c3, c4, rfl⟩ := ll5 hl
 simp only [cells3', cells22, cells25] at h0 h1 h2
 obtain ⟨l, ca, nc, cc, e0, r1, r2, r3, r4⟩ := coefs_read (v := c0) (by simpa using h0)
 obtain ⟨rel, e1, _, _⟩ := DataW.trod_int Try.underlying3 h1
 simp at e1
 obtain ⟨B, a, n, c, b, m, d, e2, r⟩ := num_read h2
 simp at e2
 obtain ⟨rfl, rfl, rfl⟩ := e2
 subst e0 e1
 exact ⟨rel, l, B, ca, nc, cc, a, n, c, b, m, d, rfl, r1, r2, r3, r4, r⟩
theorem rel_arg {cs : Array Value} {d : DataW H} {p : List MemPlace} (h : DataW.Trod enc Try.prog W 0 (fun _ => true) true 28 (.agg cs) d p) :
  ∃ rel l B ca nc cc a n c b m dd, Value.agg cs = .agg #[.slice ca nc cc, .int .i64 rel, .bool B.neg, .slice a n c, .slice b m dd] ∧ CfAt W l ca ∧ l.length = nc ∧ nc ≤ cc ∧ cc ≤ 9223372036854775807 ∧ RwAt W B a n c b m dd := by
 obtain ⟨fuel, hf⟩ := h
 obtain ⟨rel, l, B, ca, nc, cc, a, n, c, b, m, dd, ecs, r⟩ := rel_read hf
 refine ⟨rel, l, B, ca, nc, cc, a, n, c, b, m, dd, ?_, r⟩
 congr 1
 apply Array.toList_inj.1
 simpa [Value.cells] using ecs
end Go.Proofs.Ytijdglogadnbcaa
