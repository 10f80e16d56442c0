/- domain.values where the domain is one number. -/
import Derived.Test.YteiohgiecpibhaaGreatXC
set_option linter.unusedVariables false
set_option linter.unusedSimpArgs false
namespace Go.Proofs.YteiohgiecpibhaaGreat
open Go.RowKit Go.Shelf Fdm

attribute [local go_sem] Oper.semAt_some

/-- Blocks of spans stay. -/
def K63 (W W' : World) : Prop := ∀ b, Blk W b 63 → W'.heap[b]? = W.heap[b]?
set_option maxRecDepth 100000 in
set_option maxHeartbeats 2000000 in
theorem dv1_in (F : Fence) (n : Nat) (h7 : F.fn 184) (hro : F.round = none) (hn : 1 ≤ n) (l Bs b off cap : Nat) (v : Int) (hv1 : -4611686018427387904 ≤ v) (hv2 : v ≤ 4611686018427387904) (J Jx : List Int → World → Prop) (W : World) (hJ : AbidesFrom W.heap.size J)
    (hY : ∀ pre x W, J pre W → pre.length < 1 → YieldAt F (n - 1) Tryz.prog l #[.int .i64 x] W fun e W' =>
      (e = .returned (.bool true) ∧ J (pre ++ [x]) W' ∧ K63 W W') ∨ (e = .returned (.bool false) ∧ Jx (pre ++ [x]) W'))
    (hBs : W.cell? ⟨Bs, 0, none⟩ = some (.slice (some ⟨b, off, none⟩) 1 cap)) (hc0 : W.cell? ⟨b, off, none⟩ = some (.int .i64 v)) (hc1 : W.cell? ⟨b, off + 1, none⟩ = some (.int .i64 v)) (h0 : J [] W) :
    CallsIn F n Tryz.prog 184 #[.func (.yield l) #[] #[], .pointer (some ⟨Bs, 0, none⟩)] W fun e W' => (∃ v, e = .returned v) ∧ (J [v] W' ∨ Jx [v] W') := by
  refine callsIn_of_wp Tryz.func184 rfl h7 ?_ hro
  simp only [Tryz.ntmps184, List.size_toArray, List.length_cons, List.length_nil, Nat.reduceAdd, Nat.reduceSub, Array.replicate_succ, Array.replicate_zero, List.push_toArray, List.append_toArray, List.nil_append, List.cons_append]
  gi_wp2
  have J1 : J [] (W.alloc (.cells #[.int .i64 v, .int .i64 v] 63)) := hJ [] W _ none h0 ⟨rfl, rfl, rfl, by simp, fun b hb _ => heap_alloc_old W _ b hb⟩ (fun r e => by cases e)
  have hh := heap_alloc_new W (.cells #[.int .i64 v, .int .i64 v] 63)
  obtain ⟨fn, tmps, assign, body, hy, hR⟩ := hY [] v _ J1 (by simp)
  have hk : Hid (∀ W3, K63 (W.alloc (.cells #[.int .i64 v, .int .i64 v] 63)) W3 → W3.heap[W.heap.size]? = some (.cells #[.int .i64 v, .int .i64 v] 63 (0, 0))) := fun W3 k => (k _ ⟨_, hh⟩).trans hh
  clear hh J1
  refine wpIn_loop_rounds 2 ?_
  rw [roundsIn_succ]
  gi_wp2
  refine wpIn_loop_rounds 2 ?_
  rw [roundsIn_succ]
  gi_wp2
  refine hR.mono ?_
  rintro e W3 (⟨rfl, hJ3, hk3⟩ | ⟨rfl, hJx3⟩)
  · have h3 := hk.out W3 hk3
    have c1 : W3.cell? ⟨W.heap.size, 1, none⟩ = some (.int .i64 v) := by rw [cell_of_row _ _ _ _ _ _ h3]; rfl
    gi_wp2
    rw [roundsIn_succ]
    gi_wp2
    rw [roundsIn_succ]
    gi_wp2
    go_end0
    exact ⟨⟨_, rfl⟩, .inl hJ3⟩
  · gi_wp2
    refine bodyPost_ret (results_none rfl _ _ _) rfl ?_
    exact ⟨⟨_, rfl⟩, .inr hJx3⟩
end Go.Proofs.YteiohgiecpibhaaGreat
