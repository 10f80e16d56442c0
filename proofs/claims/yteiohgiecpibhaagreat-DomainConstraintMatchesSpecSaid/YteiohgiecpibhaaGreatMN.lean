/- domain.values at one number. -/
import Derived.Test.YteiohgiecpibhaaGreatML
set_option linter.unusedVariables false
set_option linter.unusedSimpArgs false
namespace Go.Proofs.YteiohgiecpibhaaGreat
open Go.RowKit Go.Shelf Fdm

attribute [local go_sem] Oper.semAt_some

/-- Blocks of spans stay. -/
def K63 (W W' : World) : Prop := ∀ b, Blk W b 63 → W'.heap[b]? = W.heap[b]?
set_option maxRecDepth 100000 in
set_option maxHeartbeats 2000000 in
theorem dv1_in (F : Fence) (n : Nat) (h7 : F.fn 184) (hro : F.round = none) (hn : 1 ≤ n) (l Bs b off cap : Nat) (v : Int) (hv1 : -4611686018427387904 ≤ v) (hv2 : v ≤ 4611686018427387904) (J Jx : List Int → World → Prop) (W : World) (hJ : AbidesFrom W.heap.size J)
    (hY : ∀ pre x W, J pre W → pre.length < 1 → YieldAt F (n - 1) Tryz.prog l #[.int .i64 x] W fun e W' =>
      (e = .returned (.bool true) ∧ J (pre ++ [x]) W' ∧ K63 W W') ∨ (e = .returned (.bool false) ∧ Jx (pre ++ [x]) W'))
    (hBs : W.cell? ⟨Bs, 0, none⟩ = some (.slice (some ⟨b, off, none⟩) 1 cap)) (hc0 : W.cell? ⟨b, off, none⟩ = some (.int .i64 v)) (hc1 : W.cell? ⟨b, off + 1, none⟩ = some (.int .i64 v)) (h0 : J [] W) :
    CallsIn F n Tryz.prog 184 #[.func (.yield l) #[] #[], .pointer (some ⟨Bs, 0, none⟩)] W fun e W' => (∃ v, e = .returned v) ∧ (J [v] W' ∨ Jx [v] W') := by
  refine callsIn_of_wp Tryz.func184 rfl h7 ?_ hro
  simp only [Tryz.ntmps184, List.size_toArray, List.length_cons, List.length_nil, Nat.reduceAdd, Nat.reduceSub, Array.replicate_succ, Array.replicate_zero, List.push_toArray, List.append_toArray, List.nil_append, List.cons_append]
  gi_wp2
  have J1 : J [] (W.alloc (.cells #[.int .i64 v, .int .i64 v] 63)) := hJ [] W _ none h0 ⟨rfl, rfl, rfl, by simp, fun b hb _ => heap_alloc_old W _ b hb⟩ (fun r e => by cases e)
  have hh := heap_alloc_new W (.cells #[.int .i64 v, .int .i64 v] 63)
  obtain ⟨fn, tmps, assign, body, hy, hR⟩ := hY [] v _ J1 (by simp)
  have hk : Hid (∀ W3, K63 (W.alloc (.cells #[.int .i64 v, .int .i64 v] 63)) W3 → W3.heap[W.heap.size]? = some (.cells #[.int .i64 v, .int .i64 v] 63 (0, 0))) := fun W3 k => (k _ ⟨_, hh⟩).trans hh
  clear hh J1
  refine wpIn_loop_rounds 2 ?_
  rw [roundsIn_succ]
  gi_wp2
  refine wpIn_loop_rounds 2 ?_
  rw [roundsIn_succ]
  gi_wp2
  refine hR.mono ?_
  rintro e W3 (⟨rfl, hJ3, hk3⟩ | ⟨rfl, hJx3⟩)
  · have h3 := hk.out W3 hk3
    have c1 : W3.cell? ⟨W.heap.size, 1, none⟩ = some (.int .i64 v) := by rw [cell_of_row _ _ _ _ _ _ h3]; rfl
    gi_wp2
    rw [roundsIn_succ]
    gi_wp2
    rw [roundsIn_succ]
    gi_wp2
    go_end0
    exact ⟨⟨_, rfl⟩, .inl hJ3⟩
  · gi_wp2
    refine bodyPost_ret (results_none rfl _ _ _) rfl ?_
    exact ⟨⟨_, rfl⟩, .inr hJx3⟩
end Go.Proofs.YteiohgiecpibhaaGreat
set_option linter.unusedVariables false
set_option linter.unusedSimpArgs false
namespace Go.Proofs.YteiohgiecpibhaaGreat
open Go.RowKit Go.Shelf Fdm

attribute [local go_sem] Oper.semAt_some

set_option maxRecDepth 100000 in
set_option maxHeartbeats 1000000 in
theorem dvalues_in (F : Fence) (n : Nat) (h5 : F.fn 167) (hro : F.round = none) (a : Option Addr) (len cap : Nat) (w : World) :
    CallsIn F n Tryz.prog 167 #[.slice a len cap] w fun e w' => e = .returned (.func (.func 184) #[] #[.pointer (some ⟨w.heap.size, 0, none⟩)]) ∧ w' = w.alloc (.cells #[.slice a len cap] 23) := by
  refine callsIn_of_wp Tryz.func167 rfl h5 ?_ hro
  simp only [Tryz.ntmps167, List.size_toArray, List.length_cons, List.length_nil, Nat.reduceAdd, Nat.reduceSub, Array.replicate_succ, Array.replicate_zero, List.push_toArray, List.append_toArray, List.nil_append, List.cons_append]
  gi_wp2
  go_ret
  exact ⟨rfl, rfl⟩
theorem dvalues_any (a : Option Addr) (len cap : Nat) (w : World) : Calls Tryz.prog 167 #[.slice a len cap] w fun e w' => e = .returned (.func (.func 184) #[] #[.pointer (some ⟨w.heap.size, 0, none⟩)]) ∧ w' = w.alloc (.cells #[.slice a len cap] 23) :=
  callsIn_wide.1 (dvalues_in Fence.wide 1 trivial rfl a len cap w)
theorem dvalues_stops (F : Fence) (n : Nat) (h7 : F.fn 184) (hro : F.round = none) (hn : 1 ≤ n) (Bs b off cap : Nat) (v : Int) (hv1 : -4611686018427387904 ≤ v) (hv2 : v ≤ 4611686018427387904) (w : World)
    (hBs : w.cell? ⟨Bs, 0, none⟩ = some (.slice (some ⟨b, off, none⟩) 1 cap)) (hc0 : w.cell? ⟨b, off, none⟩ = some (.int .i64 v)) (hc1 : w.cell? ⟨b, off + 1, none⟩ = some (.int .i64 v)) :
    SeqStopsK F n Tryz.prog 184 #[.pointer (some ⟨Bs, 0, none⟩)] (fun x : Int => #[Value.int .i64 x]) K63 (fun ys => ys = [v]) (fun pre => pre = [v]) 1 w := fun l J Jx W hW hJ _ hY h0 => by
  refine (dv1_in F n h7 hro hn l Bs b off cap v hv1 hv2 J Jx W hJ hY (cell_later hW (Nat.le_refl _) hBs) (cell_later hW (Nat.le_refl _) hc0) (cell_later hW (Nat.le_refl _) hc1) h0).mono ?_
  rintro e W' ⟨he, h | h⟩
  · exact ⟨he, .inl ⟨_, rfl, h⟩⟩
  · exact ⟨he, .inr ⟨_, rfl, h⟩⟩
theorem K63.trans {A B C : World} (h : K63 A B) (k : K63 B C) : K63 A C := fun b hb => (k b (hb.keep (h b hb))).trans (h b hb)
theorem K63.put (W : World) (l : Nat) (o o' : Obj) (hl : W.heap[l]? = some o) (ho : o.isCells = false) : K63 W (W.putObj l o') := fun b hb => by
  by_cases e : b = l
  · subst e
    obtain ⟨c, hc⟩ := hb
    rw [hl] at hc
    rw [Option.some.inj hc] at ho
    cases ho
  · exact World.putObj_heap_other e
theorem K63.of_kpx {t : Nat} {W W' : World} (h : KpX t W W') (ht : 63 ≠ t) : K63 W W' := fun b hb => h b 63 hb ht
theorem K63.of_below {W W' : World} (h : Below W.heap.size W W') : K63 W W' := fun b hb => h.block b hb.lt
end Go.Proofs.YteiohgiecpibhaaGreat
set_option linter.unusedVariables false
set_option linter.unusedSimpArgs false
namespace Go.Proofs.YteiohgiecpibhaaGreat
open Go.RowKit Go.Shelf Fdm

attribute [local go_sem] Oper.semAt_some

set_option maxRecDepth 100000 in
set_option maxHeartbeats 2000000 in
theorem dvu_in (F : Fence) (n : Nat) (h7 : F.fn 184) (hro : F.round = none) (hn : 1 ≤ n) (l Bs b off cap : Nat) (v : Int) (hv1 : -4611686018427387904 ≤ v) (hv2 : v ≤ 4611686018427387904) (J Jx : List Unit → World → Prop) (W : World) (hJ : AbidesFrom W.heap.size J)
    (hY : ∀ pre x W, J pre W → pre.length < 1 → YieldAt F (n - 1) Tryz.prog l #[.int .i64 v] W fun e W' =>
      (e = .returned (.bool true) ∧ J (pre ++ [x]) W' ∧ K63 W W') ∨ (e = .returned (.bool false) ∧ Jx (pre ++ [x]) W'))
    (hBs : W.cell? ⟨Bs, 0, none⟩ = some (.slice (some ⟨b, off, none⟩) 1 cap)) (hc0 : W.cell? ⟨b, off, none⟩ = some (.int .i64 v)) (hc1 : W.cell? ⟨b, off + 1, none⟩ = some (.int .i64 v)) (h0 : J [] W) :
    CallsIn F n Tryz.prog 184 #[.func (.yield l) #[] #[], .pointer (some ⟨Bs, 0, none⟩)] W fun e W' => (∃ v, e = .returned v) ∧ (J [()] W' ∨ Jx [()] W') := by
  refine callsIn_of_wp Tryz.func184 rfl h7 ?_ hro
  simp only [Tryz.ntmps184, List.size_toArray, List.length_cons, List.length_nil, Nat.reduceAdd, Nat.reduceSub, Array.replicate_succ, Array.replicate_zero, List.push_toArray, List.append_toArray, List.nil_append, List.cons_append]
  gi_wp2
  have J1 : J [] (W.alloc (.cells #[.int .i64 v, .int .i64 v] 63)) := hJ [] W _ none h0 ⟨rfl, rfl, rfl, by simp, fun b hb _ => heap_alloc_old W _ b hb⟩ (fun r e => by cases e)
  have hh := heap_alloc_new W (.cells #[.int .i64 v, .int .i64 v] 63)
  obtain ⟨fn, tmps, assign, body, hy, hR⟩ := hY [] () _ J1 (by simp)
  have hk : Hid (∀ W3, K63 (W.alloc (.cells #[.int .i64 v, .int .i64 v] 63)) W3 → W3.heap[W.heap.size]? = some (.cells #[.int .i64 v, .int .i64 v] 63 (0, 0))) := fun W3 k => (k _ ⟨_, hh⟩).trans hh
  clear hh J1
  refine wpIn_loop_rounds 2 ?_
  rw [roundsIn_succ]
  gi_wp2
  refine wpIn_loop_rounds 2 ?_
  rw [roundsIn_succ]
  gi_wp2
  refine hR.mono ?_
  rintro e W3 (⟨rfl, hJ3, hk3⟩ | ⟨rfl, hJx3⟩)
  · have h3 := hk.out W3 hk3
    have c1 : W3.cell? ⟨W.heap.size, 1, none⟩ = some (.int .i64 v) := by rw [cell_of_row _ _ _ _ _ _ h3]; rfl
    gi_wp2
    rw [roundsIn_succ]
    gi_wp2
    rw [roundsIn_succ]
    gi_wp2
    go_end0
    exact ⟨⟨_, rfl⟩, .inl hJ3⟩
  · gi_wp2
    refine bodyPost_ret (results_none rfl _ _ _) rfl ?_
    exact ⟨⟨_, rfl⟩, .inr hJx3⟩
theorem dvaluesU_stops (F : Fence) (n : Nat) (h7 : F.fn 184) (hro : F.round = none) (hn : 1 ≤ n) (Bs b off cap : Nat) (v : Int) (hv1 : -4611686018427387904 ≤ v) (hv2 : v ≤ 4611686018427387904) (w : World)
    (hBs : w.cell? ⟨Bs, 0, none⟩ = some (.slice (some ⟨b, off, none⟩) 1 cap)) (hc0 : w.cell? ⟨b, off, none⟩ = some (.int .i64 v)) (hc1 : w.cell? ⟨b, off + 1, none⟩ = some (.int .i64 v)) :
    SeqStopsK F n Tryz.prog 184 #[.pointer (some ⟨Bs, 0, none⟩)] (fun _ : Unit => #[Value.int .i64 v]) K63 (fun ys => ys = [()]) (fun pre => pre = [()]) 1 w := fun l J Jx W hW hJ _ hY h0 => by
  refine (dvu_in F n h7 hro hn l Bs b off cap v hv1 hv2 J Jx W hJ hY (cell_later hW (Nat.le_refl _) hBs) (cell_later hW (Nat.le_refl _) hc0) (cell_later hW (Nat.le_refl _) hc1) h0).mono ?_
  rintro e W' ⟨he, h | h⟩
  · exact ⟨he, .inl ⟨_, rfl, h⟩⟩
  · exact ⟨he, .inr ⟨_, rfl, h⟩⟩
end Go.Proofs.YteiohgiecpibhaaGreat
