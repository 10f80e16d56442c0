/- Count: its closure. -/
import Derived.Test.YthhogbligfmpdaaXc
set_option linter.unusedVariables false
set_option linter.unusedSimpArgs false
namespace Go.Proofs.Ythhogbligfmpdaa
open Go.RowKit Bd

theorem wr_mul {c d : Nat} (h : c * 2 ^ d ≤ 65536) : wrap64 ((c : Int) * 2 ^ d) = ((c * 2 ^ d : Nat) : Int) := by
  have e : (c : Int) * 2 ^ d = ((c * 2 ^ d : Nat) : Int) := by simp
  rw [e, IntWalk.wrap64_in _ (by omega)]
theorem wr_pow {d : Nat} (h : 2 ^ d ≤ 65536) : wrap64 (2 ^ d) = ((2 ^ d : Nat) : Int) := by
  have e : (2 : Int) ^ d = ((2 ^ d : Nat) : Int) := by simp
  rw [e]
  generalize 2 ^ d = p at *
  exact IntWalk.wrap64_in _ (by omega)
theorem ret_i64 {a b : Int} (h : a = b) : Ending.returned (.int .i64 a) = .returned (.int .i64 b) := by rw [h]

/-- So many assignments of the variables from u on make a reference true, by the counts of nodes. -/
def mny (ds : List Nd) (ct : Nat → Nat) (vars u : Nat) (r : Int) : Nat := if r = -1 then 0 else if r = -2 then 2 ^ (vars - u) else ct r.toNat * 2 ^ ((nd ds r).1.toNat - u)

set_option maxRecDepth 100000 in
set_option maxHeartbeats 400000 in
theorem many_one {w : World} {bv bc ba u : Nat} :
    Calls Try.prog 58 #[.int .i64 (-1), .int .i64 u, .pointer (some ⟨bv, 0, none⟩), .pointer (some ⟨bc, 0, none⟩), .pointer (some ⟨ba, 0, none⟩)] w fun e w' => e = .returned (.int .i64 0) ∧ w = w' := by
  go_enter Try.func58, Try.ntmps58
  go_wp2_with fail
  go_ret
  exact ⟨rfl, rfl⟩

set_option maxRecDepth 100000 in
set_option maxHeartbeats 400000 in
theorem many_two {w : World} {bv bc ba V u : Nat} (hv : w.cell? ⟨bv, 0, none⟩ = some (.int .i64 V)) (hu : u ≤ V) (h16 : V ≤ 16) (hb : 2 ^ (V - u) ≤ 65536) :
    Calls Try.prog 58 #[.int .i64 (-2), .int .i64 u, .pointer (some ⟨bv, 0, none⟩), .pointer (some ⟨bc, 0, none⟩), .pointer (some ⟨ba, 0, none⟩)] w fun e w' => e = .returned (.int .i64 (2 ^ (V - u) : Nat)) ∧ w = w' := by
  have h1 : (u : Int) ≤ (V : Int) := by omega
  have h2 : (V : Int) ≤ 16 := by omega
  have h3 : (0 : Int) ≤ (u : Int) := by omega
  have E := Lib.hid (wr_pow hb); clear hb
  go_enter Try.func58, Try.ntmps58
  go_wp2_with fail
  go_ret
  exact ⟨ret_i64 E.out, rfl⟩

set_option maxRecDepth 100000 in
set_option maxHeartbeats 400000 in
theorem many_pos {w : World} {bv bc ba u k n cap g bd od c v : Nat} (hc : w.cell? ⟨bc, 0, none⟩ = some (.slice (some ⟨g, 0, none⟩) n n)) (ha : w.cell? ⟨ba, 0, none⟩ = some (.slice (some ⟨bd, od, none⟩) n cap))
    (hk : k < n) (hn : n ≤ 2000) (hck : w.cell? ⟨g, k, none⟩ = some (.int .i64 c)) (hdk : w.cell? ⟨bd, od + k * 3, none⟩ = some (.int .i64 v)) (hu : u ≤ v) (h16 : v ≤ 16) (hb : c * 2 ^ (v - u) ≤ 65536) :
    Calls Try.prog 58 #[.int .i64 k, .int .i64 u, .pointer (some ⟨bv, 0, none⟩), .pointer (some ⟨bc, 0, none⟩), .pointer (some ⟨ba, 0, none⟩)] w fun e w' => e = .returned (.int .i64 (c * 2 ^ (v - u) : Nat)) ∧ Qt w w' := by
  have h1 : (u : Int) ≤ (v : Int) := by omega
  have h2 : (v : Int) ≤ 16 := by omega
  have h3 : (0 : Int) ≤ (u : Int) := by omega
  have h4 : (k : Int) < (n : Int) := by omega
  have h5 : (0 : Int) ≤ (k : Int) := by omega
  have h6 : (0 : Int) ≤ (v : Int) - (u : Int) := by omega
  have E := Lib.hid (wr_mul hb); clear hb
  go_enter Try.func58, Try.ntmps58
  go_wp2_with fail
  go_quiet (fail)
  go_wp2_with fail
  go_ret
  exact ⟨ret_i64 E.out, _, rfl⟩

theorem many_any {w : World} {bv bc ba V u n cap g : Nat} {ds : List Nd} {a : Option Addr} {ct : Nat → Nat} {r : Int} (hv : w.cell? ⟨bv, 0, none⟩ = some (.int .i64 V)) (hc : w.cell? ⟨bc, 0, none⟩ = some (.slice (some ⟨g, 0, none⟩) n n))
    (ha : w.cell? ⟨ba, 0, none⟩ = some (.slice a n cap)) (hd : DAt w ds a) (hn : ds.length = n) (hl : n ≤ 2000) (h16 : V ≤ 16) (arr : 0 ≤ r → w.cell? ⟨g, r.toNat, none⟩ = some (.int .i64 (ct r.toNat : Nat))) (h1 : -2 ≤ r) (h2 : r < (n : Int))
    (hu : u ≤ V) (hut : (u : Int) ≤ top ds r) (ht : top ds r ≤ 16) (hb : mny ds ct V u r ≤ 65536) :
    Calls Try.prog 58 #[.int .i64 r, .int .i64 u, .pointer (some ⟨bv, 0, none⟩), .pointer (some ⟨bc, 0, none⟩), .pointer (some ⟨ba, 0, none⟩)] w fun e w' => e = .returned (.int .i64 (mny ds ct V u r : Nat)) ∧ Qt w w' := by
  by_cases e1 : r = -1
  · subst e1
    have : mny ds ct V u (-1) = 0 := by simp [mny]
    rw [this]
    exact many_one.mono fun e w' ⟨x, y⟩ => ⟨x, 0, y.symm⟩
  · by_cases e2 : r = -2
    · subst e2
      have : mny ds ct V u (-2) = 2 ^ (V - u) := by simp [mny]
      rw [this] at hb ⊢
      exact (many_two hv hu h16 hb).mono fun e w' ⟨x, y⟩ => ⟨x, 0, y.symm⟩
    · obtain ⟨k, rfl⟩ := Int.eq_ofNat_of_zero_le (by omega : 0 ≤ r)
      have : mny ds ct V u k = ct k * 2 ^ ((nd ds k).1.toNat - u) := by unfold mny; rw [if_neg e1, if_neg e2]; simp
      rw [this] at hb ⊢
      rw [top_nat] at hut ht
      have hk : k < ds.length := by omega
      obtain ⟨bd, od, rfl, d1⟩ := hd (by intro e; rw [e] at hk; simp at hk)
      have p1 := (d1 k hk).1
      have ck := arr (by omega)
      simp only [Int.toNat_natCast] at ck
      have hvv : (nd ds k).1 = ((nd ds k).1.toNat : Int) := by omega
      rw [hvv] at p1
      exact many_pos hc ha (by omega) hl ck p1 (by omega) (by omega) hb

theorem mny_cr {ds : List Nd} {vars : Nat} {ct : Nat → Nat} {k : Nat} (cr : ∀ i : Nat, i < k → CR ds vars i (nd ds i).1.toNat (ct i)) (o : Ord ds) {r : Int} {u : Nat} (h1 : -2 ≤ r) (h2 : r < (k : Int)) (hk : k ≤ ds.length) (hu : (u : Int) ≤ top ds r) (huv : u ≤ vars) (hv : vars ≤ 16) :
    CR ds vars r u (mny ds ct vars u r) := by
  by_cases e1 : r = -1
  · subst e1
    have : mny ds ct vars u (-1) = 0 := by simp [mny]
    rw [this]; exact CR.neg1 _ _ _
  · by_cases e2 : r = -2
    · subst e2
      have : mny ds ct vars u (-2) = 2 ^ (vars - u) := by simp [mny]
      rw [this]; exact CR.neg2 _ huv hv
    · obtain ⟨i, rfl⟩ := Int.eq_ofNat_of_zero_le (by omega : 0 ≤ r)
      have : mny ds ct vars u i = ct i * 2 ^ ((nd ds i).1.toNat - u) := by unfold mny; rw [if_neg e1, if_neg e2]; simp
      rw [this]
      obtain ⟨a1, a2, _⟩ := o i (by omega)
      rw [top_nat] at hu
      exact (cr i (by omega)).up (by rw [top_nat]; omega) (by omega) (by omega)

theorem CR.le16 {ds : List Nd} {vars : Nat} {r : Int} {u c : Nat} (h : CR ds vars r u c) (hu : u ≤ vars) (hv : vars ≤ 16) : c ≤ 65536 := by
  have a := Bd.CR.le h hu hv
  have b : 2 ^ (vars - u) ≤ 2 ^ 16 := pow_mono (by omega)
  rw [two16] at b
  omega

/-- The state of Count's loop. -/
structure CtR (W : World) (ds : List Nd) (vars g n k : Nat) (wr : World) (ct : Nat → Nat) : Prop where
  cr : ∀ i : Nat, i < k → CR ds vars i (nd ds i).1.toNat (ct i)
  os : wr.os = W.os
  tape : wr.tape = W.tape
  output : wr.output = W.output
  size : W.heap.size ≤ wr.heap.size
  keep : ∀ j, j < W.heap.size → j ≠ g → wr.heap[j]? = W.heap[j]?
  arr : ∀ j, j < k → wr.cell? ⟨g, j, none⟩ = some (.int .i64 (ct j : Nat))
  has : ∀ j, j < n → ∃ u, wr.cell? ⟨g, j, none⟩ = some u
  fz : ∀ j, wr.frozen? ⟨g, j, none⟩ = false

theorem CtR.push {W wr w2 : World} {ds : List Nd} {vars g n k c : Nat} {ct : Nat → Nat} {ob : Obj} (h : CtR W ds vars g n k wr ct) (hg : g < W.heap.size) (hk : k < n) (q : Qt (wr.alloc ob) w2) (hc : CR ds vars k (nd ds k).1.toNat c) :
    CtR W ds vars g n (k + 1) (w2.setCell ⟨g, k, none⟩ (.int .i64 (c : Nat))) (fun j => if j = k then c else ct j) := by
  have hsz := h.size
  have blk : w2.heap[g]? = wr.heap[g]? := q.block.trans (Below.heap_alloc wr ob g (by omega))
  have cel : ∀ j, w2.cell? ⟨g, j, none⟩ = wr.cell? ⟨g, j, none⟩ := fun j => World.cell?_of_block (a := ⟨g, j, none⟩) blk
  have hqz : w2.heap.size = wr.heap.size + 1 := by rw [q.heap]; simp
  obtain ⟨nq, hq⟩ := q
  refine ⟨?_, ?_, ?_, ?_, ?_, ?_, ?_, ?_, ?_⟩
  · intro i hi
    by_cases e : i = k
    · subst e; simp only [if_true]; exact hc
    · simp only [if_neg e]; exact h.cr i (by omega)
  · rw [hq]; exact h.os
  · rw [hq]; exact h.tape
  · rw [hq]; exact h.output
  · have : (w2.setCell ⟨g, k, none⟩ (.int .i64 (c : Nat))).heap.size = w2.heap.size := by simp [World.setCell]
    omega
  · intro j hj hne
    rw [Below.heap_setCell _ _ _ _ hne, ← h.keep j hj hne, hq]
    exact Below.heap_alloc wr ob j (by omega)
  · intro j hj
    by_cases e : j = k
    · subst e
      simp only [if_true]
      obtain ⟨u, hu⟩ := h.has j hk
      exact World.cell?_setCell_same _ _ _ ((cel j).trans hu)
    · simp only [if_neg e]
      rw [World.cell?_setCell_other _ _ _ _ (by intro e2; exact e (congrArg Addr.off e2).symm), cel j]
      exact h.arr j (by omega)
  · intro j hj
    by_cases e : j = k
    · subst e
      obtain ⟨u, hu⟩ := h.has j hk
      exact ⟨_, World.cell?_setCell_same _ _ _ ((cel j).trans hu)⟩
    · obtain ⟨u, hu⟩ := h.has j hj
      exact ⟨u, by rw [World.cell?_setCell_other _ _ _ _ (by intro e2; exact e (congrArg Addr.off e2).symm), cel j]; exact hu⟩
  · intro j
    rw [World.frozen?_setCell]
    have : w2.frozen? ⟨g, j, none⟩ = wr.frozen? ⟨g, j, none⟩ := by simp only [World.frozen?, blk]
    rw [this]; exact h.fz j

end Go.Proofs.Ythhogbligfmpdaa
