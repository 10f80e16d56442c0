/- Rows that grow by append and hold no limbs. No program. -/
import Derived.Test.YtijdglogadnbcaaZ25
import Derived.Test.YtijdglogadnbcaaZ02
import Derived.Test.YtijdglogadnbcaaZ05
import Derived.Laws.BitsLemmas
import Derived.Test.YtijdglogadnbcaaZ21
import Derived.Test.YtijdglogadnbcaaZ18
set_option linter.unusedVariables false
set_option linter.unusedSimpArgs false
set_option maxRecDepth 100000
set_option maxHeartbeats 40000000
namespace Go.Proofs.Ytijdglogadnbcaa
open Go.RowKit Nt Bl
def Nu (u : Value) : Prop := ∀ x, u ≠ .int .u32 x
/-- A row of its own, of which no cell is a limb. -/
structure Ow (w : World) (base e size : Nat) (v : Value) (n : Nat) (xs : List Value) : Prop where
 own : w.ownsRow base e size v n xs
 nu : ∀ g, v.ownBlock = some g → ∀ o u, w.cell? ⟨g, o, none⟩ = some u → Nu u
theorem Ow.nil (w : World) (base e size : Nat) : Ow w base e size (.slice none 0 0) 0 [] := ⟨World.ownsRow_nil w base e size, fun g h => by simp [Value.ownBlock] at h⟩
theorem below_by {w w' : World} (h : Below w.heap.size w w') (row : Option Nat) : w.grownBy w' row := ⟨h.os, h.tape, h.output, h.size, fun k hk _ => h.block k hk⟩
theorem Ow.kept {w w' : World} {base e size n : Nat} {v : Value} {xs : List Value} {row : Option Nat} (h : Ow w base e size v n xs) (g : w.grownBy w' row) (hne : v.ownBlock = none ∨ v.ownBlock ≠ row) : Ow w' base e size v n xs := by
 refine ⟨h.own.kept g hne, fun b hb o u hu => h.nu b hb o u ?_⟩
 have lt := (h.own.lt b hb).2
 rw [← hu]
 symm
 refine World.cell?_of_block (g.block b lt fun q => ?_)
 rcases hne with e | e
 ·rw [e] at hb; simp at hb
 ·exact e (hb.trans q)
theorem Ow.below {w w' : World} {base e size n : Nat} {v : Value} {xs : List Value} (h : Ow w base e size v n xs) (hb : Below w.heap.size w w') : Ow w' base e size v n xs :=
 h.kept (below_by hb none) (by cases v.ownBlock <;> simp)
theorem Ow.blk {w : World} {base e size n : Nat} {v : Value} {xs : List Value} (h : Ow w base e size v n xs) {g : Nat} (hg : v.ownBlock = some g) : Blk w g e := by
 rcases h.own.2 with ⟨rfl, _⟩ | ⟨g', cap, cur, rfl, hb, hgg, _⟩
 ·simp [Value.ownBlock] at hg
 ·simp [Value.ownBlock] at hg
  subst hg
  exact ⟨_, hgg⟩
/-- Growing such a row leaves limbs. -/
theorem Ow.limb {w w' : World} {base e size n : Nat} {v : Value} {xs : List Value} (h : Ow w base e size v n xs) (g : w.grownBy w' v.ownBlock) : Limb w w' := by
 intro b o x hc
 have lt : b < w.heap.size := World.block_lt_of_cell? _ _ hc
 by_cases q : some b = v.ownBlock
 ·exact absurd rfl (h.nu b q.symm o _ hc x)
 ·rw [World.cell?_of_block (a := ⟨b, o, none⟩) (g.block b lt q)]; exact hc
theorem nu_list {w : World} {g : Nat} {l : List Value} {t : TypeId} {fr : Nat × Nat} (hg : w.heap[g]? = some (.cells l.toArray t fr)) (hl : ∀ u ∈ l, Nu u) : ∀ o u, w.cell? ⟨g, o, none⟩ = some u → Nu u := by
 intro o u hu
 rw [cell_of_row w g o _ t fr hg, List.getElem?_toArray] at hu
 exact hl u (List.mem_of_getElem? hu)
theorem nu_cur {w : World} {g : Nat} {cur : Array Value} {t : TypeId} {fr : Nat × Nat} (hg : w.heap[g]? = some (.cells cur t fr)) (h : ∀ o u, w.cell? ⟨g, o, none⟩ = some u → Nu u) : ∀ u ∈ cur.toList, Nu u := by
 intro u hu
 obtain ⟨j, hj, rfl⟩ := List.getElem_of_mem hu
 refine h j _ ?_
 rw [cell_of_row w g j _ t fr hg]
 simp at hj
 simp [hj]
theorem nu_zero {z : Array Value} (h : ∀ u ∈ z.toList, Nu u) (h0 : 0 < z.size) (n : Nat) : ∀ u ∈ (Builtin.zeroCells z n).toList, Nu u := by
 intro u hu
 simp only [Builtin.zeroCells, Array.toList_map, List.mem_map] at hu
 obtain ⟨i, _, rfl⟩ := hu
 have lt : i % z.size < z.size := Nat.mod_lt _ h0
 rw [getElem!_pos z _ lt]
 exact h _ (by simp)
theorem run_append_ow {P : Program} (w : World) (base : Nat) (t ty e : TypeId) (i : TypeInfo) (z : Value) (size bytes : Nat) (ht : P.underlying t = some (.slice e)) (hi : P.info? e = some i) (hz : i.zero = some z)
  (hsize : i.size = size) (hby : i.bytes = bytes) (hzs : z.cells.size = size) (hsz : 0 < size) (zn : ∀ u ∈ z.cells.toList, Nu u)
  (v : Value) (n : Nat) (xs : List Value) (how : Ow w base e size v n xs)
  (a : Addr) (m c : Nat) (news : List Value) (hl : news.length = m * size) (hnews : ∀ j u, news[j]? = some u → w.cell? (a.add j) = some u) (h1 : ∀ u ∈ news, u.oneCell' = true) (hnu : ∀ u ∈ news, Nu u)
  (h63 : n + m ≤ maxLen) (hbytes : (n + m) * bytes ≤ 140737488355328) (hbase : base ≤ w.heap.size) :
  ∃ v' w', (Builtin.append_ #[t, t] ty #[v, .slice (some a) m c]).run P w = .ok v' w' ∧ Ow w' base e size v' (n + m) (xs ++ news) ∧ w.grownBy w' v.ownBlock ∧ ∀ g, v'.ownBlock = some g → v.ownBlock = some g ∨ w.heap.size ≤ g := by
 have hown := how.own
 obtain ⟨v', w', hr, o, g, _⟩ := run_append_own (P := P) w base t ty e i z size bytes ht hi hz hsize hby hzs hsz v n xs hown a m c news hl hnews h1 h63 hbytes hbase
 suffices F : ∀ g', v'.ownBlock = some g' → (v.ownBlock = some g' ∨ w.heap.size ≤ g') ∧ ∀ o u, w'.cell? ⟨g', o, none⟩ = some u → Nu u from ⟨v', w', hr, ⟨o, fun g' h => (F g' h).2⟩, g, fun g' h => (F g' h).1⟩
 subst hsize
 subst hby
 intro g' hg'
 have h63' : ((n + m : Nat) : Int) ≤ 9223372036854775807 := by simp only [maxLen] at h63; omega
 rcases hown.2 with ⟨rfl, rfl⟩ | ⟨g0, cap, cur, rfl, hbg, hg, hnc, hcm, hcs, htake⟩
 ·by_cases hm : m = 0
  ·subst hm
   have hn : news = [] := List.eq_nil_of_length_eq_zero (by simpa using hl)
   subst hn
   have e1 : (Builtin.append_ #[t, t] ty #[.slice none 0 0, .slice (some a) 0 c]).run P w = .ok (.slice none 0 0) w := by
    simp [Builtin.append_, run_underlying ht, sizeOf, typeInfo, hi, Builtin.lenOf, Builtin.firstCells, loadCells, loadCellsFrom]
   rw [e1] at hr
   injection hr with hr1 hr2
   subst hr1
   simp [Value.ownBlock] at hg'
  ·have e1 := run_append_nil (P := P) w t ty e i z ht hi hz a m c news hl hnews (by omega) (by omega) (by have hb := hbytes; simp only [Nat.zero_add] at hb; omega)
   rw [e1] at hr
   injection hr with hr1 hr2
   subst hr1 hr2
   simp only [Value.ownBlock, Option.some.injEq] at hg'
   subst hg'
   have hh : (w.drew.alloc (.cells (news.toArray ++ Builtin.zeroCells z.cells (grownCap w m 0 e - m)) e)).heap[w.heap.size]? = some (.cells (news ++ (Builtin.zeroCells z.cells (grownCap w m 0 e - m)).toList).toArray e (0, 0)) := by
    have := heap_alloc_new w.drew (.cells (news.toArray ++ Builtin.zeroCells z.cells (grownCap w m 0 e - m)) e)
    rw [show w.drew.heap.size = w.heap.size from rfl] at this
    rw [this]
    congr 2
    exact Array.ext' (by simp)
   refine ⟨Or.inr (Nat.le_refl _), nu_list hh fun u hu => ?_⟩
   rcases List.mem_append.1 hu with q | q
   ·exact hnu u q
   ·exact nu_zero zn (by omega) _ u q
 ·have old := nu_cur hg (how.nu g0 rfl)
  by_cases hroom : n + m ≤ cap
  ·have hfit : n * i.size + news.length ≤ cur.size := by rw [hl, hcs, ← Nat.add_mul]; exact Nat.mul_le_mul_right _ hroom
   have e1 := run_append_room (P := P) w t ty e i ht hi g0 n cap cur hg a m c news hl hnews h1 hroom hfit
   rw [e1] at hr
   injection hr with hr1 hr2
   subst hr1 hr2
   simp only [Value.ownBlock, Option.some.injEq] at hg'
   subst hg'
   refine ⟨Or.inl rfl, nu_list (setRow_heap w g0 cur _ e _ hg) fun u hu => ?_⟩
   rcases List.mem_append.1 hu with q | q
   ·rcases List.mem_append.1 q with q | q
    ·exact old u (List.mem_of_mem_take q)
    ·exact hnu u q
   ·exact old u (List.mem_of_mem_drop q)
  ·have holds : ∀ j u, xs[j]? = some u → w.cell? ((⟨g0, 0, none⟩ : Addr).add j) = some u := hown.cells (g := g0) rfl
   have e1 := run_append_grow (P := P) w t ty e i z ht hi hz ⟨g0, 0, none⟩ n cap xs hown.1 holds a m c news hl hnews (by omega) (by omega) (growslice_fits (by omega) hbytes)
   rw [e1] at hr
   injection hr with hr1 hr2
   subst hr1 hr2
   simp only [Value.ownBlock, Option.some.injEq] at hg'
   subst hg'
   have hh : (w.drew.alloc (.cells (xs.toArray ++ news.toArray ++ Builtin.zeroCells z.cells (grownCap w (n + m) cap e - (n + m))) e)).heap[w.heap.size]? = some (.cells (xs ++ news ++ (Builtin.zeroCells z.cells (grownCap w (n + m) cap e - (n + m))).toList).toArray e (0, 0)) := by
    have := heap_alloc_new w.drew (.cells (xs.toArray ++ news.toArray ++ Builtin.zeroCells z.cells (grownCap w (n + m) cap e - (n + m))) e)
    rw [show w.drew.heap.size = w.heap.size from rfl] at this
    rw [this]
    congr 2
    exact Array.ext' (by simp)
   refine ⟨Or.inr (Nat.le_refl _), nu_list hh fun u hu => ?_⟩
   rcases List.mem_append.1 hu with q | q
   ·rcases List.mem_append.1 q with q | q
    ·rw [← htake] at q; exact old u (List.mem_of_mem_take q)
    ·exact hnu u q
   ·exact nu_zero zn (by omega) _ u q
theorem wp_append_ow {P : Program} {w : World} {o : Oper} {a : Act} {K : Act → World → Prop} {Q : Exit → Act → World → Prop} (s x : Operand) (t : TypeId)
  (ho : o.op = .call { callee := .builtin .append, args := #[s, x], argTypes := #[t, t] })
  (base : Nat) (e : TypeId) (i : TypeInfo) (z : Value) (size bytes : Nat) (ht : P.underlying t = some (.slice e)) (hi : P.info? e = some i) (hz : i.zero = some z)
  (hsize : i.size = size) (hby : i.bytes = bytes) (hzs : z.cells.size = size) (hsz : 0 < size) (zn : ∀ u ∈ z.cells.toList, Nu u)
  (v : Value) (n : Nat) (xs : List Value) (hs : a.eval s = v) (hown : Ow w base e size v n xs)
  (ad : Addr) (m c : Nat) (news : List Value) (hx : a.eval x = .slice (some ad) m c) (hl : news.length = m * size) (hnews : ∀ j u, news[j]? = some u → w.cell? (ad.add j) = some u) (h1 : ∀ u ∈ news, u.oneCell' = true) (hnu : ∀ u ∈ news, Nu u)
  (h63 : n + m ≤ maxLen) (hbytes : (n + m) * bytes ≤ 140737488355328) (hbase : base ≤ w.heap.size)
  (h : ∀ v' w', Ow w' base e size v' (n + m) (xs ++ news) → w.grownBy w' v.ownBlock → (∀ g, v'.ownBlock = some g → v.ownBlock = some g ∨ w.heap.size ≤ g) → K (a.put o.dst v') w') : o.wp P a w K Q := by
 obtain ⟨v', w', hr, h2, h3, h4⟩ := run_append_ow (P := P) w base t o.type e i z size bytes ht hi hz hsize hby hzs hsz zn v n xs hown ad m c news hl hnews h1 hnu h63 hbytes hbase
 unfold Oper.wp execOp
 simp only [ho, resolve, invoke, builtin, Sem.run_bind, Sem.run_pure, Result.andThen_ok, List.map_toArray, List.map_cons, List.map_nil, hs, hx, hr]
 exact h v' w' h2 h3 h4
theorem wpList_append_ow {P : Program} {w : World} {ops : Array Oper} {rest : List Oper} {o : Oper} {a : Act} {Q : Exit → Act → World → Prop} (hgd : o.guard = none) (s x : Operand) (t : TypeId)
  (ho : o.op = .call { callee := .builtin .append, args := #[s, x], argTypes := #[t, t] })
  (base : Nat) (e : TypeId) (i : TypeInfo) (z : Value) (size bytes : Nat) (ht : P.underlying t = some (.slice e)) (hi : P.info? e = some i) (hz : i.zero = some z)
  (hsize : i.size = size) (hby : i.bytes = bytes) (hzs : z.cells.size = size) (hsz : 0 < size) (zn : ∀ u ∈ z.cells.toList, Nu u)
  (v : Value) (n : Nat) (xs : List Value) (hs : a.eval s = v) (hown : Ow w base e size v n xs)
  (ad : Addr) (m c : Nat) (news : List Value) (hx : a.eval x = .slice (some ad) m c) (hl : news.length = m * size) (hnews : ∀ j u, news[j]? = some u → w.cell? (ad.add j) = some u) (h1 : ∀ u ∈ news, u.oneCell' = true) (hnu : ∀ u ∈ news, Nu u)
  (h63 : n + m ≤ maxLen) (hbytes : (n + m) * bytes ≤ 140737488355328) (hbase : base ≤ w.heap.size)
  (h : ∀ v' w', Ow w' base e size v' (n + m) (xs ++ news) → w.grownBy w' v.ownBlock → (∀ g, v'.ownBlock = some g → v.ownBlock = some g ∨ w.heap.size ≤ g) → wpList P ops Q rest (a.put o.dst v') w') : wpList P ops Q (o :: rest) a w :=
 wpList_plain hgd fun _ hK => wp_append_ow s x t ho base e i z size bytes ht hi hz hsize hby hzs hsz zn v n xs hs hown ad m c news hx hl hnews h1 hnu h63 hbytes hbase fun v' w' h2 h3 h4 => hK _ _ (h v' w' h2 h3 h4)
theorem wp_make_full {P : Program} {w : World} {o : Oper} {a : Act} {K : Act → World → Prop} {Q : Exit → Act → World → Prop} (l c : Operand) (t : TypeId) (hop : o.op = Op.makeSlice t l c)
  (base : Nat) (e : TypeId) (i : TypeInfo) (z : Value) (size : Nat) (h1 : P.underlying t = some (.slice e)) (h2 : P.info? e = some i) (h3 : i.zero = some z) (h4 : i.size = size)
  (kl kc : IntKind) (L C : Int) (n : Nat) (hl : a.eval l = .int kl L) (hc : a.eval c = .int kc C) (hL : L = (n : Int)) (hC : C = (n : Int)) (b2 : i.bytes * n ≤ 281474976710656) (b3 : n ≤ maxLen) (b4 : base ≤ w.heap.size)
  (hK : ∀ w', w'.ownsRow base e size (.slice (some ⟨w.heap.size, 0, none⟩) n n) n (madeCells z.cells (n * size)).toList → w.grownBy w' none → K (a.put o.dst (.slice (some ⟨w.heap.size, 0, none⟩) n n)) w') : o.wp P a w K Q := by
 obtain ⟨w', hrun, r1, r2⟩ := run_make_full (P := P) w base t e i z size h1 h2 h3 h4 kl kc n b2 b3 b4
 subst hL
 subst hC
 unfold Oper.wp
 simp [execOp, hop, hl, hc, hrun, Result.andThen]
 exact hK w' r1 r2
theorem made_get {z : Array Value} {k sz v j : Nat} (hs : z.size = sz) (hj : j < sz) (hk : v < k) : (madeCells z (k * sz)).toList[v * sz + j]? = z[j]? := by
 have lt : v * sz + j < k * sz := by
  have := Nat.mul_le_mul_right sz (show v + 1 ≤ k by omega)
  rw [Nat.add_mul, Nat.one_mul] at this
  omega
 subst hs
 have e : (v * z.size + j) % z.size = j := by rw [Nat.add_comm, Nat.add_mul_mod_self_right, Nat.mod_eq_of_lt hj]
 rw [Array.getElem?_toList]
 simp only [madeCells]
 rw [Array.getElem?_map, Array.getElem?_range]
 simp only [lt, if_true, Option.map_some]
 rw [e, getElem!_pos z j hj, getElem?_pos z j hj]
end Go.Proofs.Ytijdglogadnbcaa
namespace Go.Proofs.Ytijdglogadnbcaa
open Go.RowKit
/-- Digits in base 2^16 that lie at this slice. -/
def IAt (w : World) (l : List Nat) (a : Option Addr) : Prop := l ≠ [] → ∃ b o, a = some ⟨b, o, none⟩ ∧ ∀ i, i < l.length → w.cell? ⟨b, o + i, none⟩ = some (.int .i64 ((l.getD i 0 : Nat) : Int))
structure HAt (w : World) (l : List Nat) (a : Option Addr) (n c : Nat) : Prop where
 at_ : IAt w l a
 len : l.length = n
 le : n ≤ c
 cap : c ≤ 9223372036854775807
 lm : Nh.Lm l
theorem IAt.below {w w' : World} {l : List Nat} {a : Option Addr} (h : IAt w l a) (hb : Below w.heap.size w w') : IAt w' l a := by
 intro hne
 obtain ⟨b, o, e, d⟩ := h hne
 exact ⟨b, o, e, fun i hi => cell_later hb (Nat.le_refl _) (d i hi)⟩
theorem HAt.below {w w' : World} {l : List Nat} {a : Option Addr} {n c : Nat} (h : HAt w l a n c) (hb : Below w.heap.size w w') : HAt w' l a n c :=
 ⟨h.at_.below hb, h.len, h.le, h.cap, h.lm⟩
theorem hdigit_any {w : World} {l : List Nat} {a : Option Addr} {n c : Nat} (h : HAt w l a n c) (i : Nat) (hi : i ≤ 9223372036854775807) :
  Calls Try.prog 73 #[.slice a n c, .int .i64 (i : Int)] w fun e w' => e = .returned (.int .i64 ((l.getD i 0 : Nat) : Int)) ∧ w = w' := by
 have hc := h.cap; have hl := h.le
 by_cases hlt : i < n
 ·obtain ⟨b, o, rfl, d⟩ := h.at_ (by intro e; have := h.len; rw [e] at this; simp at this; omega)
  have p := d i (by rw [h.len]; exact hlt)
  obtain ⟨x, hx⟩ : ∃ x, l.getD i 0 = x := ⟨_, rfl⟩
  rw [hx] at p ⊢
  clear h d hx
  go_enter Try.func73, Try.ntmps73
  go_wp2_with fail
  go_ret
  exact ⟨rfl, rfl⟩
 ·have e : l.getD i 0 = 0 := by rw [List.getD_eq_getElem?_getD, List.getElem?_eq_none (by rw [h.len]; omega)]; rfl
  rw [e]
  clear h e
  have h2 : (n : Int) ≤ (i : Int) := by omega
  go_enter Try.func73, Try.ntmps73
  go_wp2_with fail
  go_ret
  exact ⟨rfl, rfl⟩
def HTm (l : List Nat) (a : Option Addr) (n c : Nat) (v : Value) : Prop := ∃ k : Nat, k ≤ n ∧ v = .slice a k c ∧ Nh.trm (l.take k) = Nh.trm l
theorem htake_last {l : List Nat} {k : Nat} (h : k < l.length) : l.take (k + 1) = l.take k ++ [l.getD k 0] := take_last h
def HcL (la lb : List Nat) (n : Nat) (i : Value) : Prop := ∃ k : Nat, k ≤ n ∧ i = .int .i64 ((k : Int) - 1) ∧ ∀ j, k ≤ j → la.getD j 0 = lb.getD j 0
theorem info3 : (Try.prog.info? 3).map (fun i => (i.zero, i.size, i.bytes)) = some (some (.int .i64 0), 1, 8) := by kernel_rfl
def i64s (l : List Nat) : List Value := l.map fun x => Value.int .i64 ((x : Nat) : Int)
theorem i64s_length (l : List Nat) : (i64s l).length = l.length := List.length_map ..
theorem i64s_get (l : List Nat) {i : Nat} (h : i < l.length) : (i64s l)[i]? = some (.int .i64 ((l.getD i 0 : Nat) : Int)) := by
 unfold i64s
 rw [List.getElem?_map, List.getElem?_eq_getElem h, List.getD_eq_getElem?_getD, List.getElem?_eq_getElem h]; rfl
theorem own_hat {w : World} {b n : Nat} {v : Value} {l : List Nat} (hl : Nh.Lm l) (hn : l.length = n) (h : w.ownsRow b 3 1 v n (i64s l)) : ∃ a c, v = .slice a n c ∧ HAt w l a n c := by
 rcases h.2 with ⟨rfl, h0⟩ | ⟨g, cap, cur, rfl, _, hg, hc, hm, _, ht⟩
 ·subst h0
  have e : l = [] := List.length_eq_zero_iff.1 hn
  subst e
  exact ⟨none, 0, rfl, fun q => absurd rfl q, rfl, Nat.le_refl _, by omega, fun x hx => by simp at hx⟩
 ·refine ⟨some ⟨g, 0, none⟩, cap, rfl, fun _ => ⟨g, 0, rfl, fun i hi => ?_⟩, hn, hc, hm, hl⟩
  have := h.cells (g := g) rfl i _ (i64s_get l hi)
  rw [Addr.add_lit] at this
  exact this
def HPost (w : World) (x : Nat) (e : Ending) (w' : World) : Prop := ∃ a n c, e = .returned (.slice a n c) ∧ HAt w' (Nh.toL x) a n c ∧ Below w.heap.size w w'
theorem Nh.trm_take' {l : List Nat} (h : Nh.Lm l) : Nh.trm l = l.take (Nh.trm l).length := by
 induction l with
 | nil => unfold Nh.trm; rw [show Nh.vl [] = 0 from rfl, Nh.toL_zero]; rfl
 | cons x l ih =>
  have h2 : Nh.Lm l := fun y hy => h y (List.mem_cons_of_mem _ hy)
  rw [Nh.trm_cons (h x List.mem_cons_self)]
  split
  ·rfl
  ·rw [List.length_cons, List.take_succ_cons, ← ih h2]
theorem HAt.trim {w : World} {l : List Nat} {a : Option Addr} {n c : Nat} (h : HAt w l a n c) : HAt w (Nh.toL (Nh.vl l)) a (Nh.trm l).length c := by
 have e := Nh.trm_take' h.lm
 have le : (Nh.trm l).length ≤ l.length := by have := congrArg List.length e; rw [List.length_take] at this; omega
 refine ⟨fun hne => ?_, rfl, ?_, h.cap, Nh.toL_lm _⟩
 ·have hl : l ≠ [] := by
   intro q; apply hne
   rw [q]; exact Nh.toL_zero
  obtain ⟨b, o, rfl, d⟩ := h.at_ hl
  refine ⟨b, o, rfl, fun i hi => ?_⟩
  have hi : i < (Nh.trm l).length := hi
  rw [d i (by omega)]
  show _ = some (Value.int .i64 (((Nh.trm l).getD i 0 : Nat) : Int))
  rw [e]
  simp only [List.getD_eq_getElem?_getD, List.getElem?_take, if_pos hi]
 ·have := h.len; have := h.le; omega
theorem HPost.of_trim {w wr : World} {l : List Nat} {a : Option Addr} {n c x : Nat} (h : HAt wr l a n c) (hb : Below w.heap.size w wr) (hx : Nh.vl l = x) : HPost w x (.returned (.slice a (Nh.trm l).length c)) wr :=
 ⟨a, _, c, rfl, by rw [← hx]; exact h.trim, hb⟩
theorem and16 (x : Nat) (h : x < 4294967296) : bits .and .u32 (x : Int) 65535 = ((x % 65536 : Nat) : Int) := by
 have := (bits_nat .u32 32 (by decide) wraps_u32 x 65535 (by omega) (by decide)).1
 rw [show (65535 : Int) = ((65535 : Nat) : Int) from rfl, this]
 congr 1
 exact Nat.and_two_pow_sub_one_eq_mod x 16
def NoL (w : World) (l : List Nat) (v i : Value) (wr : World) : Prop :=
 ∃ k : Nat, k ≤ l.length ∧ i = .int .i64 (k : Int) ∧ wr.ownsRow w.heap.size 3 1 v (2 * k) (i64s (Nh.nh (l.take k))) ∧ Below w.heap.size w wr
end Go.Proofs.Ytijdglogadnbcaa
namespace Go.Proofs.Ytijdglogadnbcaa
open Go.RowKit Nt Bl
/-- What Tight has behind the first k columns. -/
def tgT (P : Pb) (r : Nat) : Nat → List Nat
 | 0 => []
 | k + 1 => if P.n ≤ P.free k ∧ P.T r k ≠ 0 then tgT P r k ++ [P.free k - P.n] else tgT P r k
def Bl.Pb.tight (P : Pb) (r : Nat) : List Nat := tgT P r P.n
def nats (l : List Nat) : List Value := l.map fun (x : Nat) => .int .i64 ((x : Nat) : Int)
theorem tgT_len (P : Pb) (r : Nat) : ∀ k, (tgT P r k).length ≤ k
 | 0 => Nat.le_refl _
 | k + 1 => by
  have := tgT_len P r k
  unfold tgT
  split
  ·rw [List.length_append]; simp; omega
  ·omega
theorem nats_push (l : List Nat) (x : Nat) : nats (l ++ [x]) = nats l ++ [.int .i64 (x : Int)] := by simp [nats]
theorem own_below {w w' : World} {base e size n : Nat} {v : Value} {xs : List Value} (h : w.ownsRow base e size v n xs) (hb : Below w.heap.size w w') : w'.ownsRow base e size v n xs :=
 h.kept (below_by hb none) (by cases v.ownBlock with
  | none => exact Or.inl rfl
  | some _ => exact Or.inr (by simp))
def TgL (w : World) (P : Pb) (r : Nat) (v4 v23 : Value) (wr : World) : Prop :=
 ∃ k : Nat, k ≤ P.n ∧ v23 = .int .i64 (k : Int) ∧ Below w.heap.size w wr ∧ wr.ownsRow w.heap.size 3 1 v4 (tgT P r k).length (nats (tgT P r k))
theorem tight_any {n0 r : Nat} {w : World} {L : Lay} {P : Pb} (h : PAt n0 w L P) (hp : P.Pl) (hr : fstAt P.basic (P.n + P.m - 1) P.m = some r) :
  Calls Try.prog 34 #[.pointer (some ⟨L.p, 0, none⟩)] w fun e w' => ∃ v, e = .returned v ∧ w'.ownsRow w.heap.size 3 1 v (P.tight r).length (nats (P.tight r)) ∧ Below w.heap.size w w' := by
 have nm := h.nm; have cp := h.cp
 obtain ⟨v, hN⟩ : ∃ v, P.n + P.m = v + 1 := ⟨P.n + P.m - 1, by omega⟩
 obtain ⟨m, hm⟩ : ∃ m, P.m = m := ⟨_, rfl⟩
 obtain ⟨n, hn⟩ : ∃ n, P.n = n := ⟨_, rfl⟩
 rw [hm, hn] at nm
 rw [hm, hn] at cp
 have HN := Lib.hid hN; have HM := Lib.hid hm; have HNN := Lib.hid hn; have PL := Lib.hid hp
 have vv : v ≤ 200 := by omega
 have vI0 : (0 : Int) ≤ (v : Int) := by omega
 have vI1 : (v : Int) < ((v + 1 : Nat) : Int) := by omega
 have rM : r < m := by rw [← hm]; exact (fstAt_lt hr).1
 have rI0 : (0 : Int) ≤ (r : Int) := by omega
 have rI1 : (r : Int) < (m : Int) := by omega
 have IX := index_any (v := v) (h.below (Below.refl w.heap.size w).drew).ba h.cp.1 h.cp.2.1
 rw [hN, Nat.add_sub_cancel] at hr
 rw [hr, hm, show bestI (some r) = (r : Int) from rfl] at IX
 have IX := Lib.hid IX
 have AT := Lib.hid h
 obtain ⟨q0, q1, q2, q3, q4, q5, q6⟩ := h.head
 rw [hn] at q0 q5
 rw [hN] at q1 q2 q3
 rw [hm] at q4 q6
 clear h hp hN hm hn hr
 have KP := Lib.hid (fun (W : World) (hB : Below w.heap.size w W) => (show W.cell? ⟨L.p, 3, none⟩ = some (.slice (some ⟨L.now, 0, none⟩) (v + 1) (v + 1)) ∧ W.cell? ⟨L.p, 4, none⟩ = some (.slice (some ⟨L.bas, 0, none⟩) m L.basc) from ⟨cell_later hB (Nat.le_refl _) q3, cell_later hB (Nat.le_refl _) q4⟩))
 have HW : Hid (IntKind.i64.wrap (v : Int) = (v : Int)) := IntWalk.i64_in _ (by omega)
 go_enter Try.func34, Try.ntmps34
 go_upto_region 1 with fail
 go_region_held3 (fun W => W.cell? ⟨L.p, 3, none⟩ = some (.slice (some ⟨L.now, 0, none⟩) (v + 1) (v + 1)) ∧ W.cell? ⟨L.p, 4, none⟩ = some (.slice (some ⟨L.bas, 0, none⟩) m L.basc))
   (first
    | with_reducible exact ⟨q3, q4⟩
    | with_reducible exact KS
    | go_keep)
   ((go_at_call 56; rw [HW.out]; ((with_reducible refine IX.out.mono ?_)); go_loud (rintro e w2 ⟨rfl, rfl⟩; have KS := KP.out w.drew (Below.refl _ _).drew)))
 have A0 := Lib.hid (AT.out.below (Below.refl w.heap.size w).drew)
 have J0 : Hid (TgL w P r (.slice none 0 0) (.int .i64 0) w.drew) := ⟨0, Nat.zero_le _, rfl, (Below.refl _ _).drew, World.ownsRow_nil _ _ _ _⟩
 have HD := Lib.hid (fun (W : World) (h : PAt n0 W L P) => (show W.cell? ⟨L.p, 0, none⟩ = some (.int .i64 (n : Int)) ∧ W.cell? ⟨L.p, 5, none⟩ = some (.slice L.frea n L.frec) ∧ W.cell? ⟨L.p, 6, none⟩ = some (.slice (some ⟨L.tab, 0, none⟩) m L.tabc) from by
  have := h.head; rw [HNN.out, HM.out] at this; exact ⟨this.1, this.2.2.2.2.2.1, this.2.2.2.2.2.2⟩))
 obtain ⟨i3, hi3, hz30, hz31, hz32⟩ := info_parts info3
 clear q0 q1 q2 q3 q4 q5 q6
 obtain ⟨q0, q5, q6⟩ := HD.out _ A0.out
 go_wp2_with fail
 go_loopw [4, 23] (fun v4 v23 wr => TgL w P r v4 v23 wr) (fun _ x _ => n - (intOf x).toNat)
 case atStart => exact J0.out
 case round =>
  clear q0 q5 q6 A0 J0
  obtain ⟨k, hk, rfl, hB, hO⟩ := hrel
  rw [HNN.out] at hk
  have A := Lib.hid (AT.out.below hB); have BR := Lib.hid hB; have OW := Lib.hid hO
  clear hB hO
  obtain ⟨q0, q5, q6⟩ := HD.out _ A.out
  by_cases hlt : k < n
  ·have n0' : 0 < P.n := by have := HNN.out; omega
   have kP : k < P.n := by have := HNN.out; omega
   obtain ⟨x, hx⟩ : ∃ x, P.free k = x := ⟨_, rfl⟩
   have xN : x < 300 := by have := PL.out.flt k kP; have := HN.out; omega
   have pf := (A.out.fr n0').2.at_ k kP
   rw [hx] at pf
   have HX := Lib.hid hx
   rw [(A.out.fr n0').1] at q5
   rw [(A.out.fr n0').1]
   have k0 : (0 : Int) ≤ (k : Int) := by omega
   have k1 : (k : Int) < (n : Int) := by omega
   have x0 : (0 : Int) ≤ (x : Int) := by omega
   have x1 : (x : Int) < 300 := by omega
   clear hx
   by_cases xn : x < n
   ·have T1 : Hid (tgT P r (k + 1) = tgT P r k) := by show _ = _; rw [tgT, if_neg]; rw [HX.out, HNN.out]; omega
    have x2 : ¬ (n : Int) ≤ (x : Int) := by omega
    clear xn
    go_wp2_with fail
    go_roundw
    case rel => exact ⟨k + 1, by rw [HNN.out]; omega, by go_num, BR.out, by rw [T1.out]; exact OW.out⟩
    case measure => simp [intOf]; omega
   ·have x2 : (n : Int) ≤ (x : Int) := by omega
    obtain ⟨d, rfl⟩ : ∃ d, x = n + d := ⟨x - n, by omega⟩
    have rP : r < P.m := by have := HM.out; omega
    obtain ⟨la, li⟩ := A.out.li n0' r rP
    have ta := A.out.ta r rP
    rw [la, HNN.out] at ta
    obtain ⟨E, e0, e1, e2, rE⟩ := li.at_ k kP
    obtain ⟨z, hz⟩ : ∃ z, rsgn (P.T r k) = z := ⟨_, rfl⟩
    have SG := rsign_any rE
    rw [hz] at SG
    have SG := Lib.hid SG
    have HZ := Lib.hid hz
    clear la li rE hz xn
    by_cases z0 : z = 0
    ·have T1 : Hid (tgT P r (k + 1) = tgT P r k) := by
      show _ = _
      rw [tgT, if_neg]
      intro h
      exact h.2 (rsgn_zero.1 (by rw [HZ.out]; exact z0))
     have zb : (z != 0) = false := by simp [z0]
     clear z0
     go_wp2_with (go_at_call 33; refine SG.out.mono ?_; rintro e w2 ⟨rfl, B2⟩; have BR := Lib.hid (Below.over BR.out BR.out.size B2); have OW := Lib.hid (own_below OW.out B2))
     go_roundw
     case rel => exact ⟨k + 1, by rw [HNN.out]; omega, by go_num, BR.out, by rw [T1.out]; exact OW.out⟩
     case measure => simp [intOf]; omega
    ·have T1 : Hid (tgT P r (k + 1) = tgT P r k ++ [d]) := by
      show _ = _
      rw [tgT, if_pos ⟨by rw [HX.out, HNN.out]; omega, fun h => z0 (by rw [← HZ.out]; exact rsgn_zero.2 h)⟩, HX.out, HNN.out, Nat.add_sub_cancel_left]
     have zb : (z != 0) = true := by simp [z0]
     clear z0
     have DE : Hid ((n : Int) + (d : Int) - (n : Int) = (d : Int)) := by show _ = _; omega
     go_wp2_with (first
      | (go_at_call 33; refine SG.out.mono ?_; rintro e w2 ⟨rfl, B2⟩; have A2 := Lib.hid (A.out.below B2); have BR2 := Lib.hid (Below.over BR.out BR.out.size B2); have OW2 := Lib.hid (own_below OW.out B2); clear q0 q5 q6 e0 e1 e2 ta pf SG A BR OW B2; obtain ⟨q0, q5, q6⟩ := HD.out _ A2.out; have FN : Hid ((w2.alloc (.cells #[.int .i64 ((n : Int) + (d : Int) - (n : Int))] 3)).heap[w2.heap.size]? = some (.cells #[.int .i64 ((n : Int) + (d : Int) - (n : Int))] 3 (0, 0))) := heap_alloc_new _ _; have OA : Hid ((w2.alloc (.cells #[.int .i64 ((n : Int) + (d : Int) - (n : Int))] 3)).ownsRow w.heap.size 3 1 u4 (tgT P r k).length (nats (tgT P r k))) := OW2.out.alloc _; have BA := Lib.hid (Below.over BR2.out BR2.out.size (below_new w2 (.cells #[.int .i64 ((n : Int) + (d : Int) - (n : Int))] 3))); have LE := tgT_len P r k)
      | (at_builtin; refine wpList_append_own _ rfl _ _ 62 rfl w.heap.size 3 i3 _ 1 8 Try.underlying62 hi3 hz30 hz31 hz32 rfl (by omega) _ (tgT P r k).length (nats (tgT P r k)) rfl OA.out ⟨w2.heap.size, 0, none⟩ 1 1 [.int .i64 ((n : Int) + (d : Int) - (n : Int))] rfl rfl (World.news_of_block FN.out) (by intro u hu; simp at hu; subst hu; rfl) (by unfold maxLen; omega) (by omega) BA.out.size ?_; intro v5 w5 ho5 hg5 hn5; have O5 := Lib.hid ho5; have B5 := Lib.hid (below_own BA.out OA.out BA.out.size hg5); clear ho5 hg5 hn5))
     go_roundw
     case rel => exact ⟨k + 1, by rw [HNN.out]; omega, by go_num, B5.out, by rw [T1.out, nats_push, List.length_append]; have o := O5.out; rw [DE.out] at o; exact o⟩
     case measure => simp [intOf]; omega
  ·obtain rfl : n = k := by omega
   have E : Hid (tgT P r n = P.tight r) := by show _ = _; rw [← HNN.out]; rfl
   go_wp2_with fail
   go_ret
   exact ⟨_, rfl, by rw [← E.out]; exact OW.out, BR.out⟩
end Go.Proofs.Ytijdglogadnbcaa
