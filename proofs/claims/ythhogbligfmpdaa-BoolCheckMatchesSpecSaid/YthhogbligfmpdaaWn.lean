/- The method diagram. -/
import Derived.Test.YthhogbligfmpdaaWm
import Derived.Laws.EntriesVeiled
set_option linter.unusedVariables false
set_option linter.unusedSimpArgs false
namespace Go.Proofs.Ythhogbligfmpdaa
open Go.RowKit Bd

/-- The nodes of a diagram lie at this slice. -/
def DAt (w : World) (O : List Nd) (a : Option Addr) : Prop :=
  O ≠ [] → ∃ b o, a = some ⟨b, o, none⟩ ∧ ∀ i, i < O.length → w.cell? ⟨b, o + i * 3, none⟩ = some (.int .i64 (nd O i).1) ∧ w.cell? ⟨b, o + i * 3 + 1, none⟩ = some (.int .i64 (nd O i).2.1) ∧ w.cell? ⟨b, o + i * 3 + 2, none⟩ = some (.int .i64 (nd O i).2.2)

/-- The same, in memory from block B on. -/
def DNew (B : Nat) (w : World) (O : List Nd) (a : Option Addr) : Prop :=
  O ≠ [] → ∃ b, B ≤ b ∧ a = some ⟨b, 0, none⟩ ∧ ∀ i, i < O.length → w.cell? ⟨b, i * 3, none⟩ = some (.int .i64 (nd O i).1) ∧ w.cell? ⟨b, i * 3 + 1, none⟩ = some (.int .i64 (nd O i).2.1) ∧ w.cell? ⟨b, i * 3 + 2, none⟩ = some (.int .i64 (nd O i).2.2)

theorem DNew.dAt {B : Nat} {w : World} {O : List Nd} {a : Option Addr} (h : DNew B w O a) : DAt w O a := by
  intro hne
  obtain ⟨b, _, e, hc⟩ := h hne
  exact ⟨b, 0, e, fun i hi => by rw [Nat.zero_add]; exact hc i hi⟩
theorem DNew.le {B B' : Nat} {w : World} {O : List Nd} {a : Option Addr} (h : DNew B w O a) (hB : B' ≤ B) : DNew B' w O a := by
  intro hne
  obtain ⟨b, hb, e, hc⟩ := h hne
  exact ⟨b, Nat.le_trans hB hb, e, hc⟩
theorem DNew.of_blocks {B : Nat} {w w' : World} {O : List Nd} {a : Option Addr} (h : DNew B w O a) (hb : ∀ b, B ≤ b → b < w.heap.size → w'.heap[b]? = w.heap[b]?) : DNew B w' O a := by
  intro hne
  obtain ⟨b, hB, e, hc⟩ := h hne
  refine ⟨b, hB, e, fun i hi => ?_⟩
  have hlt := lt_of_cell (hc i hi).1
  have hbb := hb b hB hlt
  exact ⟨(World.cell?_of_block (a := ⟨b, i * 3, none⟩) hbb).trans (hc i hi).1, (World.cell?_of_block (a := ⟨b, i * 3 + 1, none⟩) hbb).trans (hc i hi).2.1, (World.cell?_of_block (a := ⟨b, i * 3 + 2, none⟩) hbb).trans (hc i hi).2.2⟩
theorem DNew.below {B : Nat} {w w' : World} {O : List Nd} {a : Option Addr} (h : DNew B w O a) (hb : Below w.heap.size w w') : DNew B w' O a := h.of_blocks fun b _ hl => hb.block b hl
theorem dNew_nil (B : Nat) (w : World) (a : Option Addr) : DNew B w [] a := fun h => absurd rfl h

def DiPost (w : World) (T : List Bool) (e : Ending) (w' : World) : Prop :=
  ∃ a cap, e = .returned (.agg #[.slice a (cnNodes T).length cap, .int .i64 (cnRoot T)]) ∧ DNew w.heap.size w' (cnNodes T) a ∧ Below w.heap.size w w'

theorem dNew_of_row {B : Nat} {w : World} {base : Nat} {a : Option Addr} {O : List Nd} {cap : Nat} (h : w.ownsRow base 77 3 (.slice a O.length cap) O.length (nsC O)) (hB : ∀ g, (Value.slice a O.length cap).ownBlock = some g → B ≤ g) : DNew B w O a := by
  intro hne
  have hlen : 0 < O.length := List.length_pos_iff.2 hne
  rcases h.2 with ⟨_, h2⟩ | ⟨g, cap', cur, hv, _⟩
  · omega
  · simp only [Value.slice.injEq] at hv
    obtain ⟨rfl, _, rfl⟩ := hv
    refine ⟨g, hB g rfl, rfl, fun i hi => ?_⟩
    have hn := nsC_at O i hi
    refine ⟨?_, ?_, ?_⟩
    · rw [h.cellAt _ (by omega)]; exact hn.1
    · rw [h.cellAt _ (by omega)]; exact hn.2.1
    · rw [h.cellAt _ (by omega)]; exact hn.2.2

theorem old6 {w : World} {k : Nat} (h : k < w.heap.size) (o1 o2 o3 o4 o5 o6 : Obj) : ((((((w.alloc o1).alloc o2).alloc o3).alloc o4).alloc o5).alloc o6).heap[k]? = w.heap[k]? := by
  rw [Below.heap_alloc _ _ _ (by simp; omega), Below.heap_alloc _ _ _ (by simp; omega), Below.heap_alloc _ _ _ (by simp; omega), Below.heap_alloc _ _ _ (by simp; omega), Below.heap_alloc _ _ _ (by simp; omega), Below.heap_alloc _ _ _ h]

theorem new6 (w : World) (o1 o2 o3 o4 o5 o6 : Obj) : ∀ W, W = ((((((w.alloc o1).alloc o2).alloc o3).alloc o4).alloc o5).alloc o6) → W.heap[w.heap.size]? = some o1 ∧ W.heap[w.heap.size + 1]? = some o2 ∧ W.heap[w.heap.size + 1 + 1]? = some o3 ∧ W.heap[w.heap.size + 1 + 1 + 1]? = some o4 ∧ W.heap[w.heap.size + 1 + 1 + 1 + 1]? = some o5 ∧ W.heap[w.heap.size + 1 + 1 + 1 + 1 + 1]? = some o6 ∧ W.heap.size = w.heap.size + 6 := by
  rintro W rfl
  have n1 := heap_alloc_new w o1
  have n2 := heap_alloc_new (w.alloc o1) o2
  have n3 := heap_alloc_new ((w.alloc o1).alloc o2) o3
  have n4 := heap_alloc_new (((w.alloc o1).alloc o2).alloc o3) o4
  have n5 := heap_alloc_new ((((w.alloc o1).alloc o2).alloc o3).alloc o4) o5
  have n6 := heap_alloc_new (((((w.alloc o1).alloc o2).alloc o3).alloc o4).alloc o5) o6
  simp only [World.size_alloc] at n1 n2 n3 n4 n5 n6
  refine ⟨?_, ?_, ?_, ?_, ?_, n6, by simp⟩
  · rw [Below.heap_alloc _ _ _ (by simp <;> omega), Below.heap_alloc _ _ _ (by simp <;> omega), Below.heap_alloc _ _ _ (by simp <;> omega), Below.heap_alloc _ _ _ (by simp <;> omega), Below.heap_alloc _ _ _ (by simp)]; exact n1
  · rw [Below.heap_alloc _ _ _ (by simp <;> omega), Below.heap_alloc _ _ _ (by simp <;> omega), Below.heap_alloc _ _ _ (by simp <;> omega), Below.heap_alloc _ _ _ (by simp)]; exact n2
  · rw [Below.heap_alloc _ _ _ (by simp <;> omega), Below.heap_alloc _ _ _ (by simp <;> omega), Below.heap_alloc _ _ _ (by simp)]; exact n3
  · rw [Below.heap_alloc _ _ _ (by simp <;> omega), Below.heap_alloc _ _ _ (by simp)]; exact n4
  · rw [Below.heap_alloc _ _ _ (by simp)]; exact n5

def dl0 (B : Nat) : DL := ⟨B + 1 + 1 + 1 + 1, B + 1 + 1 + 1 + 1 + 1, B, B + 1 + 1, B + 1 + 1 + 1, .slice none 0 0⟩
def fn0 (B : Nat) : Value := .func (.func 88) #[] #[.pointer (some ⟨B + 1 + 1 + 1 + 1, 0, none⟩), .pointer (some ⟨B + 1 + 1 + 1 + 1 + 1, 0, none⟩), .pointer (some ⟨B, 0, none⟩), .pointer (some ⟨B + 1 + 1, 0, none⟩)]

theorem dg_new {w : World} {M : ML} {ns : List Nd} {dn : List (Nd × Int)} (h : Mgr w M ns dn) :
    ∀ W, W = ((((((w.alloc (.cells #[.pointer (some ⟨M.b, 0, none⟩)] 64)).alloc (.cells #[.slice none 0 0, .int .i64 0] 27)).alloc (.cells #[.slice none 0 0, .int .i64 0] 27)).alloc (.map #[] 0)).alloc (.cells #[.map (some (w.heap.size + 1 + 1 + 1))] 109)).alloc (.cells #[fn0 w.heap.size] 75)) →
      DG W M ns dn (dl0 w.heap.size) [] [] 0 ∧ W.heap[w.heap.size + 1]? = some (.cells #[.slice none 0 0, .int .i64 0] 27 (0, 0)) ∧ Below w.heap.size w W ∧ W.heap.size = w.heap.size + 6 := by
  intro W hW
  obtain ⟨n1, n2, n3, n4, n5, n6, n7⟩ := new6 w _ _ _ _ _ _ W hW
  have hB : Below w.heap.size w W := by
    refine ⟨by rw [hW]; rfl, by rw [hW]; rfl, by rw [hW]; rfl, by rw [n7]; omega, fun k hk => ?_⟩
    rw [hW]; exact old6 hk _ _ _ _ _ _
  refine ⟨⟨?_, n5, n6, n1, n3, World.ownsRow_nil _ _ _ _, ⟨#[], 0, n4, rfl⟩, ?_⟩, n2, hB, n7⟩
  · exact h.of_blocks fun k hk => hB.block k (h.lt hk)
  · intro k hk hf
    have := h.lt hf
    rcases hk with e | e | e
    · have : k = w.heap.size + 1 + 1 := e
      omega
    · have : k = w.heap.size + 1 + 1 + 1 := e
      omega
    · simp [dl0, Value.ownBlock] at e

theorem lev_pow {ns : List Nd} (o : Ord ns) {r : Int} (hr : Ref ns r) : ([] : List Int).length + 2 ^ lev ns r ≤ 1000000 := by
  have h1 := pow_mono (lev_le o hr)
  have h2 : (2 : Nat) ^ 16 = 65536 := by decide
  rw [h2] at h1
  simp only [List.length_nil, Nat.zero_add]
  exact Nat.le_trans h1 (by decide)

set_option maxRecDepth 100000 in
set_option maxHeartbeats 1000000 in
theorem diagram_any {w : World} {M : ML} {ns : List Nd} {dn : List (Nd × Int)} (h : Mgr w M ns dn) (g : Bd.Good ns) (hns : ns.length ≤ 1000000000000) {r : Int} (hr : Ref ns r) :
    Calls Try.prog 63 #[.pointer (some ⟨M.b, 0, none⟩), .int .i64 r] w (DiPost w (tb ns 16 r)) := by
  have hmm := @run_makeMap Try.prog
  have H := Lib.hid h; clear h
  have G := Lib.hid g; clear g
  go_enter Try.func63, Try.ntmps63
  go_wp2_with fail
  obtain ⟨dg, rb, bl, sz⟩ := dg_new H.out _ rfl
  have DG0 := Lib.hid dg; clear dg
  have RB := Lib.hid rb; clear rb
  have BL := Lib.hid bl; clear bl
  have SZ := Lib.hid sz; clear sz
  unfold fn0 at DG0 RB BL SZ
  generalize (((((w.alloc (.cells #[.pointer (some ⟨M.b, 0, none⟩)] 64)).alloc (.cells #[.slice none 0 0, .int .i64 0] 27)).alloc (.cells #[.slice none 0 0, .int .i64 0] 27)).alloc (.map #[] 0)).alloc (.cells #[.map (some (w.heap.size + 1 + 1 + 1))] 109)).alloc _ = W at *
  refine (walk_any (N := 16) (Nat.le_refl _) G.out (by omega) (ns.length + 1) W (dl0 w.heap.size) [] [] r (by have := hr.2; omega) hr DG0.out (WS.nil ns) (lev_pow G.out.ord hr)).mono ?_
  rintro e w1 ⟨v1, L1, O1, rfl, dg1, ws1, ek1, fs1⟩
  obtain ⟨av, cpv, hv1⟩ := dg1.sl
  have hv1' : v1 = .slice av O1.length cpv := hv1
  have hbo : w1.heap[w.heap.size + 1 + 1]? = some (.cells #[v1, .int .i64 0] 27 (0, 0)) := dg1.co
  rw [hv1'] at hbo
  have hrb : w1.heap[w.heap.size + 1]? = some (.cells #[.slice none 0 0, .int .i64 0] 27 (0, 0)) := by
    rw [fs1.keep (w.heap.size + 1) (by rw [SZ.out]; omega) (by rintro (e | e) <;> simp [dl0] at e) (by simp [dl0, Value.ownBlock])]
    exact RB.out
  have b0 : w1.cell? ⟨w.heap.size + 1 + 1, 0, none⟩ = some (.slice av O1.length cpv) := by simp [World.cell?, hbo]
  have b1 : w1.cell? ⟨w.heap.size + 1 + 1, 1, none⟩ = some (.int .i64 0) := by simp [World.cell?, hbo]
  have f0 : w1.frozen? ⟨w.heap.size + 1 + 1, 1, none⟩ = false := by simp [World.frozen?, hbo]
  have b2 : w1.cell? ⟨w.heap.size + 1, 0, none⟩ = some (.slice none 0 0) := by simp [World.cell?, hrb]
  have b3 : w1.cell? ⟨w.heap.size + 1, 1, none⟩ = some (.int .i64 0) := by simp [World.cell?, hrb]
  have f1 : w1.frozen? ⟨w.heap.size + 1, 0, none⟩ = false := by simp [World.frozen?, hrb]
  have f2 : w1.frozen? ⟨w.heap.size + 1, 1, none⟩ = false := by simp [World.frozen?, hrb]
  have HBO := Lib.hid hbo; clear hbo
  have HRB := Lib.hid hrb; clear hrb
  have HV1 := Lib.hid hv1'; clear hv1 hv1'
  have DG1 := Lib.hid dg1; clear dg1
  have WS1 := Lib.hid ws1; clear ws1
  have EK1 := Lib.hid ek1; clear ek1
  have FS1 := Lib.hid fs1; clear fs1
  have ER : Hid (rf (L1.map (key ns)) 16 (tb ns 16 r) = cnRoot (tb ns 16 r)) := by
    show _ = _
    rw [EK1.out]; rfl
  have EO : Hid (O1 = cnNodes (tb ns 16 r)) := by
    show _ = _
    rw [WS1.out.out, EK1.out]; rfl
  generalize rf (L1.map (key ns)) 16 (tb ns 16 r) = rt at *
  go_wp2_with fail
  refine bodyPost_ret (v := .agg #[.slice av O1.length cpv, .int .i64 rt]) (by simp [results, Try.results63, go_sem, b2, b3]) rfl ⟨av, cpv, ?_, ?_, ?_⟩
  · rw [← EO.out, ← ER.out]
  · rw [← EO.out]
    have hrow : w1.ownsRow 0 77 3 (.slice av O1.length cpv) O1.length (nsC O1) := by rw [← HV1.out]; exact DG1.out.row
    refine dNew_of_row (base := 0) (cap := cpv) (ownsRow_of_block hrow fun g hg => ?_) (fun g hg => ?_)
    rotate_left
    · rcases FS1.out.loc g (by rw [HV1.out]; exact hg) with e | e
      · simp [dl0, Value.ownBlock] at e
      · have := SZ.out; omega
    obtain ⟨cur, hcur⟩ : ∃ cur, w1.heap[g]? = some (.cells cur 77 (0, 0)) := DG1.out.row_block (by rw [← HV1.out] at hg; exact hg)
    have g1 : g ≠ w.heap.size + 1 := by
      intro e; rw [e, HRB.out] at hcur; simp at hcur
    have g2 : g ≠ w.heap.size + 1 + 1 := by
      intro e; rw [e, HBO.out] at hcur; simp at hcur
    rw [Below.heap_setCell _ _ _ _ g1, Below.heap_setCell _ _ _ _ g1, Below.heap_setCell _ _ _ _ g2]
  · have B1 : Below w.heap.size w w1 := by
      refine ⟨FS1.out.os.trans BL.out.os, FS1.out.tape.trans BL.out.tape, FS1.out.output.trans BL.out.output, Nat.le_trans BL.out.size FS1.out.size, fun k hk => ?_⟩
      rw [FS1.out.keep k (by rw [SZ.out]; omega) ?_ (by simp [dl0, Value.ownBlock])]
      · exact BL.out.block k hk
      · rintro (e | e) <;> simp [dl0] at e <;> omega
    exact ((B1.setCell (by show w.heap.size ≤ w.heap.size + 1 + 1; omega) _).setCell (by show w.heap.size ≤ w.heap.size + 1; omega) _).setCell (by show w.heap.size ≤ w.heap.size + 1; omega) _

end Go.Proofs.Ythhogbligfmpdaa
