/- slices.ContainsFunc with the closures of state.stable. Printed by gwn.py. -/
import Derived.Test.YteiohgiecpibhaaGreatWm
set_option linter.unusedVariables false
set_option linter.unusedSimpArgs false
set_option maxRecDepth 100000
set_option maxHeartbeats 4000000
namespace Go.Proofs.YteiohgiecpibhaaGreat
open Go.RowKit Fdm

theorem idxF112 {w : World} {l : List Int} {a : Option Addr} {n c gc : Nat} {p : Int → Bool} (h : InA w l a) (hn : l.length = n) (h0 : n ≤ c) (h1 : c ≤ 9223372036854775807)
    (hf : ∀ i, i < n → Calls Tryz.prog 112 #[.int .i64 (l.getD i 0), .pointer (some ⟨gc, 0, none⟩)] w fun e w' => e = .returned (.bool (p (l.getD i 0))) ∧ w' = w) :
    Calls Tryz.prog 78 #[.slice a n c, .func (.func 112) #[] #[.pointer (some ⟨gc, 0, none⟩)]] w fun e w' => (∃ x : Int, e = .returned (.int .i64 x) ∧ (0 ≤ x ↔ l.any p = true)) ∧ w' = w := by
  have H := Lib.hid h; have N := Lib.hid hn; have HF := Lib.hid hf
  clear h hn hf
  go_enter Tryz.func78, Tryz.ntmps78
  go_wp2_with fail
  go_loopw [8] (fun v8 wr => ∃ k : Nat, k ≤ l.length ∧ v8 = .int .i64 (k : Int) ∧ (∀ i, i < k → p (l.getD i 0) = false) ∧ wr = w) (fun v8 _ => n - (intOf v8).toNat)
  case atStart => exact ⟨0, Nat.zero_le _, rfl, fun i hi => absurd hi (Nat.not_lt_zero _), rfl⟩
  obtain ⟨k, hk, rfl, hf, rfl⟩ := hrel
  have G0 := Lib.hid hf
  rw [N.out] at hk
  clear hf
  by_cases hlt : k < n
  · obtain ⟨g, o, rfl, dd⟩ := H.out (by intro e; have := N.out; rw [e] at this; simp at this; omega)
    have p0 := dd k (by rw [N.out]; exact hlt)
    clear dd
    have MM := Lib.hid (getD_mem (l := l) (k := k) (by rw [N.out]; exact hlt))
    have CF := Lib.hid (HF.out k hlt)
    obtain ⟨b, hb⟩ : ∃ b, l.getD k 0 = b := ⟨_, rfl⟩
    rw [hb] at p0 MM CF
    have HB := Lib.hid hb
    clear hb
    by_cases pb : p b = true
    · rw [pb] at CF
      have AN : Hid (l.any p = true) := List.any_eq_true.2 ⟨b, MM.out, pb⟩
      clear pb
      go_wp2_with fail
      refine CF.out.mono ?_
      rintro e w2 ⟨rfl, rfl⟩
      go_wp2_with fail
      go_ret
      exact ⟨⟨k, rfl, ⟨fun _ => AN.out, fun _ => by omega⟩⟩, rfl⟩
    · have pb : p b = false := by simpa using pb
      rw [pb] at CF
      have G : Hid (∀ i, i < k + 1 → p (l.getD i 0) = false) := fun i hi => by
        by_cases e : i = k
        · subst e; rw [HB.out]; exact pb
        · exact G0.out i (by omega)
      clear pb
      go_wp2_with fail
      refine CF.out.mono ?_
      rintro e w2 ⟨rfl, rfl⟩
      go_wp2_with fail
      go_roundw
      case rel => exact ⟨k + 1, by rw [N.out]; omega, by go_num, G.out, trivial⟩
      simp [intOf]; omega
  · obtain rfl : n = k := by omega
    go_wp2_with fail
    go_ret
    refine ⟨⟨-1, rfl, ⟨fun q => absurd q (by omega), fun q => ?_⟩⟩, rfl⟩
    obtain ⟨x, hx, e⟩ := List.any_eq_true.1 q
    obtain ⟨i, hi, rfl⟩ := List.getElem_of_mem hx
    have := G0.out i (by rw [N.out] at hi; exact hi)
    rw [List.getD_eq_getElem?_getD, List.getElem?_eq_getElem hi] at this
    rw [Option.getD_some] at this
    rw [this] at e; cases e
theorem conF112 {w : World} {l : List Int} {a : Option Addr} {n c gc : Nat} {p : Int → Bool} (h : InA w l a) (hn : l.length = n) (h0 : n ≤ c) (h1 : c ≤ 9223372036854775807)
    (hf : ∀ i, i < n → Calls Tryz.prog 112 #[.int .i64 (l.getD i 0), .pointer (some ⟨gc, 0, none⟩)] w fun e w' => e = .returned (.bool (p (l.getD i 0))) ∧ w' = w) :
    Calls Tryz.prog 50 #[.slice a n c, .func (.func 112) #[] #[.pointer (some ⟨gc, 0, none⟩)]] w fun e w' => e = .returned (.bool (l.any p)) ∧ w' = w := by
  have C := Lib.hid (idxF112 h hn h0 h1 hf)
  clear h hn hf
  go_enter Tryz.func50, Tryz.ntmps50
  go_wp2_with fail
  refine C.out.mono ?_
  rintro e w2 ⟨⟨x, rfl, hx⟩, rfl⟩
  have X : Hid (l.any p = decide (0 ≤ x)) := by show _ = _; rw [Bool.eq_iff_iff, decide_eq_true_eq, hx]
  clear hx
  go_wp2_with fail
  go_ret
  exact ⟨by rw [X.out]; rfl, rfl⟩

theorem idxF115 {w : World} {l : List Int} {a : Option Addr} {n c gc : Nat} {p : Int → Bool} (h : InA w l a) (hn : l.length = n) (h0 : n ≤ c) (h1 : c ≤ 9223372036854775807)
    (hf : ∀ i, i < n → Calls Tryz.prog 115 #[.int .i64 (l.getD i 0), .pointer (some ⟨gc, 0, none⟩)] w fun e w' => e = .returned (.bool (p (l.getD i 0))) ∧ w' = w) :
    Calls Tryz.prog 78 #[.slice a n c, .func (.func 115) #[] #[.pointer (some ⟨gc, 0, none⟩)]] w fun e w' => (∃ x : Int, e = .returned (.int .i64 x) ∧ (0 ≤ x ↔ l.any p = true)) ∧ w' = w := by
  have H := Lib.hid h; have N := Lib.hid hn; have HF := Lib.hid hf
  clear h hn hf
  go_enter Tryz.func78, Tryz.ntmps78
  go_wp2_with fail
  go_loopw [8] (fun v8 wr => ∃ k : Nat, k ≤ l.length ∧ v8 = .int .i64 (k : Int) ∧ (∀ i, i < k → p (l.getD i 0) = false) ∧ wr = w) (fun v8 _ => n - (intOf v8).toNat)
  case atStart => exact ⟨0, Nat.zero_le _, rfl, fun i hi => absurd hi (Nat.not_lt_zero _), rfl⟩
  obtain ⟨k, hk, rfl, hf, rfl⟩ := hrel
  have G0 := Lib.hid hf
  rw [N.out] at hk
  clear hf
  by_cases hlt : k < n
  · obtain ⟨g, o, rfl, dd⟩ := H.out (by intro e; have := N.out; rw [e] at this; simp at this; omega)
    have p0 := dd k (by rw [N.out]; exact hlt)
    clear dd
    have MM := Lib.hid (getD_mem (l := l) (k := k) (by rw [N.out]; exact hlt))
    have CF := Lib.hid (HF.out k hlt)
    obtain ⟨b, hb⟩ : ∃ b, l.getD k 0 = b := ⟨_, rfl⟩
    rw [hb] at p0 MM CF
    have HB := Lib.hid hb
    clear hb
    by_cases pb : p b = true
    · rw [pb] at CF
      have AN : Hid (l.any p = true) := List.any_eq_true.2 ⟨b, MM.out, pb⟩
      clear pb
      go_wp2_with fail
      refine CF.out.mono ?_
      rintro e w2 ⟨rfl, rfl⟩
      go_wp2_with fail
      go_ret
      exact ⟨⟨k, rfl, ⟨fun _ => AN.out, fun _ => by omega⟩⟩, rfl⟩
    · have pb : p b = false := by simpa using pb
      rw [pb] at CF
      have G : Hid (∀ i, i < k + 1 → p (l.getD i 0) = false) := fun i hi => by
        by_cases e : i = k
        · subst e; rw [HB.out]; exact pb
        · exact G0.out i (by omega)
      clear pb
      go_wp2_with fail
      refine CF.out.mono ?_
      rintro e w2 ⟨rfl, rfl⟩
      go_wp2_with fail
      go_roundw
      case rel => exact ⟨k + 1, by rw [N.out]; omega, by go_num, G.out, trivial⟩
      simp [intOf]; omega
  · obtain rfl : n = k := by omega
    go_wp2_with fail
    go_ret
    refine ⟨⟨-1, rfl, ⟨fun q => absurd q (by omega), fun q => ?_⟩⟩, rfl⟩
    obtain ⟨x, hx, e⟩ := List.any_eq_true.1 q
    obtain ⟨i, hi, rfl⟩ := List.getElem_of_mem hx
    have := G0.out i (by rw [N.out] at hi; exact hi)
    rw [List.getD_eq_getElem?_getD, List.getElem?_eq_getElem hi] at this
    rw [Option.getD_some] at this
    rw [this] at e; cases e
theorem conF115 {w : World} {l : List Int} {a : Option Addr} {n c gc : Nat} {p : Int → Bool} (h : InA w l a) (hn : l.length = n) (h0 : n ≤ c) (h1 : c ≤ 9223372036854775807)
    (hf : ∀ i, i < n → Calls Tryz.prog 115 #[.int .i64 (l.getD i 0), .pointer (some ⟨gc, 0, none⟩)] w fun e w' => e = .returned (.bool (p (l.getD i 0))) ∧ w' = w) :
    Calls Tryz.prog 50 #[.slice a n c, .func (.func 115) #[] #[.pointer (some ⟨gc, 0, none⟩)]] w fun e w' => e = .returned (.bool (l.any p)) ∧ w' = w := by
  have C := Lib.hid (idxF115 h hn h0 h1 hf)
  clear h hn hf
  go_enter Tryz.func50, Tryz.ntmps50
  go_wp2_with fail
  refine C.out.mono ?_
  rintro e w2 ⟨⟨x, rfl, hx⟩, rfl⟩
  have X : Hid (l.any p = decide (0 ≤ x)) := by show _ = _; rw [Bool.eq_iff_iff, decide_eq_true_eq, hx]
  clear hx
  go_wp2_with fail
  go_ret
  exact ⟨by rw [X.out]; rfl, rfl⟩

/-- Marks of a list of numbers. -/
def MpM (w : World) (b : Nat) (l : List Int) : Prop := ∃ L, MpI w b L ∧ ∀ k, ((fi k L).map (·.2)).getD nvb = .bool (l.contains k)
theorem MpM.of_block {w w' : World} {b : Nat} {l : List Int} (h : MpM w b l) (hb : w'.heap[b]? = w.heap[b]?) : MpM w' b l := by
  obtain ⟨L, h1, h2⟩ := h
  exact ⟨L, h1.of_block hb, h2⟩
theorem MpM.lt {w : World} {b : Nat} {l : List Int} (h : MpM w b l) : b < w.heap.size := by obtain ⟨L, h1, h2⟩ := h; exact h1.lt
theorem dirty_any {w : World} {g7 b : Nat} {l : List Int} (v : Int) (h : MpM w b l) (hc : w.cell? ⟨g7, 0, none⟩ = some (.map (some b))) : Calls Tryz.prog 112 #[.int .i64 v, .pointer (some ⟨g7, 0, none⟩)] w fun e w' => e = .returned (.bool (l.contains v)) ∧ w' = w := by
  obtain ⟨L, h1, h2⟩ := h
  have M := Lib.hid h1; have F := Lib.hid (h2 v)
  clear h1 h2
  go_enter Tryz.func112, Tryz.ntmps112
  go_wp2_with ((with_reducible show wpList _ _ _ (⟨some 6, _, _, _, _, _⟩ :: _) _ _); refine wpList_mp_lookb _ rfl _ _ false rfl b L v rfl rfl M.out ?_; rw [if_neg (by decide), F.out])
  go_ret
  exact ⟨by simp, rfl⟩
theorem wakes_any {w : World} {gc : Nat} {x1 : Value} {vs : List Int} (v : Int) (h : InV w vs x1) (hc : w.cell? ⟨gc, 1, none⟩ = some x1) : Calls Tryz.prog 115 #[.int .i64 v, .pointer (some ⟨gc, 0, none⟩)] w fun e w' => e = .returned (.bool (vs.contains v)) ∧ w' = w := by
  obtain ⟨a, c, rfl, l1, l2, hB⟩ := h.ex
  have C := Lib.hid (contains_any v hB.a rfl l1 l2)
  clear h hB
  go_enter Tryz.func115, Tryz.ntmps115
  go_wp2_with fail
  refine C.out.mono ?_
  rintro e w2 ⟨rfl, rfl⟩
  go_wp2_with fail
  go_ret
  exact ⟨by simp, rfl⟩
end Go.Proofs.YteiohgiecpibhaaGreat
