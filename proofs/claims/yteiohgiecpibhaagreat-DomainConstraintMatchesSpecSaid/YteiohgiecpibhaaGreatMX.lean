/- ContainsFunc of numbers and of tuples. -/
import Derived.Test.YteiohgiecpibhaaGreatMG
import Derived.Test.YteiohgiecpibhaaGreatMT
import Derived.Test.YteiohgiecpibhaaGreatVo
set_option linter.unusedVariables false
set_option linter.unusedSimpArgs false
set_option maxRecDepth 100000
set_option maxHeartbeats 4000000
namespace Go.Proofs.YteiohgiecpibhaaGreat
open Go.RowKit Fdm

/-- Out of the range of values. -/
def ouF (v : Int) : Bool := !(decide (-16384 ≤ v) && decide (v ≤ 16384))
theorem out51_any (v : Int) (w : World) : Calls Tryz.prog 51 #[.int .i64 v] w fun e w' => e = .returned (.bool (ouF v)) ∧ Qt w w' := by
  have W := Lib.hid (within_any v w)
  unfold ouF
  obtain ⟨b, hb⟩ : ∃ b, (decide (-16384 ≤ v) && decide (v ≤ 16384)) = b := ⟨_, rfl⟩
  rw [hb] at W ⊢
  clear hb
  go_enter Tryz.func51, Tryz.ntmps51
  go_wp2_with (go_at_call 40; refine W.out.mono ?_; rintro e w2 ⟨rfl, hq⟩; have Q2 := Lib.hid hq; clear hq)
  go_ret
  exact ⟨rfl, Q2.out⟩
theorem idxQ51 {w : World} {l : List Int} {a : Option Addr} {n c : Nat} (h : InA w l a) (hn : l.length = n) (h0 : n ≤ c) (h1 : c ≤ 9223372036854775807) :
    Calls Tryz.prog 78 #[.slice a n c, .func (.func 51) #[] #[]] w fun e w' => (∃ x : Int, e = .returned (.int .i64 x) ∧ (0 ≤ x ↔ l.any ouF = true)) ∧ Qt w w' := by
  have H := Lib.hid h; have N := Lib.hid hn; have HF := Lib.hid (out51_any)
  clear h hn
  go_enter Tryz.func78, Tryz.ntmps78
  go_wp2_with fail
  go_loopw [8] (fun v8 wr => ∃ k : Nat, k ≤ l.length ∧ v8 = .int .i64 (k : Int) ∧ (∀ i, i < k → ouF (l.getD i 0) = false) ∧ Qt w wr) (fun v8 _ => n - (intOf v8).toNat)
  case atStart => exact ⟨0, Nat.zero_le _, rfl, fun i hi => absurd hi (Nat.not_lt_zero _), Qt.refl _⟩
  obtain ⟨k, hk, rfl, hf, hq⟩ := hrel
  have G0 := Lib.hid hf; have Q := Lib.hid hq
  rw [N.out] at hk
  clear hf hq
  by_cases hlt : k < n
  · obtain ⟨g, o, rfl, dd⟩ := H.out (by intro e; have := N.out; rw [e] at this; simp at this; omega)
    have p0 := Q.out.cell (dd k (by rw [N.out]; exact hlt))
    clear dd
    have MM := Lib.hid (getD_mem (l := l) (k := k) (by rw [N.out]; exact hlt))
    have CF := Lib.hid (HF.out (l.getD k 0))
    obtain ⟨b, hb⟩ : ∃ b, l.getD k 0 = b := ⟨_, rfl⟩
    rw [hb] at p0 MM CF
    have HB := Lib.hid hb
    clear hb
    by_cases pb : ouF b = true
    · rw [pb] at CF
      have AN : Hid (l.any ouF = true) := List.any_eq_true.2 ⟨b, MM.out, pb⟩
      clear pb
      go_wp2_with fail
      refine (CF.out _).mono ?_
      rintro e w2 ⟨rfl, hq⟩
      have Q2 := Lib.hid (Q.out.trans hq)
      clear hq
      go_wp2_with fail
      go_ret
      exact ⟨⟨k, rfl, ⟨fun _ => AN.out, fun _ => by omega⟩⟩, Q2.out⟩
    · have pb : ouF b = false := by simpa using pb
      rw [pb] at CF
      have G : Hid (∀ i, i < k + 1 → ouF (l.getD i 0) = false) := fun i hi => by
        by_cases e : i = k
        · subst e; rw [HB.out]; exact pb
        · exact G0.out i (by omega)
      clear pb
      go_wp2_with fail
      refine (CF.out _).mono ?_
      rintro e w2 ⟨rfl, hq⟩
      have Q2 := Lib.hid (Q.out.trans hq)
      clear hq
      go_wp2_with fail
      go_roundw
      case rel => exact ⟨k + 1, by rw [N.out]; omega, by go_num, G.out, Q2.out⟩
      simp [intOf]; omega
  · obtain rfl : n = k := by omega
    go_wp2_with fail
    go_ret
    refine ⟨⟨-1, rfl, ⟨fun q => absurd q (by omega), fun q => ?_⟩⟩, Q.out⟩
    obtain ⟨u, hu, e⟩ := List.any_eq_true.1 q
    obtain ⟨i, hi, rfl⟩ := List.getElem_of_mem hu
    have := G0.out i (by rw [N.out] at hi; exact hi)
    rw [List.getD_eq_getElem?_getD, List.getElem?_eq_getElem hi] at this
    exact absurd e (by simpa using this)
theorem con51_any {w : World} {l : List Int} {a : Option Addr} {n c : Nat} (h : InA w l a) (hn : l.length = n) (h0 : n ≤ c) (h1 : c ≤ 9223372036854775807) :
    Calls Tryz.prog 50 #[.slice a n c, .func (.func 51) #[] #[]] w fun e w' => e = .returned (.bool (l.any ouF)) ∧ Qt w w' := by
  have C := Lib.hid (idxQ51 h hn h0 h1)
  clear h hn
  go_enter Tryz.func50, Tryz.ntmps50
  go_wp2_with fail
  refine C.out.mono ?_
  rintro e w2 ⟨⟨x, rfl, hx⟩, hq⟩
  have HX := Lib.hid hx; have Q := Lib.hid hq
  clear hx hq
  go_wp2_with fail
  go_ret
  refine ⟨congrArg (fun b => Ending.returned (Value.bool b)) ?_, Q.out⟩
  rw [Bool.eq_iff_iff, ← HX.out]
  simp
theorem out92_any (v : Int) (w : World) : Calls Tryz.prog 92 #[.int .i64 v] w fun e w' => e = .returned (.bool (ouF v)) ∧ Qt w w' := by
  have W := Lib.hid (within_any v w)
  unfold ouF
  obtain ⟨b, hb⟩ : ∃ b, (decide (-16384 ≤ v) && decide (v ≤ 16384)) = b := ⟨_, rfl⟩
  rw [hb] at W ⊢
  clear hb
  go_enter Tryz.func92, Tryz.ntmps92
  go_wp2_with (go_at_call 40; refine W.out.mono ?_; rintro e w2 ⟨rfl, hq⟩; have Q2 := Lib.hid hq; clear hq)
  go_ret
  exact ⟨rfl, Q2.out⟩
theorem idxQ92 {w : World} {l : List Int} {a : Option Addr} {n c : Nat} (h : InA w l a) (hn : l.length = n) (h0 : n ≤ c) (h1 : c ≤ 9223372036854775807) :
    Calls Tryz.prog 78 #[.slice a n c, .func (.func 92) #[] #[]] w fun e w' => (∃ x : Int, e = .returned (.int .i64 x) ∧ (0 ≤ x ↔ l.any ouF = true)) ∧ Qt w w' := by
  have H := Lib.hid h; have N := Lib.hid hn; have HF := Lib.hid (out92_any)
  clear h hn
  go_enter Tryz.func78, Tryz.ntmps78
  go_wp2_with fail
  go_loopw [8] (fun v8 wr => ∃ k : Nat, k ≤ l.length ∧ v8 = .int .i64 (k : Int) ∧ (∀ i, i < k → ouF (l.getD i 0) = false) ∧ Qt w wr) (fun v8 _ => n - (intOf v8).toNat)
  case atStart => exact ⟨0, Nat.zero_le _, rfl, fun i hi => absurd hi (Nat.not_lt_zero _), Qt.refl _⟩
  obtain ⟨k, hk, rfl, hf, hq⟩ := hrel
  have G0 := Lib.hid hf; have Q := Lib.hid hq
  rw [N.out] at hk
  clear hf hq
  by_cases hlt : k < n
  · obtain ⟨g, o, rfl, dd⟩ := H.out (by intro e; have := N.out; rw [e] at this; simp at this; omega)
    have p0 := Q.out.cell (dd k (by rw [N.out]; exact hlt))
    clear dd
    have MM := Lib.hid (getD_mem (l := l) (k := k) (by rw [N.out]; exact hlt))
    have CF := Lib.hid (HF.out (l.getD k 0))
    obtain ⟨b, hb⟩ : ∃ b, l.getD k 0 = b := ⟨_, rfl⟩
    rw [hb] at p0 MM CF
    have HB := Lib.hid hb
    clear hb
    by_cases pb : ouF b = true
    · rw [pb] at CF
      have AN : Hid (l.any ouF = true) := List.any_eq_true.2 ⟨b, MM.out, pb⟩
      clear pb
      go_wp2_with fail
      refine (CF.out _).mono ?_
      rintro e w2 ⟨rfl, hq⟩
      have Q2 := Lib.hid (Q.out.trans hq)
      clear hq
      go_wp2_with fail
      go_ret
      exact ⟨⟨k, rfl, ⟨fun _ => AN.out, fun _ => by omega⟩⟩, Q2.out⟩
    · have pb : ouF b = false := by simpa using pb
      rw [pb] at CF
      have G : Hid (∀ i, i < k + 1 → ouF (l.getD i 0) = false) := fun i hi => by
        by_cases e : i = k
        · subst e; rw [HB.out]; exact pb
        · exact G0.out i (by omega)
      clear pb
      go_wp2_with fail
      refine (CF.out _).mono ?_
      rintro e w2 ⟨rfl, hq⟩
      have Q2 := Lib.hid (Q.out.trans hq)
      clear hq
      go_wp2_with fail
      go_roundw
      case rel => exact ⟨k + 1, by rw [N.out]; omega, by go_num, G.out, Q2.out⟩
      simp [intOf]; omega
  · obtain rfl : n = k := by omega
    go_wp2_with fail
    go_ret
    refine ⟨⟨-1, rfl, ⟨fun q => absurd q (by omega), fun q => ?_⟩⟩, Q.out⟩
    obtain ⟨u, hu, e⟩ := List.any_eq_true.1 q
    obtain ⟨i, hi, rfl⟩ := List.getElem_of_mem hu
    have := G0.out i (by rw [N.out] at hi; exact hi)
    rw [List.getD_eq_getElem?_getD, List.getElem?_eq_getElem hi] at this
    exact absurd e (by simpa using this)
theorem con92_any {w : World} {l : List Int} {a : Option Addr} {n c : Nat} (h : InA w l a) (hn : l.length = n) (h0 : n ≤ c) (h1 : c ≤ 9223372036854775807) :
    Calls Tryz.prog 50 #[.slice a n c, .func (.func 92) #[] #[]] w fun e w' => e = .returned (.bool (l.any ouF)) ∧ Qt w w' := by
  have C := Lib.hid (idxQ92 h hn h0 h1)
  clear h hn
  go_enter Tryz.func50, Tryz.ntmps50
  go_wp2_with fail
  refine C.out.mono ?_
  rintro e w2 ⟨⟨x, rfl, hx⟩, hq⟩
  have HX := Lib.hid hx; have Q := Lib.hid hq
  clear hx hq
  go_wp2_with fail
  go_ret
  refine ⟨congrArg (fun b => Ending.returned (Value.bool b)) ?_, Q.out⟩
  rw [Bool.eq_iff_iff, ← HX.out]
  simp
end Go.Proofs.YteiohgiecpibhaaGreat
set_option linter.unusedVariables false
set_option linter.unusedSimpArgs false
set_option maxRecDepth 100000
set_option maxHeartbeats 4000000
namespace Go.Proofs.YteiohgiecpibhaaGreat
open Go.RowKit Fdm

theorem len91_any {w : World} {gc m n1 c1 ci : Nat} {a1 ai : Option Addr} (p1 : w.cell? ⟨gc, 1, none⟩ = some (.slice a1 n1 c1)) : Calls Tryz.prog 91 #[.slice ai m ci, .pointer (some ⟨gc, 0, none⟩)] w fun e w' => e = .returned (.bool ((m : Int) != (n1 : Int))) ∧ w' = w := by
  go_enter Tryz.func91, Tryz.ntmps91
  go_wp2_with fail
  go_ret
  exact ⟨rfl, rfl⟩
theorem idx108_any {w : World} {T : List (List Int)} {a : Option Addr} {n c gc n1 c1 : Nat} {a1 : Option Addr} (h : TuA w T a) (hr : Rm T.length n c) (p1 : w.cell? ⟨gc, 1, none⟩ = some (.slice a1 n1 c1)) :
    Calls Tryz.prog 108 #[.slice a n c, .func (.func 91) #[] #[.pointer (some ⟨gc, 0, none⟩)]] w fun e w' => (∃ x : Int, e = .returned (.int .i64 x) ∧ (0 ≤ x ↔ T.any (fun t => decide (t.length ≠ n1)) = true)) ∧ w' = w := by
  obtain ⟨hn, h0, h1⟩ := hr
  have H := Lib.hid h; have N := Lib.hid hn
  have HF := Lib.hid (fun (ai : Option Addr) (m ci : Nat) => len91_any (ai := ai) (m := m) (ci := ci) p1)
  clear h hn p1
  go_enter Tryz.func108, Tryz.ntmps108
  go_wp2_with fail
  go_loopw [8] (fun v8 wr => ∃ k : Nat, k ≤ T.length ∧ v8 = .int .i64 (k : Int) ∧ (∀ i, i < k → (T.getD i []).length = n1) ∧ wr = w) (fun v8 _ => n - (intOf v8).toNat)
  case atStart => exact ⟨0, Nat.zero_le _, rfl, fun i hi => absurd hi (Nat.not_lt_zero _), rfl⟩
  obtain ⟨k, hk, rfl, hf, rfl⟩ := hrel
  have G0 := Lib.hid hf
  rw [N.out] at hk
  clear hf
  by_cases hlt : k < n
  · obtain ⟨g, o, rfl, dd⟩ := H.out (by intro e; have := N.out; rw [e] at this; simp at this; omega)
    obtain ⟨ai, ci, p0, -, -, -⟩ := dd k (by rw [N.out]; exact hlt)
    clear dd
    obtain ⟨m, hm⟩ : ∃ m, (T.getD k []).length = m := ⟨_, rfl⟩
    rw [hm] at p0
    have CF := Lib.hid (HF.out ai m ci)
    have HB := Lib.hid hm
    clear hm
    by_cases pb : m = n1
    · subst pb
      have z : ((m : Int) != (m : Int)) = false := by simp
      rw [z] at CF
      clear z
      have G : Hid (∀ i, i < k + 1 → (T.getD i []).length = m) := fun i hi => by
        by_cases e : i = k
        · subst e; exact HB.out
        · exact G0.out i (by omega)
      go_wp2_with fail
      refine CF.out.mono ?_
      rintro e w2 ⟨rfl, rfl⟩
      go_wp2_with fail
      go_roundw
      case rel => exact ⟨k + 1, by rw [N.out]; omega, by go_num, G.out, trivial⟩
      simp [intOf]; omega
    · have z : ((m : Int) != (n1 : Int)) = true := by simp; omega
      rw [z] at CF
      clear z
      have AN : Hid (T.any (fun t => decide (t.length ≠ n1)) = true) := List.any_eq_true.2 ⟨T.getD k [], by rw [List.getD_eq_getElem?_getD, List.getElem?_eq_getElem (by rw [N.out]; exact hlt)]; exact List.getElem_mem _, by rw [HB.out]; exact decide_eq_true pb⟩
      clear pb
      go_wp2_with fail
      refine CF.out.mono ?_
      rintro e w2 ⟨rfl, rfl⟩
      go_wp2_with fail
      go_ret
      exact ⟨⟨k, rfl, ⟨fun _ => AN.out, fun _ => by omega⟩⟩, rfl⟩
  · obtain rfl : n = k := by omega
    go_wp2_with fail
    go_ret
    refine ⟨⟨-1, rfl, ⟨fun q => absurd q (by omega), fun q => ?_⟩⟩, rfl⟩
    obtain ⟨u, hu, e⟩ := List.any_eq_true.1 q
    obtain ⟨i, hi, rfl⟩ := List.getElem_of_mem hu
    have := G0.out i (by rw [N.out] at hi; exact hi)
    rw [List.getD_eq_getElem?_getD, List.getElem?_eq_getElem hi] at this
    exact absurd this (of_decide_eq_true e)
theorem con81_any {w : World} {T : List (List Int)} {a : Option Addr} {n c gc n1 c1 : Nat} {a1 : Option Addr} (h : TuA w T a) (hr : Rm T.length n c) (p1 : w.cell? ⟨gc, 1, none⟩ = some (.slice a1 n1 c1)) :
    Calls Tryz.prog 81 #[.slice a n c, .func (.func 91) #[] #[.pointer (some ⟨gc, 0, none⟩)]] w fun e w' => e = .returned (.bool (T.any (fun t => decide (t.length ≠ n1)))) ∧ w' = w := by
  have C := Lib.hid (idx108_any h hr p1)
  clear h hr p1
  go_enter Tryz.func81, Tryz.ntmps81
  go_wp2_with fail
  refine C.out.mono ?_
  rintro e w2 ⟨⟨x, rfl, hx⟩, rfl⟩
  have HX := Lib.hid hx
  clear hx
  go_wp2_with fail
  go_ret
  refine ⟨congrArg (fun b => Ending.returned (Value.bool b)) ?_, rfl⟩
  rw [Bool.eq_iff_iff, ← HX.out]
  simp
end Go.Proofs.YteiohgiecpibhaaGreat
