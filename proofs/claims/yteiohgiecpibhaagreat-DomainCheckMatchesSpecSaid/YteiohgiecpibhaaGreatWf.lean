/- slices.Equal and slices.Clone of domains; lists of domains, their Clone and Clip. -/
import Derived.Test.YteiohgiecpibhaaGreatWe
set_option linter.unusedVariables false
set_option linter.unusedSimpArgs false
set_option maxRecDepth 100000
set_option maxHeartbeats 4000000
namespace Go.Proofs.YteiohgiecpibhaaGreat
open Go.RowKit Fdm

@[go_sem] theorem eqg63 : Tryz.prog.eqGuardType Tryz.prog.depth 63 = false := by kernel_rfl
theorem sp_ext {a b : Dm} (h : a.length = b.length) (k : ∀ i, i < a.length → sp a i = sp b i) : a = b := by
  refine List.ext_getElem h fun i h1 h2 => ?_
  have := k i h1
  unfold sp at this
  rw [List.getD_eq_getElem?_getD, List.getD_eq_getElem?_getD, List.getElem?_eq_getElem h1, List.getElem?_eq_getElem h2] at this
  exact this
def EqL (w : World) (a b : Dm) (v13 : Value) (wr : World) : Prop := ∃ k : Nat, k ≤ a.length ∧ v13 = .int .i64 (k : Int) ∧ (∀ i, i < k → sp a i = sp b i) ∧ Qt w wr
theorem equal_any {w : World} {a b : Dm} {aa ab : Option Addr} {n c m e : Nat} (ha : DmS w a aa n c) (hb : DmS w b ab m e) : Calls Tryz.prog 111 #[.slice aa n c, .slice ab m e] w fun e w' => e = .returned (.bool (decide (a = b))) ∧ Qt w w' := by
  by_cases hnm : n = m
  · subst hnm
    have HA := Lib.hid ha; have HB := Lib.hid hb
    have NA := Lib.hid ha.len; have NB := Lib.hid hb.len
    have c1 := ha.cap; have c2 := ha.le; have e1 := hb.cap; have e2 := hb.le
    clear ha hb
    have nn : ((n : Int) != (n : Int)) = false := by simp
    go_enter Tryz.func111, Tryz.ntmps111
    go_wp2_with fail
    go_loopw [13] (fun v13 wr => EqL w a b v13 wr) (fun v13 _ => n - (intOf v13).toNat)
    case atStart => exact ⟨0, Nat.zero_le _, rfl, fun i hi => absurd hi (Nat.not_lt_zero _), Qt.refl _⟩
    obtain ⟨k, hk, rfl, hf, hQ⟩ := hrel
    have F := Lib.hid hf; have Q := Lib.hid hQ
    rw [NA.out] at hk
    clear hf hQ
    by_cases hlt : k < n
    · obtain ⟨g, o, rfl, dd⟩ := HA.out.read (by omega)
      obtain ⟨p0, p1⟩ := dd k hlt
      clear dd
      obtain ⟨g', o', rfl, dd⟩ := HB.out.read (by omega)
      obtain ⟨q0, q1⟩ := dd k hlt
      clear dd
      obtain ⟨x, hx⟩ : ∃ x, (sp a k).1 = x := ⟨_, rfl⟩
      obtain ⟨y, hy⟩ : ∃ y, (sp a k).2 = y := ⟨_, rfl⟩
      obtain ⟨x', hx'⟩ : ∃ x', (sp b k).1 = x' := ⟨_, rfl⟩
      obtain ⟨y', hy'⟩ : ∃ y', (sp b k).2 = y' := ⟨_, rfl⟩
      have SE : Hid (sp a k = sp b k ↔ x = x' ∧ y = y') := by show _ ↔ _; rw [Prod.ext_iff, hx, hy, hx', hy']
      rw [hx] at p0
      rw [hy] at p1
      rw [hx'] at q0
      rw [hy'] at q1
      have p0 := Q.out.cell p0
      have p1 := Q.out.cell p1
      have q0 := Q.out.cell q0
      have q1 := Q.out.cell q1
      clear hx hy hx' hy'
      by_cases s : x = x' ∧ y = y'
      · obtain ⟨rfl, rfl⟩ := s
        have G : Hid (∀ i, i < k + 1 → sp a i = sp b i) := fun i hi => by
          by_cases e : i = k
          · subst e; exact SE.out.2 ⟨rfl, rfl⟩
          · exact F.out i (by omega)
        go_upto_region 6 with fail
        go_quiet (fail)
        go_wp2_with fail
        go_roundw
        case rel => exact ⟨k + 1, by rw [NA.out]; omega, by go_num, G.out, Q.out.trans ⟨nq, rfl⟩⟩
        simp [intOf]; omega
      · have E : Hid (decide (a = b) = false) := by
          show _ = _
          rw [decide_eq_false_iff_not]
          exact fun e => s (SE.out.1 (by rw [e]))
        have s2 : (x == x' && y == y') = false := by
          rw [Bool.and_eq_false_iff]
          by_cases xx : x = x'
          · exact .inr (by simpa using fun q => s ⟨xx, q⟩)
          · exact .inl (by simpa using xx)
        by_cases xx : x = x'
        · subst xx
          have yy : (y == y') = false := by simpa using fun q => s ⟨rfl, q⟩
          have yy2 : y ≠ y' := fun q => s ⟨rfl, q⟩
          clear s s2
          go_upto_region 6 with fail
          go_quiet (fail)
          go_wp2_with fail
          go_ret
          exact ⟨by rw [E.out]; rfl, Q.out.trans ⟨nq, rfl⟩⟩
        · have xx' : (x == x') = false := by simpa using xx
          clear s s2
          go_upto_region 6 with fail
          go_quiet (fail)
          go_wp2_with fail
          go_ret
          exact ⟨by rw [E.out]; rfl, Q.out.trans ⟨nq, rfl⟩⟩
    · obtain rfl : n = k := by omega
      have E : Hid (decide (a = b) = true) := by
        show _ = _
        rw [decide_eq_true_eq]
        exact sp_ext (by rw [NA.out, NB.out]) (by rw [NA.out]; exact F.out)
      go_wp2_with fail
      go_ret
      exact ⟨by rw [E.out]; rfl, Q.out⟩
  · have E : Hid (decide (a = b) = false) := by
      show _ = _
      rw [decide_eq_false_iff_not]
      exact fun e => hnm (by rw [← ha.len, ← hb.len, e])
    have nn : ((n : Int) != (m : Int)) = true := by simp; omega
    clear ha hb hnm
    go_enter Tryz.func111, Tryz.ntmps111
    go_wp2_with fail
    go_ret
    exact ⟨by rw [E.out]; rfl, Qt.refl _⟩
end Go.Proofs.YteiohgiecpibhaaGreat
