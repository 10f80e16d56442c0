/- Meet, Minus, the reference Both. -/
import Derived.Test.YteiohgiecpibhaaGreatMU
import Derived.Test.YteiohgiecpibhaaGreatMC
set_option linter.unusedVariables false
set_option linter.unusedSimpArgs false
set_option maxRecDepth 100000
set_option maxHeartbeats 4000000
namespace Go.Proofs.YteiohgiecpibhaaGreat
open Go.RowKit Go.Shelf Fdm

/-- What an operation on two sets answers, X being the set where both are without fault. -/
def btE (a b X : Dm) : Int := if chkD a ≠ 0 then chkD a else if chkD b ≠ 0 then chkD b else ftE X
def btD (a b X : Dm) : Dm := if chkD a ≠ 0 then [] else if chkD b ≠ 0 then [] else ftD X
theorem bt_a {a b X : Dm} (h : chkD a ≠ 0) : btE a b X = chkD a ∧ btD a b X = [] := ⟨if_pos h, if_pos h⟩
theorem bt_b {a b X : Dm} (h : chkD a = 0) (k : chkD b ≠ 0) : btE a b X = chkD b ∧ btD a b X = [] := ⟨by unfold btE; rw [if_neg (by simp [h]), if_pos k], by unfold btD; rw [if_neg (by simp [h]), if_pos k]⟩
theorem bt_ok {a b X : Dm} (h : chkD a = 0) (k : chkD b = 0) : btE a b X = ftE X ∧ btD a b X = ftD X := ⟨by unfold btE; rw [if_neg (by simp [h]), if_neg (by simp [k])], by unfold btD; rw [if_neg (by simp [h]), if_neg (by simp [k])]⟩
def joinF (a b : Dm) : Dm := pkF fun v => memF a v || memF b v
theorem InV.sl {w : World} {l : List Int} {v : Value} (h : InV w l v) : ∃ a c, v = .slice a l.length c ∧ l.length ≤ c ∧ c ≤ 9223372036854775807 ∧ InA w l a := by
  obtain ⟨a, c, e, h1, h2, h3⟩ := h.ex
  exact ⟨a, c, e, h1, h2, h3.a⟩
theorem both_join {w : World} {a b X : Dm} {aa ab : Option Addr} {n c m e : Nat} (ha : DmS w a aa n c) (hb : DmS w b ab m e) (HF : chkD a = 0 → chkD b = 0 → ∀ W, Below w.heap.size w W → Calls Tryz.prog 47 #[.slice aa n c, .slice ab m e] W (DmPost W X)) :
    Calls Tryz.prog 46 #[.slice aa n c, .slice ab m e, .func (.func 47) #[] #[]] w (DePost w (btD a b X) (btE a b X)) := by
  have C1 := Lib.hid (check_any ha)
  have C2 := Lib.hid (fun W (hW : Below w.heap.size w W) => check_any (hb.below hW))
  by_cases h1 : chkD a = 0
  · by_cases h2 : chkD b = 0
    · have E := Lib.hid (bt_ok (X := X) h1 h2)
      have F := Lib.hid (HF h1 h2)
      rw [h1] at C1
      rw [h2] at C2
      clear ha hb HF h1 h2
      go_enter Tryz.func46, Tryz.ntmps46
      go_upto_region 4 with (go_at_call 12; refine C1.out.mono ?_; rintro e w2 ⟨rfl, hb⟩; have B2 := Lib.hid hb; clear hb)
      go_wp2_with (first
        | (go_at_call 12; refine (C2.out _ B2.out).mono ?_; rintro e w3 ⟨rfl, hb⟩; have B3 := Lib.hid (over B2.out hb); clear hb)
        | (go_at_call 47; refine (F.out _ B3.out).mono ?_; rintro e w4 ⟨v, rfl, hv, hb⟩; obtain ⟨pa, pc, rfl, hs⟩ := hv.s; have FT := Lib.hid (fits_any hs); have B4 := Lib.hid (over B3.out hb); clear hv hb hs)
        | (go_at_call 41; refine FT.out.mono ?_; rintro e w5 ⟨v, rfl, hv, hb⟩; have HV := Lib.hid hv; have B5 := Lib.hid (over B4.out hb); clear hv hb))
      refine bodyPost_ret (v := .tuple #[v, .int .i64 (ftE X)]) (by simp [results, Tryz.results46, go_sem]) rfl ?_
      exact ⟨_, by rw [E.out.1], by rw [E.out.2]; exact HV.out, B5.out⟩
    · have E := Lib.hid (bt_b (X := X) h1 h2)
      obtain ⟨z, hz⟩ : ∃ z, chkD b = z := ⟨_, rfl⟩
      rw [hz] at E C2 h2
      rw [h1] at C1
      have z0 : (z != 0) = true := by simp [h2]
      clear ha hb HF h1 hz
      go_enter Tryz.func46, Tryz.ntmps46
      go_upto_region 4 with (go_at_call 12; refine C1.out.mono ?_; rintro e w2 ⟨rfl, hb⟩; have B2 := Lib.hid hb; clear hb)
      go_wp2_with (go_at_call 12; refine (C2.out _ B2.out).mono ?_; rintro e w3 ⟨rfl, hb⟩; have B3 := Lib.hid (over B2.out hb); clear hb)
      refine bodyPost_ret (v := .tuple #[.slice none 0 0, .int .i64 z]) (by simp [results, Tryz.results46, go_sem]) rfl ?_
      exact ⟨_, by rw [E.out.1], by rw [E.out.2]; exact DmV.nil _, B3.out⟩
  · have E := Lib.hid (bt_a (b := b) (X := X) h1)
    obtain ⟨z, hz⟩ : ∃ z, chkD a = z := ⟨_, rfl⟩
    rw [hz] at E C1 h1
    have z0 : (z != 0) = true := by simp [h1]
    clear ha hb HF hz
    go_enter Tryz.func46, Tryz.ntmps46
    go_wp2_with (go_at_call 12; refine C1.out.mono ?_; rintro e w2 ⟨rfl, hb⟩; have B2 := Lib.hid hb; clear hb)
    refine bodyPost_ret (v := .tuple #[.slice none 0 0, .int .i64 z]) (by simp [results, Tryz.results46, go_sem]) rfl ?_
    exact ⟨_, by rw [E.out.1], by rw [E.out.2]; exact DmV.nil _, B2.out⟩
theorem joinB_any {w : World} {a b X : Dm} {aa ab : Option Addr} {n c m e : Nat} (ha : DmS w a aa n c) (hb : DmS w b ab m e) (HF : chkD a = 0 → chkD b = 0 → ∀ W, Below w.heap.size w W → Calls Tryz.prog 47 #[.slice aa n c, .slice ab m e] W (DmPost W X)) :
    Calls Tryz.prog 24 #[.slice aa n c, .slice ab m e] w (DePost w (btD a b X) (btE a b X)) := by
  have C := Lib.hid (both_join ha hb HF)
  clear ha hb HF
  obtain ⟨z, hz⟩ : ∃ z, btE a b X = z := ⟨_, rfl⟩
  obtain ⟨Y, hY⟩ : ∃ Y, btD a b X = Y := ⟨_, rfl⟩
  rw [hz, hY] at C ⊢
  clear hz hY
  go_enter Tryz.func24, Tryz.ntmps24
  go_wp2_with (go_at_call 46; refine C.out.mono ?_; rintro e w2 ⟨v, rfl, hv, hb⟩; have HV := Lib.hid hv; have B2 := Lib.hid hb; clear hv hb)
  refine bodyPost_ret (v := .tuple #[v, .int .i64 z]) (by simp [results, Tryz.results24, go_sem]) rfl ?_
  exact ⟨_, rfl, HV.out, B2.out⟩
theorem both_meet {w : World} {a b X : Dm} {aa ab : Option Addr} {n c m e : Nat} (ha : DmS w a aa n c) (hb : DmS w b ab m e) (HF : chkD a = 0 → chkD b = 0 → ∀ W, Below w.heap.size w W → Calls Tryz.prog 48 #[.slice aa n c, .slice ab m e] W (DmPost W X)) :
    Calls Tryz.prog 46 #[.slice aa n c, .slice ab m e, .func (.func 48) #[] #[]] w (DePost w (btD a b X) (btE a b X)) := by
  have C1 := Lib.hid (check_any ha)
  have C2 := Lib.hid (fun W (hW : Below w.heap.size w W) => check_any (hb.below hW))
  by_cases h1 : chkD a = 0
  · by_cases h2 : chkD b = 0
    · have E := Lib.hid (bt_ok (X := X) h1 h2)
      have F := Lib.hid (HF h1 h2)
      rw [h1] at C1
      rw [h2] at C2
      clear ha hb HF h1 h2
      go_enter Tryz.func46, Tryz.ntmps46
      go_upto_region 4 with (go_at_call 12; refine C1.out.mono ?_; rintro e w2 ⟨rfl, hb⟩; have B2 := Lib.hid hb; clear hb)
      go_wp2_with (first
        | (go_at_call 12; refine (C2.out _ B2.out).mono ?_; rintro e w3 ⟨rfl, hb⟩; have B3 := Lib.hid (over B2.out hb); clear hb)
        | (go_at_call 48; refine (F.out _ B3.out).mono ?_; rintro e w4 ⟨v, rfl, hv, hb⟩; obtain ⟨pa, pc, rfl, hs⟩ := hv.s; have FT := Lib.hid (fits_any hs); have B4 := Lib.hid (over B3.out hb); clear hv hb hs)
        | (go_at_call 41; refine FT.out.mono ?_; rintro e w5 ⟨v, rfl, hv, hb⟩; have HV := Lib.hid hv; have B5 := Lib.hid (over B4.out hb); clear hv hb))
      refine bodyPost_ret (v := .tuple #[v, .int .i64 (ftE X)]) (by simp [results, Tryz.results46, go_sem]) rfl ?_
      exact ⟨_, by rw [E.out.1], by rw [E.out.2]; exact HV.out, B5.out⟩
    · have E := Lib.hid (bt_b (X := X) h1 h2)
      obtain ⟨z, hz⟩ : ∃ z, chkD b = z := ⟨_, rfl⟩
      rw [hz] at E C2 h2
      rw [h1] at C1
      have z0 : (z != 0) = true := by simp [h2]
      clear ha hb HF h1 hz
      go_enter Tryz.func46, Tryz.ntmps46
      go_upto_region 4 with (go_at_call 12; refine C1.out.mono ?_; rintro e w2 ⟨rfl, hb⟩; have B2 := Lib.hid hb; clear hb)
      go_wp2_with (go_at_call 12; refine (C2.out _ B2.out).mono ?_; rintro e w3 ⟨rfl, hb⟩; have B3 := Lib.hid (over B2.out hb); clear hb)
      refine bodyPost_ret (v := .tuple #[.slice none 0 0, .int .i64 z]) (by simp [results, Tryz.results46, go_sem]) rfl ?_
      exact ⟨_, by rw [E.out.1], by rw [E.out.2]; exact DmV.nil _, B3.out⟩
  · have E := Lib.hid (bt_a (b := b) (X := X) h1)
    obtain ⟨z, hz⟩ : ∃ z, chkD a = z := ⟨_, rfl⟩
    rw [hz] at E C1 h1
    have z0 : (z != 0) = true := by simp [h1]
    clear ha hb HF hz
    go_enter Tryz.func46, Tryz.ntmps46
    go_wp2_with (go_at_call 12; refine C1.out.mono ?_; rintro e w2 ⟨rfl, hb⟩; have B2 := Lib.hid hb; clear hb)
    refine bodyPost_ret (v := .tuple #[.slice none 0 0, .int .i64 z]) (by simp [results, Tryz.results46, go_sem]) rfl ?_
    exact ⟨_, by rw [E.out.1], by rw [E.out.2]; exact DmV.nil _, B2.out⟩
theorem meetB_any {w : World} {a b X : Dm} {aa ab : Option Addr} {n c m e : Nat} (ha : DmS w a aa n c) (hb : DmS w b ab m e) (HF : chkD a = 0 → chkD b = 0 → ∀ W, Below w.heap.size w W → Calls Tryz.prog 48 #[.slice aa n c, .slice ab m e] W (DmPost W X)) :
    Calls Tryz.prog 25 #[.slice aa n c, .slice ab m e] w (DePost w (btD a b X) (btE a b X)) := by
  have C := Lib.hid (both_meet ha hb HF)
  clear ha hb HF
  obtain ⟨z, hz⟩ : ∃ z, btE a b X = z := ⟨_, rfl⟩
  obtain ⟨Y, hY⟩ : ∃ Y, btD a b X = Y := ⟨_, rfl⟩
  rw [hz, hY] at C ⊢
  clear hz hY
  go_enter Tryz.func25, Tryz.ntmps25
  go_wp2_with (go_at_call 46; refine C.out.mono ?_; rintro e w2 ⟨v, rfl, hv, hb⟩; have HV := Lib.hid hv; have B2 := Lib.hid hb; clear hv hb)
  refine bodyPost_ret (v := .tuple #[v, .int .i64 z]) (by simp [results, Tryz.results25, go_sem]) rfl ?_
  exact ⟨_, rfl, HV.out, B2.out⟩
theorem both_minus {w : World} {a b X : Dm} {aa ab : Option Addr} {n c m e : Nat} (ha : DmS w a aa n c) (hb : DmS w b ab m e) (HF : chkD a = 0 → chkD b = 0 → ∀ W, Below w.heap.size w W → Calls Tryz.prog 49 #[.slice aa n c, .slice ab m e] W (DmPost W X)) :
    Calls Tryz.prog 46 #[.slice aa n c, .slice ab m e, .func (.func 49) #[] #[]] w (DePost w (btD a b X) (btE a b X)) := by
  have C1 := Lib.hid (check_any ha)
  have C2 := Lib.hid (fun W (hW : Below w.heap.size w W) => check_any (hb.below hW))
  by_cases h1 : chkD a = 0
  · by_cases h2 : chkD b = 0
    · have E := Lib.hid (bt_ok (X := X) h1 h2)
      have F := Lib.hid (HF h1 h2)
      rw [h1] at C1
      rw [h2] at C2
      clear ha hb HF h1 h2
      go_enter Tryz.func46, Tryz.ntmps46
      go_upto_region 4 with (go_at_call 12; refine C1.out.mono ?_; rintro e w2 ⟨rfl, hb⟩; have B2 := Lib.hid hb; clear hb)
      go_wp2_with (first
        | (go_at_call 12; refine (C2.out _ B2.out).mono ?_; rintro e w3 ⟨rfl, hb⟩; have B3 := Lib.hid (over B2.out hb); clear hb)
        | (go_at_call 49; refine (F.out _ B3.out).mono ?_; rintro e w4 ⟨v, rfl, hv, hb⟩; obtain ⟨pa, pc, rfl, hs⟩ := hv.s; have FT := Lib.hid (fits_any hs); have B4 := Lib.hid (over B3.out hb); clear hv hb hs)
        | (go_at_call 41; refine FT.out.mono ?_; rintro e w5 ⟨v, rfl, hv, hb⟩; have HV := Lib.hid hv; have B5 := Lib.hid (over B4.out hb); clear hv hb))
      refine bodyPost_ret (v := .tuple #[v, .int .i64 (ftE X)]) (by simp [results, Tryz.results46, go_sem]) rfl ?_
      exact ⟨_, by rw [E.out.1], by rw [E.out.2]; exact HV.out, B5.out⟩
    · have E := Lib.hid (bt_b (X := X) h1 h2)
      obtain ⟨z, hz⟩ : ∃ z, chkD b = z := ⟨_, rfl⟩
      rw [hz] at E C2 h2
      rw [h1] at C1
      have z0 : (z != 0) = true := by simp [h2]
      clear ha hb HF h1 hz
      go_enter Tryz.func46, Tryz.ntmps46
      go_upto_region 4 with (go_at_call 12; refine C1.out.mono ?_; rintro e w2 ⟨rfl, hb⟩; have B2 := Lib.hid hb; clear hb)
      go_wp2_with (go_at_call 12; refine (C2.out _ B2.out).mono ?_; rintro e w3 ⟨rfl, hb⟩; have B3 := Lib.hid (over B2.out hb); clear hb)
      refine bodyPost_ret (v := .tuple #[.slice none 0 0, .int .i64 z]) (by simp [results, Tryz.results46, go_sem]) rfl ?_
      exact ⟨_, by rw [E.out.1], by rw [E.out.2]; exact DmV.nil _, B3.out⟩
  · have E := Lib.hid (bt_a (b := b) (X := X) h1)
    obtain ⟨z, hz⟩ : ∃ z, chkD a = z := ⟨_, rfl⟩
    rw [hz] at E C1 h1
    have z0 : (z != 0) = true := by simp [h1]
    clear ha hb HF hz
    go_enter Tryz.func46, Tryz.ntmps46
    go_wp2_with (go_at_call 12; refine C1.out.mono ?_; rintro e w2 ⟨rfl, hb⟩; have B2 := Lib.hid hb; clear hb)
    refine bodyPost_ret (v := .tuple #[.slice none 0 0, .int .i64 z]) (by simp [results, Tryz.results46, go_sem]) rfl ?_
    exact ⟨_, by rw [E.out.1], by rw [E.out.2]; exact DmV.nil _, B2.out⟩
theorem minusB_any {w : World} {a b X : Dm} {aa ab : Option Addr} {n c m e : Nat} (ha : DmS w a aa n c) (hb : DmS w b ab m e) (HF : chkD a = 0 → chkD b = 0 → ∀ W, Below w.heap.size w W → Calls Tryz.prog 49 #[.slice aa n c, .slice ab m e] W (DmPost W X)) :
    Calls Tryz.prog 26 #[.slice aa n c, .slice ab m e] w (DePost w (btD a b X) (btE a b X)) := by
  have C := Lib.hid (both_minus ha hb HF)
  clear ha hb HF
  obtain ⟨z, hz⟩ : ∃ z, btE a b X = z := ⟨_, rfl⟩
  obtain ⟨Y, hY⟩ : ∃ Y, btD a b X = Y := ⟨_, rfl⟩
  rw [hz, hY] at C ⊢
  clear hz hY
  go_enter Tryz.func26, Tryz.ntmps26
  go_wp2_with (go_at_call 46; refine C.out.mono ?_; rintro e w2 ⟨v, rfl, hv, hb⟩; have HV := Lib.hid hv; have B2 := Lib.hid hb; clear hv hb)
  refine bodyPost_ret (v := .tuple #[v, .int .i64 z]) (by simp [results, Tryz.results26, go_sem]) rfl ?_
  exact ⟨_, rfl, HV.out, B2.out⟩
theorem meet25_any {w : World} {a b : Dm} {aa ab : Option Addr} {n c m e : Nat} (ha : DmS w a aa n c) (hb : DmS w b ab m e) : Calls Tryz.prog 25 #[.slice aa n c, .slice ab m e] w (DePost w (btD a b (meetF a b)) (btE a b (meetF a b))) :=
  meetB_any ha hb fun h1 h2 W hW => meet_any (ha.below hW) (hb.below hW) (by have := (ok_of_chk h1).2.1; have := ha.len; omega) (by have := (ok_of_chk h2).2.1; have := hb.len; omega)
theorem minus26_any {w : World} {a b : Dm} {aa ab : Option Addr} {n c m e : Nat} (ha : DmS w a aa n c) (hb : DmS w b ab m e) : Calls Tryz.prog 26 #[.slice aa n c, .slice ab m e] w (DePost w (btD a b (minusF a b)) (btE a b (minusF a b))) :=
  minusB_any ha hb fun h1 h2 W hW => minus_any (ha.below hW) (hb.below hW) (ok_of_chk h2).1 (by have := (ok_of_chk h1).2.1; have := ha.len; omega) (by have := (ok_of_chk h2).2.1; have := hb.len; omega)
end Go.Proofs.YteiohgiecpibhaaGreat
set_option linter.unusedVariables false
set_option linter.unusedSimpArgs false
set_option maxRecDepth 100000
set_option maxHeartbeats 4000000
namespace Go.Proofs.YteiohgiecpibhaaGreat
open Go.RowKit Go.Shelf Fdm

def opB (way : Nat) (x y : Bool) : Bool := if way = 0 then x || y else if way = 1 then x && y else x && !y
/-- Marks that have been combined up to a place. -/
structure CmP (way i : Nat) (L1 L2 L : List Bool) : Prop where
  len : L.length = 32769
  lo : ∀ t, t < i → L.getD t false = opB way (L1.getD t false) (L2.getD t false)
  hi : ∀ t, i ≤ t → L.getD t false = L1.getD t false
theorem cm_new {way : Nat} {L1 L2 : List Bool} (h : L1.length = 32769) : CmP way 0 L1 L2 L1 := ⟨h, fun t ht => absurd ht (Nat.not_lt_zero _), fun t _ => rfl⟩
theorem cm_next {way i : Nat} {L1 L2 L : List Bool} (h : CmP way i L1 L2 L) (hi : i < 32769) {x y z : Bool} (h1 : L1.getD i false = x) (h2 : L2.getD i false = y) (hz : z = opB way x y) : CmP way (i + 1) L1 L2 (L.set i z) := by
  refine ⟨by rw [List.length_set]; exact h.len, fun t ht => ?_, fun t ht => ?_⟩
  · by_cases e : t = i
    · subst e; rw [List.getD_eq_getElem?_getD, List.getElem?_set_self (by rw [h.len]; exact hi), h1, h2, hz]; rfl
    · rw [List.getD_eq_getElem?_getD, List.getElem?_set_ne (Ne.symm e), ← List.getD_eq_getElem?_getD]; exact h.lo t (by omega)
  · rw [List.getD_eq_getElem?_getD, List.getElem?_set_ne (by omega), ← List.getD_eq_getElem?_getD]; exact h.hi t (by omega)
theorem cm_all {way : Nat} {a b X : Dm} {L1 L2 L : List Bool} (h : CmP way 32769 L1 L2 L) {n m : Nat} (m1 : MkP (valsF a) n L1) (hn : (valsF a).length ≤ n) (m2 : MkP (valsF b) m L2) (hm : (valsF b).length ≤ m)
    (ok : Ok X) (hX : ∀ v, InR v → (memF X v = true ↔ opB way (memF a v) (memF b v) = true)) : pkF (mkP L) = X := by
  refine (pk_eq ok fun v h1 h2 => ?_).symm
  have hv : InR v := ⟨h1, h2⟩
  rw [hX v hv]
  have e1 : mkP L1 v = memF a v := by
    have := m1.mark v hv; rw [List.take_of_length_le hn, mem_vals] at this
    cases p : mkP L1 v <;> cases q : memF a v <;> simp_all
  have e2 : mkP L2 v = memF b v := by
    have := m2.mark v hv; rw [List.take_of_length_le hm, mem_vals] at this
    cases p : mkP L2 v <;> cases q : memF b v <;> simp_all
  have e3 : mkP L v = opB way (mkP L1 v) (mkP L2 v) := by
    unfold mkP; exact h.lo _ (by unfold InR at hv; omega)
  rw [e3, e1, e2]
theorem vals_in {d : Dm} (ok : Ok d) : ∀ v ∈ valsF d, InR v := fun v hv => by
  obtain ⟨n, u⟩ := ok_nr ok
  have := mem_vals.1 hv
  exact ⟨nr_mem n this, up_mem u this⟩
theorem vals_short {d : Dm} (ok : Ok d) : (valsF d).length ≤ 40000 := by
  have h := vals_len (ok_nr ok).1
  have := ok_sizeTo ok d.length (Nat.le_refl _)
  rw [sizeTo_all] at this
  rcases Nat.eq_zero_or_pos d.length with e | e
  · obtain rfl := List.length_eq_zero_iff.1 e; simp [valsF]
  · have z := this.2 e
    have z2 := spanF_zero (ok (d.length - 1) (by omega))
    omega
abbrev wr_ (w : World) (g k : Nat) (z : Bool) : World := w.setCell ⟨g, k, none⟩ (.bool z)
/-- Numbers in a block of their kind. -/
theorem InV.sb {w : World} {l : List Int} {v : Value} (h : InV w l v) : ∃ a c, v = .slice a l.length c ∧ l.length ≤ c ∧ c ≤ 9223372036854775807 ∧ InB w l a := h.ex
theorem both27_0 {w : World} {a b X : Dm} {aa ab : Option Addr} {n c m e : Nat} (ha : DmS w a aa n c) (hb : DmS w b ab m e) (hX : chkD a = 0 → chkD b = 0 → Ok X ∧ ∀ v, InR v → (memF X v = true ↔ opB 0 (memF a v) (memF b v) = true)) :
    Calls Tryz.prog 27 #[.slice aa n c, .slice ab m e, .int .i64 0] w (DePost w (btD a b X) (btE a b X)) := by
  have C1 := Lib.hid (domFault_any ha)
  have C2 := Lib.hid (fun W (hW : Below w.heap.size w W) => domFault_any (hb.below hW))
  by_cases h1 : chkD a = 0
  · by_cases h2 : chkD b = 0
    · have E := Lib.hid (bt_ok (X := X) h1 h2)
      have okA := (ok_of_chk h1).1
      have okB := (ok_of_chk h2).1
      have VA := Lib.hid (fun W (hW : Below w.heap.size w W) => values_any (ha.below hW) okA)
      have VB := Lib.hid (fun W (hW : Below w.heap.size w W) => values_any (hb.below hW) okB)
      have IA := Lib.hid (vals_in okA); have IB := Lib.hid (vals_in okB); have SA := Lib.hid (vals_short okA); have SB := Lib.hid (vals_short okB)
      have XX := Lib.hid (hX h1 h2)
      rw [h1] at C1
      rw [h2] at C2
      obtain ⟨i4, hi4, hz0, hz1, hz2⟩ := info_parts info4
      clear ha hb hX h1 h2 okA okB
      go_enter Tryz.func27, Tryz.ntmps27
      go_upto_region 4 with (go_at_call 13; refine C1.out.mono ?_; rintro e w2 ⟨rfl, hb⟩; have B2 := Lib.hid hb; clear hb)
      go_upto_region 7 with (go_at_call 13; refine (C2.out _ B2.out).mono ?_; rintro e w3 ⟨rfl, hb⟩; have B3 := Lib.hid (over B2.out hb); clear hb)
      go_upto_region 8 with (at_make; refine wpList_make_full _ rfl _ _ 69 rfl w3.heap.size 4 i4 _ 1 Tryz.underlying69 hi4 hz0 hz1 .i64 .i64 _ _ 32769 rfl rfl (by omega) (by omega) (by rw [hz2]; omega) (by unfold maxLen; omega) (Nat.le_refl _) ?_; intro w4 hown4 hg4; have F4 := Lib.hid (boF_made hown4); have B4 := Lib.hid (over B3.out (below_grown hg4)); have S4 := Lib.hid (below_grown hg4).size; clear hown4 hg4)
      go_upto_region 9 with (at_make; refine wpList_make_full _ rfl _ _ 69 rfl w4.heap.size 4 i4 _ 1 Tryz.underlying69 hi4 hz0 hz1 .i64 .i64 _ _ 32769 rfl rfl (by omega) (by omega) (by rw [hz2]; omega) (by unfold maxLen; omega) (Nat.le_refl _) ?_; intro w5 hown5 hg5; have F5 := Lib.hid (boF_made hown5); have G5 := Lib.hid (below_grown hg5); have B5 := Lib.hid (over B4.out (below_grown hg5)); clear hown5 hg5)
      obtain ⟨g1, hg1⟩ : ∃ g1, w3.heap.size = g1 := ⟨_, rfl⟩
      obtain ⟨g2, hg2⟩ : ∃ g2, w4.heap.size = g2 := ⟨_, rfl⟩
      rw [hg1] at F4 ⊢
      rw [hg2] at F5 ⊢
      have GW : Hid (w.heap.size ≤ g1 ∧ w.heap.size ≤ g2 ∧ g1 ≠ g2 ∧ g2 < w5.heap.size) := Lib.hid ⟨by rw [← hg1]; exact B3.out.size, by rw [← hg2]; exact B4.out.size, by have := F4.out.blk.lt; rw [hg2] at this; omega, F5.out.blk.lt⟩
      have M4 : Hid (∃ L, BoF w5 g1 L ∧ MkP (valsF a) 0 L) := Lib.hid ⟨_, F4.out.below G5.out, mk_new rfl _⟩
      have M5 : Hid (∃ L, BoF w5 g2 L ∧ MkP (valsF b) 0 L) := Lib.hid ⟨_, F5.out, mk_new rfl _⟩
      clear F4 F5 G5 hg1 hg2 S4
      obtain ⟨na, hna⟩ : ∃ na, (valsF a).length = na := ⟨_, rfl⟩
      obtain ⟨nb, hnb⟩ : ∃ nb, (valsF b).length = nb := ⟨_, rfl⟩
      have NA := Lib.hid hna; have NB := Lib.hid hnb
      go_upto_region 10 with (go_at_call 22; refine (VA.out _ B5.out).mono ?_; rintro e w6 ⟨v, rfl, hv, hb⟩; obtain ⟨va, vc, rfl, v1, v2, v3⟩ := hv.sb; have IV6 := Lib.hid v3; rw [NA.out] at v1 ⊢; have V1 := Lib.hid v1; have V2 := Lib.hid v2; have B56 := Lib.hid hb; have B6 := Lib.hid (over B5.out hb); clear hv hb v1 v2 v3)
      clear hna hnb
      have v1 := V1.out; have v2 := V2.out
      go_wp2_with fail
      go_loopw [13] (fun v13 wr => ∃ k : Nat, k ≤ na ∧ v13 = .int .i64 (k : Int) ∧ (∃ L, BoF wr g1 L ∧ MkP (valsF a) k L) ∧ But g1 w6 wr) (fun v13 _ => na - (intOf v13).toNat)
      case atStart =>
        obtain ⟨L, q1, q2⟩ := M4.out
        exact ⟨0, Nat.zero_le _, rfl, ⟨L, q1.below B56.out, q2⟩, But.refl _ _⟩
      case round =>
        obtain ⟨k, hk, rfl, ⟨L, hF, hM⟩, hBt⟩ := hrel
        have F := Lib.hid hF; have M := Lib.hid hM; have BT := Lib.hid hBt
        clear hF hM hBt
        by_cases hlt : k < na
        · have hlt' : (k : Int) < (na : Int) := by omega
          obtain ⟨g, o, rfl, bk, dd⟩ := IV6.out (by intro e; have := NA.out; rw [e] at this; simp at this; omega)
          have q0 := dd k (by rw [NA.out]; exact hlt)
          have GN : Hid (g ≠ g1) := Lib.hid (by
            obtain ⟨L0, f0, -⟩ := M4.out
            exact bk.ne (f0.below B56.out).blk (by decide))
          have p0 := (cells_same (BT.out.block g (lt_of_cell q0) GN.out) _).trans q0
          have hr := IA.out _ (getD_mem (l := valsF a) (k := k) (by rw [NA.out]; exact hlt))
          obtain ⟨x, hx⟩ : ∃ x, (valsF a).getD k 0 = x := ⟨_, rfl⟩
          rw [hx] at p0 hr
          have HX := Lib.hid hx
          obtain ⟨x1, x2⟩ := hr
          obtain ⟨j, hj⟩ : ∃ j : Nat, x = (j : Int) - 16384 := ⟨(x + 16384).toNat, by omega⟩
          subst hj
          have j2 : j < 32769 := by omega
          have j3 : (j : Int) < 32769 := by omega
          have wj : IntKind.i64.wrap ((j : Int) - 16384 + 16384) = (j : Int) := by rw [show (j : Int) - 16384 + 16384 = (j : Int) from by omega]; exact wrap_in (by omega) (by omega)
          have wm2 : wrap64 (j : Int) = (j : Int) := by have := wrap_in (z := (j : Int)) (by omega) (by omega); rw [IntKind.wrap_i64] at this; unfold wrap64; omega
          have c0 := F.out.cs j (by rw [M.out.len]; exact j2)
          have f0 := F.out.blk.free j
          have NX := Lib.hid (F.out.set (by rw [M.out.len]; exact j2) true)
          have MX := Lib.hid (mk_next M.out (by rw [NA.out]; exact hlt) HX.out j2)
          have BX := Lib.hid (BT.out.trans (But.setCell g1 wr j (.bool true)))
          clear dd q0 hx bk
          go_wp2_with fail
          go_roundw
          case rel => exact ⟨k + 1, by omega, by go_num, ⟨_, NX.out, MX.out⟩, BX.out⟩
          simp [intOf]; omega
        · obtain rfl : na = k := by omega
          have BR : Hid (Below w.heap.size w wr) := Lib.hid (BT.out.below GW.out.1 B6.out.size B6.out)
          have M5r : Hid (∃ L, BoF wr g2 L ∧ MkP (valsF b) 0 L) := Lib.hid (by
            obtain ⟨L0, f0, m0⟩ := M5.out
            exact ⟨L0, (f0.below B56.out).keep (BT.out.block g2 (f0.below B56.out).blk.lt (Ne.symm GW.out.2.2.1)), m0⟩)
          have L1H := Lib.hid hlt
          clear M5 M4 IV6 V1 V2 v1 v2 hlt hk
          go_upto_region 15 with (go_at_call 22; refine (VB.out _ BR.out).mono ?_; rintro e w7 ⟨v, rfl, hv, hb⟩; obtain ⟨vb, vd, rfl, v1, v2, v3⟩ := hv.sb; have IV7 := Lib.hid v3; rw [NB.out] at v1 ⊢; have V1 := Lib.hid v1; have V2 := Lib.hid v2; have B7w := Lib.hid hb; have B7 := Lib.hid (over BR.out hb); clear hv hb v1 v2 v3)
          have v1 := V1.out; have v2 := V2.out
          have F7 := Lib.hid (F.out.below B7w.out)
          go_wp2_with fail
          go_loopw [15] (fun v15 wr => ∃ k : Nat, k ≤ nb ∧ v15 = .int .i64 (k : Int) ∧ (∃ L, BoF wr g2 L ∧ MkP (valsF b) k L) ∧ But g2 w7 wr) (fun v15 _ => nb - (intOf v15).toNat)
          case atStart =>
            obtain ⟨L0, q1, q2⟩ := M5r.out
            exact ⟨0, Nat.zero_le _, rfl, ⟨L0, q1.below B7w.out, q2⟩, But.refl _ _⟩
          case round =>
            clear F BT
            obtain ⟨k, hk, rfl, ⟨L2, hF, hM⟩, hBt⟩ := hrel
            have F2 := Lib.hid hF; have M2 := Lib.hid hM; have BT := Lib.hid hBt
            clear hF hM hBt
            by_cases hlt : k < nb
            · have hlt' : (k : Int) < (nb : Int) := by omega
              obtain ⟨g, o, rfl, bk, dd⟩ := IV7.out (by intro e; have := NB.out; rw [e] at this; simp at this; omega)
              have q0 := dd k (by rw [NB.out]; exact hlt)
              have GN : Hid (g ≠ g2) := Lib.hid (by
                obtain ⟨L0, f0, -⟩ := M5r.out
                exact bk.ne (f0.below B7w.out).blk (by decide))
              have p0 := (cells_same (BT.out.block g (lt_of_cell q0) GN.out) _).trans q0
              have hr := IB.out _ (getD_mem (l := valsF b) (k := k) (by rw [NB.out]; exact hlt))
              obtain ⟨x, hx⟩ : ∃ x, (valsF b).getD k 0 = x := ⟨_, rfl⟩
              rw [hx] at p0 hr
              have HX := Lib.hid hx
              obtain ⟨x1, x2⟩ := hr
              obtain ⟨j, hj⟩ : ∃ j : Nat, x = (j : Int) - 16384 := ⟨(x + 16384).toNat, by omega⟩
              subst hj
              have j2 : j < 32769 := by omega
              have j3 : (j : Int) < 32769 := by omega
              have wj : IntKind.i64.wrap ((j : Int) - 16384 + 16384) = (j : Int) := by rw [show (j : Int) - 16384 + 16384 = (j : Int) from by omega]; exact wrap_in (by omega) (by omega)
              have wm2 : wrap64 (j : Int) = (j : Int) := by have := wrap_in (z := (j : Int)) (by omega) (by omega); rw [IntKind.wrap_i64] at this; unfold wrap64; omega
              have c0 := F2.out.cs j (by rw [M2.out.len]; exact j2)
              have f0 := F2.out.blk.free j
              have NX := Lib.hid (F2.out.set (by rw [M2.out.len]; exact j2) true)
              have MX := Lib.hid (mk_next M2.out (by rw [NB.out]; exact hlt) HX.out j2)
              have BX := Lib.hid (BT.out.trans (But.setCell g2 wr j (.bool true)))
              clear dd q0 hx bk
              go_wp2_with fail
              go_roundw
              case rel => exact ⟨k + 1, by omega, by go_num, ⟨_, NX.out, MX.out⟩, BX.out⟩
              simp [intOf]; omega
            · obtain rfl : nb = k := by omega
              have BZ : Hid (Below w.heap.size w wr) := Lib.hid (BT.out.below GW.out.2.1 B7.out.size B7.out)
              have F8 : Hid (BoF wr g1 L) := Lib.hid (F7.out.keep (BT.out.block g1 F7.out.blk.lt GW.out.2.2.1))
              clear IV7 V1 V2 v1 v2 hlt hk F7 BT
              go_wp2_with fail
              go_loopw [16] (fun v16 wq => ∃ k : Nat, k ≤ 32769 ∧ v16 = .int .i64 (k : Int) ∧ (∃ L3, BoF wq g1 L3 ∧ CmP 0 k L L2 L3) ∧ BoF wq g2 L2 ∧ But g1 wr wq) (fun v16 _ => 32769 - (intOf v16).toNat)
              case atStart => exact ⟨0, Nat.zero_le _, rfl, ⟨L, F8.out, cm_new M.out.len⟩, F2.out, But.refl _ _⟩
              case round =>
                clear F8
                obtain ⟨k, hk, rfl, ⟨L3, hF, hC⟩, hF2, hBt⟩ := hrel
                have F3 := Lib.hid hF; have CM := Lib.hid hC; have F22 := Lib.hid hF2; have BT := Lib.hid hBt
                clear hF hC hF2 hBt
                by_cases hlt : k < 32769
                · have hlt' : (k : Int) < 32769 := by omega
                  have c0 := F3.out.cs k (by rw [CM.out.len]; exact hlt)
                  have c1 := F22.out.cs k (by rw [M2.out.len]; exact hlt)
                  have f0 := F3.out.blk.free k
                  obtain ⟨x, hx⟩ : ∃ x, L.getD k false = x := ⟨_, rfl⟩
                  obtain ⟨y, hy⟩ : ∃ y, L2.getD k false = y := ⟨_, rfl⟩
                  rw [CM.out.hi k (Nat.le_refl _), hx] at c0
                  rw [hy] at c1
                  have NX : Hid (∀ z, z = opB 0 x y → CmP 0 (k + 1) L L2 (L3.set k z)) := Lib.hid fun z hz => cm_next CM.out hlt hx hy hz
                  have FX : Hid (∀ z, BoF (wr_ wr g1 k z) g1 (L3.set k z)) := Lib.hid fun z => F3.out.set (by rw [CM.out.len]; exact hlt) z
                  have FY : Hid (∀ z, BoF (wr_ wr g1 k z) g2 L2) := Lib.hid fun z => F22.out.keep ((But.setCell g1 wr k (.bool z)).block g2 F22.out.blk.lt (Ne.symm GW.out.2.2.1))
                  have BX : Hid (∀ z, But g1 _ (wr_ wr g1 k z)) := Lib.hid fun z => BT.out.trans (But.setCell g1 wr k (.bool z))
                  clear hx hy
                  cases x <;> cases y
                  all_goals
                    go_wp2_with fail
                    go_roundw
                    case rel => exact ⟨k + 1, by omega, by go_num, ⟨_, FX.out _, NX.out _ rfl⟩, FY.out _, BX.out _⟩
                    simp [intOf]; omega
                · obtain rfl : k = 32769 := by omega
                  have PK := Lib.hid (picked43_any F3.out CM.out.len rfl)
                  rw [cm_all CM.out M.out (by rw [NA.out]; exact Nat.le_refl _) M2.out (by rw [NB.out]; exact Nat.le_refl _) XX.out.1 XX.out.2] at PK
                  have BQ : Hid (Below w.heap.size w wr) := Lib.hid (BT.out.below GW.out.1 BZ.out.size BZ.out)
                  clear F3 CM F22 BT hlt hk
                  go_wp2_with (go_at_call 43; refine PK.out.mono ?_; rintro e w9 ⟨v, rfl, hv, hb⟩; have HV := Lib.hid hv; have B9 := Lib.hid (over BQ.out hb); clear hv hb)
                  refine bodyPost_ret (v := .tuple #[v, .int .i64 (ftE X)]) (by simp [results, Tryz.results27, go_sem]) rfl ?_
                  exact ⟨_, by rw [E.out.1], by rw [E.out.2]; exact HV.out, B9.out⟩
    · have E := Lib.hid (bt_b (X := X) h1 h2)
      obtain ⟨z, hz⟩ : ∃ z, chkD b = z := ⟨_, rfl⟩
      rw [hz] at E C2 h2
      rw [h1] at C1
      have z0 : (z != 0) = true := by simp [h2]
      clear ha hb hX h1 hz
      go_enter Tryz.func27, Tryz.ntmps27
      go_upto_region 4 with (go_at_call 13; refine C1.out.mono ?_; rintro e w2 ⟨rfl, hb⟩; have B2 := Lib.hid hb; clear hb)
      go_wp2_with (go_at_call 13; refine (C2.out _ B2.out).mono ?_; rintro e w3 ⟨rfl, hb⟩; have B3 := Lib.hid (over B2.out hb); clear hb)
      refine bodyPost_ret (v := .tuple #[.slice none 0 0, .int .i64 z]) (by simp [results, Tryz.results27, go_sem]) rfl ?_
      exact ⟨_, by rw [E.out.1], by rw [E.out.2]; exact DmV.nil _, B3.out⟩
  · have E := Lib.hid (bt_a (b := b) (X := X) h1)
    obtain ⟨z, hz⟩ : ∃ z, chkD a = z := ⟨_, rfl⟩
    rw [hz] at E C1 h1
    have z0 : (z != 0) = true := by simp [h1]
    clear ha hb hX hz
    go_enter Tryz.func27, Tryz.ntmps27
    go_wp2_with (go_at_call 13; refine C1.out.mono ?_; rintro e w2 ⟨rfl, hb⟩; have B2 := Lib.hid hb; clear hb)
    refine bodyPost_ret (v := .tuple #[.slice none 0 0, .int .i64 z]) (by simp [results, Tryz.results27, go_sem]) rfl ?_
    exact ⟨_, by rw [E.out.1], by rw [E.out.2]; exact DmV.nil _, B2.out⟩
theorem both27_1 {w : World} {a b X : Dm} {aa ab : Option Addr} {n c m e : Nat} (ha : DmS w a aa n c) (hb : DmS w b ab m e) (hX : chkD a = 0 → chkD b = 0 → Ok X ∧ ∀ v, InR v → (memF X v = true ↔ opB 1 (memF a v) (memF b v) = true)) :
    Calls Tryz.prog 27 #[.slice aa n c, .slice ab m e, .int .i64 1] w (DePost w (btD a b X) (btE a b X)) := by
  have C1 := Lib.hid (domFault_any ha)
  have C2 := Lib.hid (fun W (hW : Below w.heap.size w W) => domFault_any (hb.below hW))
  by_cases h1 : chkD a = 0
  · by_cases h2 : chkD b = 0
    · have E := Lib.hid (bt_ok (X := X) h1 h2)
      have okA := (ok_of_chk h1).1
      have okB := (ok_of_chk h2).1
      have VA := Lib.hid (fun W (hW : Below w.heap.size w W) => values_any (ha.below hW) okA)
      have VB := Lib.hid (fun W (hW : Below w.heap.size w W) => values_any (hb.below hW) okB)
      have IA := Lib.hid (vals_in okA); have IB := Lib.hid (vals_in okB); have SA := Lib.hid (vals_short okA); have SB := Lib.hid (vals_short okB)
      have XX := Lib.hid (hX h1 h2)
      rw [h1] at C1
      rw [h2] at C2
      obtain ⟨i4, hi4, hz0, hz1, hz2⟩ := info_parts info4
      clear ha hb hX h1 h2 okA okB
      go_enter Tryz.func27, Tryz.ntmps27
      go_upto_region 4 with (go_at_call 13; refine C1.out.mono ?_; rintro e w2 ⟨rfl, hb⟩; have B2 := Lib.hid hb; clear hb)
      go_upto_region 7 with (go_at_call 13; refine (C2.out _ B2.out).mono ?_; rintro e w3 ⟨rfl, hb⟩; have B3 := Lib.hid (over B2.out hb); clear hb)
      go_upto_region 8 with (at_make; refine wpList_make_full _ rfl _ _ 69 rfl w3.heap.size 4 i4 _ 1 Tryz.underlying69 hi4 hz0 hz1 .i64 .i64 _ _ 32769 rfl rfl (by omega) (by omega) (by rw [hz2]; omega) (by unfold maxLen; omega) (Nat.le_refl _) ?_; intro w4 hown4 hg4; have F4 := Lib.hid (boF_made hown4); have B4 := Lib.hid (over B3.out (below_grown hg4)); have S4 := Lib.hid (below_grown hg4).size; clear hown4 hg4)
      go_upto_region 9 with (at_make; refine wpList_make_full _ rfl _ _ 69 rfl w4.heap.size 4 i4 _ 1 Tryz.underlying69 hi4 hz0 hz1 .i64 .i64 _ _ 32769 rfl rfl (by omega) (by omega) (by rw [hz2]; omega) (by unfold maxLen; omega) (Nat.le_refl _) ?_; intro w5 hown5 hg5; have F5 := Lib.hid (boF_made hown5); have G5 := Lib.hid (below_grown hg5); have B5 := Lib.hid (over B4.out (below_grown hg5)); clear hown5 hg5)
      obtain ⟨g1, hg1⟩ : ∃ g1, w3.heap.size = g1 := ⟨_, rfl⟩
      obtain ⟨g2, hg2⟩ : ∃ g2, w4.heap.size = g2 := ⟨_, rfl⟩
      rw [hg1] at F4 ⊢
      rw [hg2] at F5 ⊢
      have GW : Hid (w.heap.size ≤ g1 ∧ w.heap.size ≤ g2 ∧ g1 ≠ g2 ∧ g2 < w5.heap.size) := Lib.hid ⟨by rw [← hg1]; exact B3.out.size, by rw [← hg2]; exact B4.out.size, by have := F4.out.blk.lt; rw [hg2] at this; omega, F5.out.blk.lt⟩
      have M4 : Hid (∃ L, BoF w5 g1 L ∧ MkP (valsF a) 0 L) := Lib.hid ⟨_, F4.out.below G5.out, mk_new rfl _⟩
      have M5 : Hid (∃ L, BoF w5 g2 L ∧ MkP (valsF b) 0 L) := Lib.hid ⟨_, F5.out, mk_new rfl _⟩
      clear F4 F5 G5 hg1 hg2 S4
      obtain ⟨na, hna⟩ : ∃ na, (valsF a).length = na := ⟨_, rfl⟩
      obtain ⟨nb, hnb⟩ : ∃ nb, (valsF b).length = nb := ⟨_, rfl⟩
      have NA := Lib.hid hna; have NB := Lib.hid hnb
      go_upto_region 10 with (go_at_call 22; refine (VA.out _ B5.out).mono ?_; rintro e w6 ⟨v, rfl, hv, hb⟩; obtain ⟨va, vc, rfl, v1, v2, v3⟩ := hv.sb; have IV6 := Lib.hid v3; rw [NA.out] at v1 ⊢; have V1 := Lib.hid v1; have V2 := Lib.hid v2; have B56 := Lib.hid hb; have B6 := Lib.hid (over B5.out hb); clear hv hb v1 v2 v3)
      clear hna hnb
      have v1 := V1.out; have v2 := V2.out
      go_wp2_with fail
      go_loopw [13] (fun v13 wr => ∃ k : Nat, k ≤ na ∧ v13 = .int .i64 (k : Int) ∧ (∃ L, BoF wr g1 L ∧ MkP (valsF a) k L) ∧ But g1 w6 wr) (fun v13 _ => na - (intOf v13).toNat)
      case atStart =>
        obtain ⟨L, q1, q2⟩ := M4.out
        exact ⟨0, Nat.zero_le _, rfl, ⟨L, q1.below B56.out, q2⟩, But.refl _ _⟩
      case round =>
        obtain ⟨k, hk, rfl, ⟨L, hF, hM⟩, hBt⟩ := hrel
        have F := Lib.hid hF; have M := Lib.hid hM; have BT := Lib.hid hBt
        clear hF hM hBt
        by_cases hlt : k < na
        · have hlt' : (k : Int) < (na : Int) := by omega
          obtain ⟨g, o, rfl, bk, dd⟩ := IV6.out (by intro e; have := NA.out; rw [e] at this; simp at this; omega)
          have q0 := dd k (by rw [NA.out]; exact hlt)
          have GN : Hid (g ≠ g1) := Lib.hid (by
            obtain ⟨L0, f0, -⟩ := M4.out
            exact bk.ne (f0.below B56.out).blk (by decide))
          have p0 := (cells_same (BT.out.block g (lt_of_cell q0) GN.out) _).trans q0
          have hr := IA.out _ (getD_mem (l := valsF a) (k := k) (by rw [NA.out]; exact hlt))
          obtain ⟨x, hx⟩ : ∃ x, (valsF a).getD k 0 = x := ⟨_, rfl⟩
          rw [hx] at p0 hr
          have HX := Lib.hid hx
          obtain ⟨x1, x2⟩ := hr
          obtain ⟨j, hj⟩ : ∃ j : Nat, x = (j : Int) - 16384 := ⟨(x + 16384).toNat, by omega⟩
          subst hj
          have j2 : j < 32769 := by omega
          have j3 : (j : Int) < 32769 := by omega
          have wj : IntKind.i64.wrap ((j : Int) - 16384 + 16384) = (j : Int) := by rw [show (j : Int) - 16384 + 16384 = (j : Int) from by omega]; exact wrap_in (by omega) (by omega)
          have wm2 : wrap64 (j : Int) = (j : Int) := by have := wrap_in (z := (j : Int)) (by omega) (by omega); rw [IntKind.wrap_i64] at this; unfold wrap64; omega
          have c0 := F.out.cs j (by rw [M.out.len]; exact j2)
          have f0 := F.out.blk.free j
          have NX := Lib.hid (F.out.set (by rw [M.out.len]; exact j2) true)
          have MX := Lib.hid (mk_next M.out (by rw [NA.out]; exact hlt) HX.out j2)
          have BX := Lib.hid (BT.out.trans (But.setCell g1 wr j (.bool true)))
          clear dd q0 hx bk
          go_wp2_with fail
          go_roundw
          case rel => exact ⟨k + 1, by omega, by go_num, ⟨_, NX.out, MX.out⟩, BX.out⟩
          simp [intOf]; omega
        · obtain rfl : na = k := by omega
          have BR : Hid (Below w.heap.size w wr) := Lib.hid (BT.out.below GW.out.1 B6.out.size B6.out)
          have M5r : Hid (∃ L, BoF wr g2 L ∧ MkP (valsF b) 0 L) := Lib.hid (by
            obtain ⟨L0, f0, m0⟩ := M5.out
            exact ⟨L0, (f0.below B56.out).keep (BT.out.block g2 (f0.below B56.out).blk.lt (Ne.symm GW.out.2.2.1)), m0⟩)
          have L1H := Lib.hid hlt
          clear M5 M4 IV6 V1 V2 v1 v2 hlt hk
          go_upto_region 15 with (go_at_call 22; refine (VB.out _ BR.out).mono ?_; rintro e w7 ⟨v, rfl, hv, hb⟩; obtain ⟨vb, vd, rfl, v1, v2, v3⟩ := hv.sb; have IV7 := Lib.hid v3; rw [NB.out] at v1 ⊢; have V1 := Lib.hid v1; have V2 := Lib.hid v2; have B7w := Lib.hid hb; have B7 := Lib.hid (over BR.out hb); clear hv hb v1 v2 v3)
          have v1 := V1.out; have v2 := V2.out
          have F7 := Lib.hid (F.out.below B7w.out)
          go_wp2_with fail
          go_loopw [15] (fun v15 wr => ∃ k : Nat, k ≤ nb ∧ v15 = .int .i64 (k : Int) ∧ (∃ L, BoF wr g2 L ∧ MkP (valsF b) k L) ∧ But g2 w7 wr) (fun v15 _ => nb - (intOf v15).toNat)
          case atStart =>
            obtain ⟨L0, q1, q2⟩ := M5r.out
            exact ⟨0, Nat.zero_le _, rfl, ⟨L0, q1.below B7w.out, q2⟩, But.refl _ _⟩
          case round =>
            clear F BT
            obtain ⟨k, hk, rfl, ⟨L2, hF, hM⟩, hBt⟩ := hrel
            have F2 := Lib.hid hF; have M2 := Lib.hid hM; have BT := Lib.hid hBt
            clear hF hM hBt
            by_cases hlt : k < nb
            · have hlt' : (k : Int) < (nb : Int) := by omega
              obtain ⟨g, o, rfl, bk, dd⟩ := IV7.out (by intro e; have := NB.out; rw [e] at this; simp at this; omega)
              have q0 := dd k (by rw [NB.out]; exact hlt)
              have GN : Hid (g ≠ g2) := Lib.hid (by
                obtain ⟨L0, f0, -⟩ := M5r.out
                exact bk.ne (f0.below B7w.out).blk (by decide))
              have p0 := (cells_same (BT.out.block g (lt_of_cell q0) GN.out) _).trans q0
              have hr := IB.out _ (getD_mem (l := valsF b) (k := k) (by rw [NB.out]; exact hlt))
              obtain ⟨x, hx⟩ : ∃ x, (valsF b).getD k 0 = x := ⟨_, rfl⟩
              rw [hx] at p0 hr
              have HX := Lib.hid hx
              obtain ⟨x1, x2⟩ := hr
              obtain ⟨j, hj⟩ : ∃ j : Nat, x = (j : Int) - 16384 := ⟨(x + 16384).toNat, by omega⟩
              subst hj
              have j2 : j < 32769 := by omega
              have j3 : (j : Int) < 32769 := by omega
              have wj : IntKind.i64.wrap ((j : Int) - 16384 + 16384) = (j : Int) := by rw [show (j : Int) - 16384 + 16384 = (j : Int) from by omega]; exact wrap_in (by omega) (by omega)
              have wm2 : wrap64 (j : Int) = (j : Int) := by have := wrap_in (z := (j : Int)) (by omega) (by omega); rw [IntKind.wrap_i64] at this; unfold wrap64; omega
              have c0 := F2.out.cs j (by rw [M2.out.len]; exact j2)
              have f0 := F2.out.blk.free j
              have NX := Lib.hid (F2.out.set (by rw [M2.out.len]; exact j2) true)
              have MX := Lib.hid (mk_next M2.out (by rw [NB.out]; exact hlt) HX.out j2)
              have BX := Lib.hid (BT.out.trans (But.setCell g2 wr j (.bool true)))
              clear dd q0 hx bk
              go_wp2_with fail
              go_roundw
              case rel => exact ⟨k + 1, by omega, by go_num, ⟨_, NX.out, MX.out⟩, BX.out⟩
              simp [intOf]; omega
            · obtain rfl : nb = k := by omega
              have BZ : Hid (Below w.heap.size w wr) := Lib.hid (BT.out.below GW.out.2.1 B7.out.size B7.out)
              have F8 : Hid (BoF wr g1 L) := Lib.hid (F7.out.keep (BT.out.block g1 F7.out.blk.lt GW.out.2.2.1))
              clear IV7 V1 V2 v1 v2 hlt hk F7 BT
              go_wp2_with fail
              go_loopw [16] (fun v16 wq => ∃ k : Nat, k ≤ 32769 ∧ v16 = .int .i64 (k : Int) ∧ (∃ L3, BoF wq g1 L3 ∧ CmP 1 k L L2 L3) ∧ BoF wq g2 L2 ∧ But g1 wr wq) (fun v16 _ => 32769 - (intOf v16).toNat)
              case atStart => exact ⟨0, Nat.zero_le _, rfl, ⟨L, F8.out, cm_new M.out.len⟩, F2.out, But.refl _ _⟩
              case round =>
                clear F8
                obtain ⟨k, hk, rfl, ⟨L3, hF, hC⟩, hF2, hBt⟩ := hrel
                have F3 := Lib.hid hF; have CM := Lib.hid hC; have F22 := Lib.hid hF2; have BT := Lib.hid hBt
                clear hF hC hF2 hBt
                by_cases hlt : k < 32769
                · have hlt' : (k : Int) < 32769 := by omega
                  have c0 := F3.out.cs k (by rw [CM.out.len]; exact hlt)
                  have c1 := F22.out.cs k (by rw [M2.out.len]; exact hlt)
                  have f0 := F3.out.blk.free k
                  obtain ⟨x, hx⟩ : ∃ x, L.getD k false = x := ⟨_, rfl⟩
                  obtain ⟨y, hy⟩ : ∃ y, L2.getD k false = y := ⟨_, rfl⟩
                  rw [CM.out.hi k (Nat.le_refl _), hx] at c0
                  rw [hy] at c1
                  have NX : Hid (∀ z, z = opB 1 x y → CmP 1 (k + 1) L L2 (L3.set k z)) := Lib.hid fun z hz => cm_next CM.out hlt hx hy hz
                  have FX : Hid (∀ z, BoF (wr_ wr g1 k z) g1 (L3.set k z)) := Lib.hid fun z => F3.out.set (by rw [CM.out.len]; exact hlt) z
                  have FY : Hid (∀ z, BoF (wr_ wr g1 k z) g2 L2) := Lib.hid fun z => F22.out.keep ((But.setCell g1 wr k (.bool z)).block g2 F22.out.blk.lt (Ne.symm GW.out.2.2.1))
                  have BX : Hid (∀ z, But g1 _ (wr_ wr g1 k z)) := Lib.hid fun z => BT.out.trans (But.setCell g1 wr k (.bool z))
                  clear hx hy
                  cases x <;> cases y
                  all_goals
                    go_wp2_with fail
                    go_roundw
                    case rel => exact ⟨k + 1, by omega, by go_num, ⟨_, FX.out _, NX.out _ rfl⟩, FY.out _, BX.out _⟩
                    simp [intOf]; omega
                · obtain rfl : k = 32769 := by omega
                  have PK := Lib.hid (picked43_any F3.out CM.out.len rfl)
                  rw [cm_all CM.out M.out (by rw [NA.out]; exact Nat.le_refl _) M2.out (by rw [NB.out]; exact Nat.le_refl _) XX.out.1 XX.out.2] at PK
                  have BQ : Hid (Below w.heap.size w wr) := Lib.hid (BT.out.below GW.out.1 BZ.out.size BZ.out)
                  clear F3 CM F22 BT hlt hk
                  go_wp2_with (go_at_call 43; refine PK.out.mono ?_; rintro e w9 ⟨v, rfl, hv, hb⟩; have HV := Lib.hid hv; have B9 := Lib.hid (over BQ.out hb); clear hv hb)
                  refine bodyPost_ret (v := .tuple #[v, .int .i64 (ftE X)]) (by simp [results, Tryz.results27, go_sem]) rfl ?_
                  exact ⟨_, by rw [E.out.1], by rw [E.out.2]; exact HV.out, B9.out⟩
    · have E := Lib.hid (bt_b (X := X) h1 h2)
      obtain ⟨z, hz⟩ : ∃ z, chkD b = z := ⟨_, rfl⟩
      rw [hz] at E C2 h2
      rw [h1] at C1
      have z0 : (z != 0) = true := by simp [h2]
      clear ha hb hX h1 hz
      go_enter Tryz.func27, Tryz.ntmps27
      go_upto_region 4 with (go_at_call 13; refine C1.out.mono ?_; rintro e w2 ⟨rfl, hb⟩; have B2 := Lib.hid hb; clear hb)
      go_wp2_with (go_at_call 13; refine (C2.out _ B2.out).mono ?_; rintro e w3 ⟨rfl, hb⟩; have B3 := Lib.hid (over B2.out hb); clear hb)
      refine bodyPost_ret (v := .tuple #[.slice none 0 0, .int .i64 z]) (by simp [results, Tryz.results27, go_sem]) rfl ?_
      exact ⟨_, by rw [E.out.1], by rw [E.out.2]; exact DmV.nil _, B3.out⟩
  · have E := Lib.hid (bt_a (b := b) (X := X) h1)
    obtain ⟨z, hz⟩ : ∃ z, chkD a = z := ⟨_, rfl⟩
    rw [hz] at E C1 h1
    have z0 : (z != 0) = true := by simp [h1]
    clear ha hb hX hz
    go_enter Tryz.func27, Tryz.ntmps27
    go_wp2_with (go_at_call 13; refine C1.out.mono ?_; rintro e w2 ⟨rfl, hb⟩; have B2 := Lib.hid hb; clear hb)
    refine bodyPost_ret (v := .tuple #[.slice none 0 0, .int .i64 z]) (by simp [results, Tryz.results27, go_sem]) rfl ?_
    exact ⟨_, by rw [E.out.1], by rw [E.out.2]; exact DmV.nil _, B2.out⟩
theorem both27_2 {w : World} {a b X : Dm} {aa ab : Option Addr} {n c m e : Nat} (ha : DmS w a aa n c) (hb : DmS w b ab m e) (hX : chkD a = 0 → chkD b = 0 → Ok X ∧ ∀ v, InR v → (memF X v = true ↔ opB 2 (memF a v) (memF b v) = true)) :
    Calls Tryz.prog 27 #[.slice aa n c, .slice ab m e, .int .i64 2] w (DePost w (btD a b X) (btE a b X)) := by
  have C1 := Lib.hid (domFault_any ha)
  have C2 := Lib.hid (fun W (hW : Below w.heap.size w W) => domFault_any (hb.below hW))
  by_cases h1 : chkD a = 0
  · by_cases h2 : chkD b = 0
    · have E := Lib.hid (bt_ok (X := X) h1 h2)
      have okA := (ok_of_chk h1).1
      have okB := (ok_of_chk h2).1
      have VA := Lib.hid (fun W (hW : Below w.heap.size w W) => values_any (ha.below hW) okA)
      have VB := Lib.hid (fun W (hW : Below w.heap.size w W) => values_any (hb.below hW) okB)
      have IA := Lib.hid (vals_in okA); have IB := Lib.hid (vals_in okB); have SA := Lib.hid (vals_short okA); have SB := Lib.hid (vals_short okB)
      have XX := Lib.hid (hX h1 h2)
      rw [h1] at C1
      rw [h2] at C2
      obtain ⟨i4, hi4, hz0, hz1, hz2⟩ := info_parts info4
      clear ha hb hX h1 h2 okA okB
      go_enter Tryz.func27, Tryz.ntmps27
      go_upto_region 4 with (go_at_call 13; refine C1.out.mono ?_; rintro e w2 ⟨rfl, hb⟩; have B2 := Lib.hid hb; clear hb)
      go_upto_region 7 with (go_at_call 13; refine (C2.out _ B2.out).mono ?_; rintro e w3 ⟨rfl, hb⟩; have B3 := Lib.hid (over B2.out hb); clear hb)
      go_upto_region 8 with (at_make; refine wpList_make_full _ rfl _ _ 69 rfl w3.heap.size 4 i4 _ 1 Tryz.underlying69 hi4 hz0 hz1 .i64 .i64 _ _ 32769 rfl rfl (by omega) (by omega) (by rw [hz2]; omega) (by unfold maxLen; omega) (Nat.le_refl _) ?_; intro w4 hown4 hg4; have F4 := Lib.hid (boF_made hown4); have B4 := Lib.hid (over B3.out (below_grown hg4)); have S4 := Lib.hid (below_grown hg4).size; clear hown4 hg4)
      go_upto_region 9 with (at_make; refine wpList_make_full _ rfl _ _ 69 rfl w4.heap.size 4 i4 _ 1 Tryz.underlying69 hi4 hz0 hz1 .i64 .i64 _ _ 32769 rfl rfl (by omega) (by omega) (by rw [hz2]; omega) (by unfold maxLen; omega) (Nat.le_refl _) ?_; intro w5 hown5 hg5; have F5 := Lib.hid (boF_made hown5); have G5 := Lib.hid (below_grown hg5); have B5 := Lib.hid (over B4.out (below_grown hg5)); clear hown5 hg5)
      obtain ⟨g1, hg1⟩ : ∃ g1, w3.heap.size = g1 := ⟨_, rfl⟩
      obtain ⟨g2, hg2⟩ : ∃ g2, w4.heap.size = g2 := ⟨_, rfl⟩
      rw [hg1] at F4 ⊢
      rw [hg2] at F5 ⊢
      have GW : Hid (w.heap.size ≤ g1 ∧ w.heap.size ≤ g2 ∧ g1 ≠ g2 ∧ g2 < w5.heap.size) := Lib.hid ⟨by rw [← hg1]; exact B3.out.size, by rw [← hg2]; exact B4.out.size, by have := F4.out.blk.lt; rw [hg2] at this; omega, F5.out.blk.lt⟩
      have M4 : Hid (∃ L, BoF w5 g1 L ∧ MkP (valsF a) 0 L) := Lib.hid ⟨_, F4.out.below G5.out, mk_new rfl _⟩
      have M5 : Hid (∃ L, BoF w5 g2 L ∧ MkP (valsF b) 0 L) := Lib.hid ⟨_, F5.out, mk_new rfl _⟩
      clear F4 F5 G5 hg1 hg2 S4
      obtain ⟨na, hna⟩ : ∃ na, (valsF a).length = na := ⟨_, rfl⟩
      obtain ⟨nb, hnb⟩ : ∃ nb, (valsF b).length = nb := ⟨_, rfl⟩
      have NA := Lib.hid hna; have NB := Lib.hid hnb
      go_upto_region 10 with (go_at_call 22; refine (VA.out _ B5.out).mono ?_; rintro e w6 ⟨v, rfl, hv, hb⟩; obtain ⟨va, vc, rfl, v1, v2, v3⟩ := hv.sb; have IV6 := Lib.hid v3; rw [NA.out] at v1 ⊢; have V1 := Lib.hid v1; have V2 := Lib.hid v2; have B56 := Lib.hid hb; have B6 := Lib.hid (over B5.out hb); clear hv hb v1 v2 v3)
      clear hna hnb
      have v1 := V1.out; have v2 := V2.out
      go_wp2_with fail
      go_loopw [13] (fun v13 wr => ∃ k : Nat, k ≤ na ∧ v13 = .int .i64 (k : Int) ∧ (∃ L, BoF wr g1 L ∧ MkP (valsF a) k L) ∧ But g1 w6 wr) (fun v13 _ => na - (intOf v13).toNat)
      case atStart =>
        obtain ⟨L, q1, q2⟩ := M4.out
        exact ⟨0, Nat.zero_le _, rfl, ⟨L, q1.below B56.out, q2⟩, But.refl _ _⟩
      case round =>
        obtain ⟨k, hk, rfl, ⟨L, hF, hM⟩, hBt⟩ := hrel
        have F := Lib.hid hF; have M := Lib.hid hM; have BT := Lib.hid hBt
        clear hF hM hBt
        by_cases hlt : k < na
        · have hlt' : (k : Int) < (na : Int) := by omega
          obtain ⟨g, o, rfl, bk, dd⟩ := IV6.out (by intro e; have := NA.out; rw [e] at this; simp at this; omega)
          have q0 := dd k (by rw [NA.out]; exact hlt)
          have GN : Hid (g ≠ g1) := Lib.hid (by
            obtain ⟨L0, f0, -⟩ := M4.out
            exact bk.ne (f0.below B56.out).blk (by decide))
          have p0 := (cells_same (BT.out.block g (lt_of_cell q0) GN.out) _).trans q0
          have hr := IA.out _ (getD_mem (l := valsF a) (k := k) (by rw [NA.out]; exact hlt))
          obtain ⟨x, hx⟩ : ∃ x, (valsF a).getD k 0 = x := ⟨_, rfl⟩
          rw [hx] at p0 hr
          have HX := Lib.hid hx
          obtain ⟨x1, x2⟩ := hr
          obtain ⟨j, hj⟩ : ∃ j : Nat, x = (j : Int) - 16384 := ⟨(x + 16384).toNat, by omega⟩
          subst hj
          have j2 : j < 32769 := by omega
          have j3 : (j : Int) < 32769 := by omega
          have wj : IntKind.i64.wrap ((j : Int) - 16384 + 16384) = (j : Int) := by rw [show (j : Int) - 16384 + 16384 = (j : Int) from by omega]; exact wrap_in (by omega) (by omega)
          have wm2 : wrap64 (j : Int) = (j : Int) := by have := wrap_in (z := (j : Int)) (by omega) (by omega); rw [IntKind.wrap_i64] at this; unfold wrap64; omega
          have c0 := F.out.cs j (by rw [M.out.len]; exact j2)
          have f0 := F.out.blk.free j
          have NX := Lib.hid (F.out.set (by rw [M.out.len]; exact j2) true)
          have MX := Lib.hid (mk_next M.out (by rw [NA.out]; exact hlt) HX.out j2)
          have BX := Lib.hid (BT.out.trans (But.setCell g1 wr j (.bool true)))
          clear dd q0 hx bk
          go_wp2_with fail
          go_roundw
          case rel => exact ⟨k + 1, by omega, by go_num, ⟨_, NX.out, MX.out⟩, BX.out⟩
          simp [intOf]; omega
        · obtain rfl : na = k := by omega
          have BR : Hid (Below w.heap.size w wr) := Lib.hid (BT.out.below GW.out.1 B6.out.size B6.out)
          have M5r : Hid (∃ L, BoF wr g2 L ∧ MkP (valsF b) 0 L) := Lib.hid (by
            obtain ⟨L0, f0, m0⟩ := M5.out
            exact ⟨L0, (f0.below B56.out).keep (BT.out.block g2 (f0.below B56.out).blk.lt (Ne.symm GW.out.2.2.1)), m0⟩)
          have L1H := Lib.hid hlt
          clear M5 M4 IV6 V1 V2 v1 v2 hlt hk
          go_upto_region 15 with (go_at_call 22; refine (VB.out _ BR.out).mono ?_; rintro e w7 ⟨v, rfl, hv, hb⟩; obtain ⟨vb, vd, rfl, v1, v2, v3⟩ := hv.sb; have IV7 := Lib.hid v3; rw [NB.out] at v1 ⊢; have V1 := Lib.hid v1; have V2 := Lib.hid v2; have B7w := Lib.hid hb; have B7 := Lib.hid (over BR.out hb); clear hv hb v1 v2 v3)
          have v1 := V1.out; have v2 := V2.out
          have F7 := Lib.hid (F.out.below B7w.out)
          go_wp2_with fail
          go_loopw [15] (fun v15 wr => ∃ k : Nat, k ≤ nb ∧ v15 = .int .i64 (k : Int) ∧ (∃ L, BoF wr g2 L ∧ MkP (valsF b) k L) ∧ But g2 w7 wr) (fun v15 _ => nb - (intOf v15).toNat)
          case atStart =>
            obtain ⟨L0, q1, q2⟩ := M5r.out
            exact ⟨0, Nat.zero_le _, rfl, ⟨L0, q1.below B7w.out, q2⟩, But.refl _ _⟩
          case round =>
            clear F BT
            obtain ⟨k, hk, rfl, ⟨L2, hF, hM⟩, hBt⟩ := hrel
            have F2 := Lib.hid hF; have M2 := Lib.hid hM; have BT := Lib.hid hBt
            clear hF hM hBt
            by_cases hlt : k < nb
            · have hlt' : (k : Int) < (nb : Int) := by omega
              obtain ⟨g, o, rfl, bk, dd⟩ := IV7.out (by intro e; have := NB.out; rw [e] at this; simp at this; omega)
              have q0 := dd k (by rw [NB.out]; exact hlt)
              have GN : Hid (g ≠ g2) := Lib.hid (by
                obtain ⟨L0, f0, -⟩ := M5r.out
                exact bk.ne (f0.below B7w.out).blk (by decide))
              have p0 := (cells_same (BT.out.block g (lt_of_cell q0) GN.out) _).trans q0
              have hr := IB.out _ (getD_mem (l := valsF b) (k := k) (by rw [NB.out]; exact hlt))
              obtain ⟨x, hx⟩ : ∃ x, (valsF b).getD k 0 = x := ⟨_, rfl⟩
              rw [hx] at p0 hr
              have HX := Lib.hid hx
              obtain ⟨x1, x2⟩ := hr
              obtain ⟨j, hj⟩ : ∃ j : Nat, x = (j : Int) - 16384 := ⟨(x + 16384).toNat, by omega⟩
              subst hj
              have j2 : j < 32769 := by omega
              have j3 : (j : Int) < 32769 := by omega
              have wj : IntKind.i64.wrap ((j : Int) - 16384 + 16384) = (j : Int) := by rw [show (j : Int) - 16384 + 16384 = (j : Int) from by omega]; exact wrap_in (by omega) (by omega)
              have wm2 : wrap64 (j : Int) = (j : Int) := by have := wrap_in (z := (j : Int)) (by omega) (by omega); rw [IntKind.wrap_i64] at this; unfold wrap64; omega
              have c0 := F2.out.cs j (by rw [M2.out.len]; exact j2)
              have f0 := F2.out.blk.free j
              have NX := Lib.hid (F2.out.set (by rw [M2.out.len]; exact j2) true)
              have MX := Lib.hid (mk_next M2.out (by rw [NB.out]; exact hlt) HX.out j2)
              have BX := Lib.hid (BT.out.trans (But.setCell g2 wr j (.bool true)))
              clear dd q0 hx bk
              go_wp2_with fail
              go_roundw
              case rel => exact ⟨k + 1, by omega, by go_num, ⟨_, NX.out, MX.out⟩, BX.out⟩
              simp [intOf]; omega
            · obtain rfl : nb = k := by omega
              have BZ : Hid (Below w.heap.size w wr) := Lib.hid (BT.out.below GW.out.2.1 B7.out.size B7.out)
              have F8 : Hid (BoF wr g1 L) := Lib.hid (F7.out.keep (BT.out.block g1 F7.out.blk.lt GW.out.2.2.1))
              clear IV7 V1 V2 v1 v2 hlt hk F7 BT
              go_wp2_with fail
              go_loopw [16] (fun v16 wq => ∃ k : Nat, k ≤ 32769 ∧ v16 = .int .i64 (k : Int) ∧ (∃ L3, BoF wq g1 L3 ∧ CmP 2 k L L2 L3) ∧ BoF wq g2 L2 ∧ But g1 wr wq) (fun v16 _ => 32769 - (intOf v16).toNat)
              case atStart => exact ⟨0, Nat.zero_le _, rfl, ⟨L, F8.out, cm_new M.out.len⟩, F2.out, But.refl _ _⟩
              case round =>
                clear F8
                obtain ⟨k, hk, rfl, ⟨L3, hF, hC⟩, hF2, hBt⟩ := hrel
                have F3 := Lib.hid hF; have CM := Lib.hid hC; have F22 := Lib.hid hF2; have BT := Lib.hid hBt
                clear hF hC hF2 hBt
                by_cases hlt : k < 32769
                · have hlt' : (k : Int) < 32769 := by omega
                  have c0 := F3.out.cs k (by rw [CM.out.len]; exact hlt)
                  have c1 := F22.out.cs k (by rw [M2.out.len]; exact hlt)
                  have f0 := F3.out.blk.free k
                  obtain ⟨x, hx⟩ : ∃ x, L.getD k false = x := ⟨_, rfl⟩
                  obtain ⟨y, hy⟩ : ∃ y, L2.getD k false = y := ⟨_, rfl⟩
                  rw [CM.out.hi k (Nat.le_refl _), hx] at c0
                  rw [hy] at c1
                  have NX : Hid (∀ z, z = opB 2 x y → CmP 2 (k + 1) L L2 (L3.set k z)) := Lib.hid fun z hz => cm_next CM.out hlt hx hy hz
                  have FX : Hid (∀ z, BoF (wr_ wr g1 k z) g1 (L3.set k z)) := Lib.hid fun z => F3.out.set (by rw [CM.out.len]; exact hlt) z
                  have FY : Hid (∀ z, BoF (wr_ wr g1 k z) g2 L2) := Lib.hid fun z => F22.out.keep ((But.setCell g1 wr k (.bool z)).block g2 F22.out.blk.lt (Ne.symm GW.out.2.2.1))
                  have BX : Hid (∀ z, But g1 _ (wr_ wr g1 k z)) := Lib.hid fun z => BT.out.trans (But.setCell g1 wr k (.bool z))
                  clear hx hy
                  cases x <;> cases y
                  all_goals
                    go_wp2_with fail
                    go_roundw
                    case rel => exact ⟨k + 1, by omega, by go_num, ⟨_, FX.out _, NX.out _ rfl⟩, FY.out _, BX.out _⟩
                    simp [intOf]; omega
                · obtain rfl : k = 32769 := by omega
                  have PK := Lib.hid (picked43_any F3.out CM.out.len rfl)
                  rw [cm_all CM.out M.out (by rw [NA.out]; exact Nat.le_refl _) M2.out (by rw [NB.out]; exact Nat.le_refl _) XX.out.1 XX.out.2] at PK
                  have BQ : Hid (Below w.heap.size w wr) := Lib.hid (BT.out.below GW.out.1 BZ.out.size BZ.out)
                  clear F3 CM F22 BT hlt hk
                  go_wp2_with (go_at_call 43; refine PK.out.mono ?_; rintro e w9 ⟨v, rfl, hv, hb⟩; have HV := Lib.hid hv; have B9 := Lib.hid (over BQ.out hb); clear hv hb)
                  refine bodyPost_ret (v := .tuple #[v, .int .i64 (ftE X)]) (by simp [results, Tryz.results27, go_sem]) rfl ?_
                  exact ⟨_, by rw [E.out.1], by rw [E.out.2]; exact HV.out, B9.out⟩
    · have E := Lib.hid (bt_b (X := X) h1 h2)
      obtain ⟨z, hz⟩ : ∃ z, chkD b = z := ⟨_, rfl⟩
      rw [hz] at E C2 h2
      rw [h1] at C1
      have z0 : (z != 0) = true := by simp [h2]
      clear ha hb hX h1 hz
      go_enter Tryz.func27, Tryz.ntmps27
      go_upto_region 4 with (go_at_call 13; refine C1.out.mono ?_; rintro e w2 ⟨rfl, hb⟩; have B2 := Lib.hid hb; clear hb)
      go_wp2_with (go_at_call 13; refine (C2.out _ B2.out).mono ?_; rintro e w3 ⟨rfl, hb⟩; have B3 := Lib.hid (over B2.out hb); clear hb)
      refine bodyPost_ret (v := .tuple #[.slice none 0 0, .int .i64 z]) (by simp [results, Tryz.results27, go_sem]) rfl ?_
      exact ⟨_, by rw [E.out.1], by rw [E.out.2]; exact DmV.nil _, B3.out⟩
  · have E := Lib.hid (bt_a (b := b) (X := X) h1)
    obtain ⟨z, hz⟩ : ∃ z, chkD a = z := ⟨_, rfl⟩
    rw [hz] at E C1 h1
    have z0 : (z != 0) = true := by simp [h1]
    clear ha hb hX hz
    go_enter Tryz.func27, Tryz.ntmps27
    go_wp2_with (go_at_call 13; refine C1.out.mono ?_; rintro e w2 ⟨rfl, hb⟩; have B2 := Lib.hid hb; clear hb)
    refine bodyPost_ret (v := .tuple #[.slice none 0 0, .int .i64 z]) (by simp [results, Tryz.results27, go_sem]) rfl ?_
    exact ⟨_, by rw [E.out.1], by rw [E.out.2]; exact DmV.nil _, B2.out⟩
end Go.Proofs.YteiohgiecpibhaaGreat
