/- Satisfied, Satisfies. -/
import Derived.Test.YteiohgiecpibhaaGreatYe
import Derived.Test.YteiohgiecpibhaaGreatYl
import Derived.Test.YteiohgiecpibhaaGreatMF
set_option linter.unusedVariables false
set_option linter.unusedSimpArgs false
set_option maxRecDepth 100000
set_option maxHeartbeats 4000000
namespace Go.Proofs.YteiohgiecpibhaaGreat
open Go.RowKit Fdm

def xsF (V vals : List Int) : List Int := V.map (fun v => vals.getD v.toNat 0)
/-- The error of Satisfies. -/
def saE (k rel bd : Int) (V F D : List Int) (T : List (List Int)) (vals : List Int) : Int :=
  if faF k rel bd V F D T vals.length = 0 then (if vals.any ouF = true then 1 else 0) else faF k rel bd V F D T vals.length
def saB (k rel bd : Int) (V F D : List Int) (T : List (List Int)) (vals : List Int) : Bool := decide (saE k rel bd V F D T vals = 0) && hoF k rel bd F D T (xsF V vals)
theorem fa_ok {k rel bd n : Int} {V F D : List Int} {T : List (List Int)} (h : faF k rel bd V F D T n = 0) : Hok k rel bd F D T V.length ∧ vaU k V n V.length = 0 := by
  unfold faF at h
  split at h
  · cases h
  · split at h
    · cases h
    · split at h
      · exact absurd h (by assumption)
      · split at h
        · cases h
        · split at h
          · cases h
          · split at h
            · cases h
            · exact ⟨⟨by simpa using (by assumption : ¬ kndF k = false), by simpa using (by assumption : ¬ arF k V.length = false), by simpa using (by assumption : ¬ foF k rel bd V.length F.length D.length T = false), by simpa using (by assumption : ¬ raF k rel bd F D T = false)⟩, by simpa using (by assumption : ¬ vaU k V n V.length ≠ 0)⟩
theorem va_in {k n : Int} {V : List Int} : ∀ m, vaU k V n m = 0 → ∀ i, i < m → 0 ≤ V.getD i 0 ∧ V.getD i 0 < n := by
  intro m
  induction m with
  | zero => intro _ i hi; omega
  | succ m ih =>
    intro h i hi
    by_cases e : vaU k V n m = 0
    · by_cases q : i = m
      · subst q
        have s : vaS k V n i = 0 := by simpa [vaU, e] using h
        unfold vaS at s
        split at s
        · cases s
        · omega
      · exact ih e i (by omega)
    · simp [vaU, e] at h
theorem xs_len (V vals : List Int) : (xsF V vals).length = V.length := by simp [xsF]
theorem xs_at {V vals : List Int} {i : Nat} (hi : i < V.length) : (xsF V vals).getD i 0 = vals.getD (V.getD i 0).toNat 0 := by
  simp [xsF, List.getD_eq_getElem?_getD, List.getElem?_map, List.getElem?_eq_getElem hi]
theorem xs_take {V vals : List Int} {i : Nat} (hi : i < V.length) : (xsF V vals).take i ++ [vals.getD (V.getD i 0).toNat 0] = (xsF V vals).take (i + 1) := by
  rw [List.take_add_one, ← xs_at hi, List.getD_eq_getElem?_getD, List.getElem?_eq_getElem (by rw [xs_len]; exact hi)]; rfl
theorem xs_lx {k n : Int} {V vals : List Int} (hv : vaU k V n V.length = 0) (hn : n = vals.length) (ho : vals.any ouF = false) : ∀ i, i < V.length → -16384 ≤ (xsF V vals).getD i 0 ∧ (xsF V vals).getD i 0 ≤ 16384 := by
  intro i hi
  rw [xs_at hi]
  obtain ⟨a, b⟩ := va_in _ hv i hi
  have hm : vals.getD (V.getD i 0).toNat 0 ∈ vals := getD_mem (by omega)
  rw [List.any_eq_false] at ho
  have := ho _ hm
  simp only [ouF, Bool.not_eq_true', Bool.not_eq_false, Bool.and_eq_true, decide_eq_true_eq] at this
  exact this
def Sd29L (vals : List Int) (w : World) (v : Value) (wr : World) : Prop := ∃ i : Nat, i ≤ vals.length ∧ v = .int .i64 (i : Int) ∧ (∀ u, u < i → ouF (vals.getD u 0) = false) ∧ w = wr
def Sd29M (V vals : List Int) (w : World) (v8 v9 : Value) (wr : World) : Prop := ∃ i : Nat, i ≤ V.length ∧ v9 = .int .i64 (i : Int) ∧ InO wr w.heap.size v8 ((xsF V vals).take i) ∧ Below w.heap.size w wr
theorem satisfied29_any {w : World} {c : Con} {vals : List Int} {a1 a2 a3 a6 av : Option Addr} {n1 c1 n2 c2 n3 c3 n6 c6 nv cv : Nat} (h : Ka w c a1 n1 c1 a2 n2 c2 a3 n3 c3 a6 n6 c6) (hv : InA w vals av) (vl : vals.length = nv) (hcv : nv ≤ cv) (hcu : cv ≤ 9223372036854775807) :
    Calls Tryz.prog 29 #[.agg #[.int .i64 c.kind, .slice a1 n1 c1, .slice a2 n2 c2, .slice a3 n3 c3, .int .i64 c.rel, .int .i64 c.bound, .slice a6 n6 c6], .slice av nv cv] w fun e w' => e = .returned (.tuple #[.bool (saB c.kind c.rel c.bound c.vars c.coefs c.needs c.tuples vals), .int .i64 (saE c.kind c.rel c.bound c.vars c.coefs c.needs c.tuples vals)]) ∧ Below w.heap.size w w' := by
  obtain ⟨k, V, F, D, rel, bd, T⟩ := c
  show Calls Tryz.prog 29 #[.agg #[.int .i64 k, .slice a1 n1 c1, .slice a2 n2 c2, .slice a3 n3 c3, .int .i64 rel, .int .i64 bd, .slice a6 n6 c6], .slice av nv cv] w fun e w' => e = .returned (.tuple #[.bool (saB k rel bd V F D T vals), .int .i64 (saE k rel bd V F D T vals)]) ∧ Below w.heap.size w w'
  obtain ⟨zb, hzb⟩ : ∃ zb, saB k rel bd V F D T vals = zb := ⟨_, rfl⟩
  obtain ⟨ze, hze⟩ : ∃ ze, saE k rel bd V F D T vals = ze := ⟨_, rfl⟩
  have HZB := Lib.hid hzb; have HZE := Lib.hid hze
  rw [hzb, hze]
  clear hzb hze
  have VE : Hid (V.length = n1) := Lib.hid h.rv.e
  have V2 := Lib.hid h.rv.l; have V3 := Lib.hid h.rv.u
  obtain ⟨W0, hW0⟩ : ∃ W0, w.alloc (.cells #[.int .i64 k, .slice a1 n1 c1, .slice a2 n2 c2, .slice a3 n3 c3, .int .i64 rel, .int .i64 bd, .slice a6 n6 c6] 33) = W0 := ⟨_, rfl⟩
  have B0 : Hid (Below w.heap.size w W0) := by rw [← hW0]; exact Lib.hid (below_new _ _)
  have I0 : W0.heap[w.heap.size]? = some (.cells #[.int .i64 k, .slice a1 n1 c1, .slice a2 n2 c2, .slice a3 n3 c3, .int .i64 rel, .int .i64 bd, .slice a6 n6 c6] 33 (0, 0)) := by rw [← hW0]; exact heap_alloc_new _ _
  have p0 : W0.cell? ⟨w.heap.size, 0, none⟩ = some (.int .i64 k) := by rw [cell_of_row _ _ _ _ _ _ I0]; rfl
  have p1 : W0.cell? ⟨w.heap.size, 1, none⟩ = some (.slice a1 n1 c1) := by rw [cell_of_row _ _ _ _ _ _ I0]; rfl
  have p2 : W0.cell? ⟨w.heap.size, 2, none⟩ = some (.slice a2 n2 c2) := by rw [cell_of_row _ _ _ _ _ _ I0]; rfl
  have p3 : W0.cell? ⟨w.heap.size, 3, none⟩ = some (.slice a3 n3 c3) := by rw [cell_of_row _ _ _ _ _ _ I0]; rfl
  have p4 : W0.cell? ⟨w.heap.size, 4, none⟩ = some (.int .i64 rel) := by rw [cell_of_row _ _ _ _ _ _ I0]; rfl
  have p5 : W0.cell? ⟨w.heap.size, 5, none⟩ = some (.int .i64 bd) := by rw [cell_of_row _ _ _ _ _ _ I0]; rfl
  have p6 : W0.cell? ⟨w.heap.size, 6, none⟩ = some (.slice a6 n6 c6) := by rw [cell_of_row _ _ _ _ _ _ I0]; rfl
  clear I0
  have P0 := Lib.hid p0; have P1 := Lib.hid p1; have P2 := Lib.hid p2; have P3 := Lib.hid p3; have P4 := Lib.hid p4; have P5 := Lib.hid p5; have P6 := Lib.hid p6
  have KB := Lib.hid (h.below B0.out)
  have HV : Hid (InA W0 vals av) := Lib.hid (hv.below B0.out)
  have VL := Lib.hid vl
  clear h hv vl
  have FA := Lib.hid (fault31_any KB.out (nv : Int))
  obtain ⟨e0, he0⟩ : ∃ e0, faF k rel bd V F D T (nv : Int) = e0 := ⟨_, rfl⟩
  have FA2 : Hid (Calls Tryz.prog 31 #[.agg #[.int .i64 k, .slice a1 n1 c1, .slice a2 n2 c2, .slice a3 n3 c3, .int .i64 rel, .int .i64 bd, .slice a6 n6 c6], .int .i64 (nv : Int)] W0 fun e w' => e = .returned (.int .i64 e0) ∧ Below W0.heap.size W0 w') := Lib.hid (by rw [← he0]; exact FA.out)
  clear FA
  have HE0 := Lib.hid he0
  clear he0
  by_cases z0 : e0 = 0
  · subst z0
    obtain ⟨ok, va⟩ := fa_ok HE0.out
    have n16 := ok.le
    have OK := Lib.hid ok; have VA := Lib.hid va
    rw [VE.out] at n16
    clear ok va
    have W53 := Lib.hid (within53_any)
    go_enter Tryz.func29, Tryz.ntmps29
    go_wp2_with (go_at_call 31; refine FA2.out.mono ?_; rintro e W2 ⟨rfl, hb⟩; have B2 := Lib.hid hb; clear hb)
    replace p0 := cell_later B2.out (Nat.le_refl _) p0
    replace p1 := cell_later B2.out (Nat.le_refl _) p1
    replace p2 := cell_later B2.out (Nat.le_refl _) p2
    replace p3 := cell_later B2.out (Nat.le_refl _) p3
    replace p4 := cell_later B2.out (Nat.le_refl _) p4
    replace p5 := cell_later B2.out (Nat.le_refl _) p5
    replace p6 := cell_later B2.out (Nat.le_refl _) p6
    have HV2 := Lib.hid (HV.out.below B2.out)
    have KB2 := Lib.hid (KB.out.below B2.out)
    go_loopw [7] (fun v wr => Sd29L vals W2 v wr) (fun v _ => nv - (intOf v).toNat)
    case atStart => exact ⟨0, Nat.zero_le _, rfl, fun u hu => absurd hu (by omega), rfl⟩
    obtain ⟨i, hi, rfl, hall, rfl⟩ := hrel
    have HA := Lib.hid hall
    clear hall
    rw [VL.out] at hi
    by_cases ilt : i < nv
    · obtain ⟨gv, ov, rfl, kv⟩ := HV2.out (by intro e; have := VL.out; rw [e, List.length_nil] at this; omega)
      have ti := kv i (by rw [VL.out]; exact ilt)
      have wi : IntKind.i64.wrap ((i : Int) + 1) = (i : Int) + 1 := wrap_in (by omega) (by omega)
      have MM := Lib.hid (getD_mem (l := vals) (k := i) (by rw [VL.out]; exact ilt))
      obtain ⟨x, hx⟩ : ∃ x, vals.getD i 0 = x := ⟨_, rfl⟩
      rw [hx] at ti MM
      have HX := Lib.hid hx
      clear hx kv
      have C := Lib.hid (fun w => within53_any x (-16384) 16384 w)
      have PE : Hid (ouF x = !wiF x (-16384) 16384) := Lib.hid rfl
      obtain ⟨b, hb⟩ : ∃ b, wiF x (-16384) 16384 = b := ⟨_, rfl⟩
      rw [hb] at C PE
      clear hb
      cases b
      · have AO : Hid (vals.any ouF = true) := Lib.hid (List.any_eq_true.2 ⟨x, MM.out, PE.out⟩)
        have SE : Hid (ze = 1) := Lib.hid (by rw [← HZE.out]; unfold saE; rw [VL.out, HE0.out, AO.out]; rfl)
        have SB : Hid (zb = false) := Lib.hid (by rw [← HZB.out]; unfold saB; rw [HZE.out, SE.out]; rfl)
        go_wp2_with (go_at_call 53; refine (C.out _).mono ?_; rintro e w9 ⟨rfl, hw⟩; have hw := hw.symm; subst hw)
        refine bodyPost_ret (v := .tuple #[.bool false, .int .i64 1]) (by simp [results, Tryz.results29, go_sem]) rfl ?_
        exact ⟨by rw [SE.out, SB.out], over B0.out B2.out⟩
      · have G : Hid (∀ u, u < i + 1 → ouF (vals.getD u 0) = false) := Lib.hid (fun u hu => by
          by_cases e : u = i
          · subst e; rw [HX.out]; exact PE.out
          · exact HA.out u (by omega))
        go_wp2_with (go_at_call 53; refine (C.out _).mono ?_; rintro e w9 ⟨rfl, hw⟩; have hw := hw.symm; subst hw)
        go_roundw
        case rel => exact ⟨i + 1, by rw [VL.out]; omega, by go_num, G.out, rfl⟩
        simp [intOf]; omega
    · obtain rfl : nv = i := by omega
      have AO : Hid (vals.any ouF = false) := Lib.hid (any_none (d := 0) (fun u hu => HA.out u (by rw [← VL.out]; exact hu)))
      have SE : Hid (ze = 0) := Lib.hid (by rw [← HZE.out]; unfold saE; rw [VL.out, HE0.out, AO.out]; rfl)
      have SB : Hid (zb = hoF k rel bd F D T (xsF V vals)) := Lib.hid (by rw [← HZB.out]; unfold saB; rw [HZE.out, SE.out]; rfl)
      have LX := Lib.hid (xs_lx VA.out (by rw [VL.out]) AO.out)
      have VI := Lib.hid (va_in _ VA.out)
      clear HA
      go_wp2_with fail
      have Q0 := Lib.hid p0; have Q1 := Lib.hid p1; have Q2 := Lib.hid p2; have Q3 := Lib.hid p3; have Q4 := Lib.hid p4; have Q5 := Lib.hid p5; have Q6 := Lib.hid p6
      go_loopw [8, 9] (fun v8 v9 wr => Sd29M V vals W2 v8 v9 wr) (fun v8 v9 _ => n1 - (intOf v9).toNat)
      case atStart => exact ⟨0, Nat.zero_le _, rfl, by rw [List.take_zero]; exact InO.nil _ _, Below.refl _ _⟩
      obtain ⟨i, hi, rfl, hO, hB⟩ := hrel
      have O := Lib.hid hO; have BR := Lib.hid hB
      clear hO hB
      rw [VE.out] at hi
      replace p0 := cell_later BR.out (Nat.le_refl _) Q0.out
      replace p1 := cell_later BR.out (Nat.le_refl _) Q1.out
      replace p2 := cell_later BR.out (Nat.le_refl _) Q2.out
      replace p3 := cell_later BR.out (Nat.le_refl _) Q3.out
      replace p4 := cell_later BR.out (Nat.le_refl _) Q4.out
      replace p5 := cell_later BR.out (Nat.le_refl _) Q5.out
      replace p6 := cell_later BR.out (Nat.le_refl _) Q6.out
      by_cases ilt : i < n1
      · obtain ⟨g1, o1, rfl, k1⟩ := (KB2.out.v.below BR.out) (by intro e; have h1 := VE.out; have h2 : V = [] := e; rw [h2, List.length_nil] at h1; omega)
        have t1 := k1 i (by show i < V.length; rw [VE.out]; exact ilt)
        replace t1 : wr.cell? ⟨g1, o1 + i, none⟩ = some (.int .i64 (V.getD i 0)) := t1
        obtain ⟨u1, u2⟩ := VI.out i (by rw [VE.out]; exact ilt)
        have NX := Lib.hid (xs_take (V := V) (vals := vals) (i := i) (by rw [VE.out]; exact ilt))
        obtain ⟨u, hu⟩ : ∃ u : Nat, V.getD i 0 = (u : Int) := ⟨(V.getD i 0).toNat, by omega⟩
        rw [hu] at t1 u1 u2 NX
        rw [Int.toNat_natCast] at NX
        obtain ⟨gv, ov, rfl, kv⟩ := (HV2.out.below BR.out) (by intro e; have := VL.out; rw [e, List.length_nil] at this; omega)
        have ul : u < nv := by omega
        have t2 := kv u (by rw [VL.out]; exact ul)
        obtain ⟨x, hx⟩ : ∃ x, vals.getD u 0 = x := ⟨_, rfl⟩
        rw [hx] at t2 NX
        clear hx hu k1 kv u1
        have LL : Hid (((xsF V vals).take i).length ≤ 100) := Lib.hid (by rw [List.length_take, xs_len, VE.out]; omega)
        have wi : IntKind.i64.wrap ((i : Int) + 1) = (i : Int) + 1 := wrap_in (by omega) (by omega)
        go_wp2_with (at_builtin; refine wpList_pushI rfl _ _ rfl W2.heap.size wr _ ((xsF V vals).take i) x rfl rfl rfl O.out BR.out.size (by have := LL.out; omega) ?_; intro v3 w5 hO2 hB2 _; have O2 := Lib.hid hO2; have B5 := Lib.hid (BR.out.trans hB2); clear hO2 hB2)
        go_roundw
        case rel => exact ⟨i + 1, by rw [VE.out]; omega, by go_num, by rw [← NX.out]; exact O2.out, B5.out⟩
        simp [intOf]; omega
      · obtain rfl : n1 = i := by omega
        have TK : Hid ((xsF V vals).take n1 = xsF V vals) := Lib.hid (List.take_of_length_le (by rw [xs_len, VE.out]; exact Nat.le_refl _))
        have OV := O.out.v
        rw [TK.out] at OV
        obtain ⟨pa, pc, rfl, l1, l2, hIB⟩ := OV.ex
        rw [xs_len, VE.out] at l1
        have HO := Lib.hid (holds54_any (KB2.out.below BR.out) hIB.a (by rw [xs_len]; exact VE.out) l1 (by rw [← VE.out]; exact OK.out) (fun i hi => LX.out i (by rw [VE.out]; exact hi)))
        have XE : Hid ((xsF V vals).length = n1) := Lib.hid (by rw [xs_len]; exact VE.out)
        have HO2 : Hid (Calls Tryz.prog 54 #[.agg #[.int .i64 k, .slice a1 n1 c1, .slice a2 n2 c2, .slice a3 n3 c3, .int .i64 rel, .int .i64 bd, .slice a6 n6 c6], .slice pa n1 pc] wr fun e w' => e = .returned (.bool zb) ∧ Below wr.heap.size wr w') := Lib.hid (by rw [SB.out]; exact HO.out)
        rw [XE.out]
        clear HO OV l1 l2 hIB
        go_wp2_with (go_at_call 54; refine HO2.out.mono ?_; rintro e w9 ⟨rfl, hb⟩; have B9 := Lib.hid hb; clear hb)
        refine bodyPost_ret (v := .tuple #[.bool zb, .int .i64 0]) (by simp [results, Tryz.results29, go_sem]) rfl ?_
        exact ⟨by rw [SE.out], over (over (over B0.out B2.out) BR.out) B9.out⟩
  · have SE : Hid (ze = e0) := Lib.hid (by rw [← HZE.out]; unfold saE; rw [VL.out, HE0.out, if_neg z0])
    have SB : Hid (zb = false) := Lib.hid (by rw [← HZB.out]; unfold saB; rw [HZE.out, SE.out, decide_eq_false z0]; rfl)
    have dz : (e0 != 0) = true := by simpa using z0
    go_enter Tryz.func29, Tryz.ntmps29
    go_wp2_with (go_at_call 31; refine FA2.out.mono ?_; rintro e W2 ⟨rfl, hb⟩; have B2 := Lib.hid hb; clear hb)
    refine bodyPost_ret (v := .tuple #[.bool false, .int .i64 e0]) (by simp [results, Tryz.results29, go_sem]) rfl ?_
    exact ⟨by rw [SE.out, SB.out], over B0.out B2.out⟩
end Go.Proofs.YteiohgiecpibhaaGreat
set_option linter.unusedVariables false
set_option linter.unusedSimpArgs false
set_option maxRecDepth 100000
set_option maxHeartbeats 4000000
namespace Go.Proofs.YteiohgiecpibhaaGreat
open Go.RowKit Fdm

/-- A row of n numbers that is being filled: the first k are f's. -/
structure InF (w : World) (g n k : Nat) (f : Nat → Int) : Prop where
  blk : Blk w g 3
  old : ∀ i, i < n → ∃ u, w.cell? ⟨g, i, none⟩ = some u
  cs : ∀ i, i < k → w.cell? ⟨g, i, none⟩ = some (.int .i64 (f i))
theorem InF.set {w : World} {g n k : Nat} {f : Nat → Int} (h : InF w g n k f) (hk : k < n) : InF (w.setCell ⟨g, k, none⟩ (.int .i64 (f k))) g n (k + 1) f := by
  obtain ⟨x0, p0⟩ := h.old k hk
  have same : (w.setCell ⟨g, k, none⟩ (.int .i64 (f k))).cell? ⟨g, k, none⟩ = some (.int .i64 (f k)) := World.cell?_setCell_same' _ _ _ (by rw [p0]; rfl)
  have oth : ∀ i, i ≠ k → (w.setCell ⟨g, k, none⟩ (.int .i64 (f k))).cell? ⟨g, i, none⟩ = w.cell? ⟨g, i, none⟩ := fun i e => World.cell?_setCell_other _ _ _ _ (by intro q; injection q with _ q _; omega)
  refine ⟨h.blk.setCell _ _ _, fun i hi => ?_, fun i hi => ?_⟩
  · by_cases e : i = k
    · subst e; exact ⟨_, same⟩
    · obtain ⟨x, p⟩ := h.old i hi
      exact ⟨x, (oth i e).trans p⟩
  · by_cases e : i = k
    · subst e; exact same
    · exact (oth i e).trans (h.cs i (by omega))
theorem InF.made {w : World} {base g n : Nat} {f : Nat → Int} (h : w.ownsRow base 3 1 (.slice (some ⟨g, 0, none⟩) n n) n (madeCells (Value.int .i64 0).cells (n * 1)).toList) : InF w g n 0 f ∧ base ≤ g := by
  rcases h.2 with ⟨e, _⟩ | ⟨g', cap, cur, e, hb, hg, hnc, hcm, hcs, htake⟩
  · simp at e
  · simp only [Value.slice.injEq, Option.some.injEq, Addr.mk.injEq] at e
    obtain ⟨⟨rfl, -⟩, -, rfl⟩ := e
    refine ⟨⟨⟨_, hg⟩, fun i hi => ?_, fun i hi => absurd hi (Nat.not_lt_zero _)⟩, hb⟩
    rw [cell_of_row _ _ _ _ _ _ hg]
    exact ⟨cur[i]'(by rw [hcs]; omega), by simp⟩
def Sf28L (w : World) (g n : Nat) (f : Nat → Int) (v : Value) (wr : World) : Prop := ∃ k : Nat, k ≤ n ∧ v = .int .i64 (k : Int) ∧ InF wr g n k f ∧ But g w wr
theorem satisfies28_any {w : World} {c : Con} {vals : List Int} {a1 a2 a3 a6 av : Option Addr} {n1 c1 n2 c2 n3 c3 n6 c6 nv cv : Nat} (h : Ka w c a1 n1 c1 a2 n2 c2 a3 n3 c3 a6 n6 c6) (hv : InA w vals av) (vl : vals.length = nv) (hcv : nv ≤ cv) (hcu : cv ≤ 9223372036854775807) :
    Calls Tryz.prog 28 #[.agg #[.int .i64 c.kind, .slice a1 n1 c1, .slice a2 n2 c2, .slice a3 n3 c3, .int .i64 c.rel, .int .i64 c.bound, .slice a6 n6 c6], .slice av nv cv] w fun e w' => e = .returned (.tuple #[.bool (saB c.kind c.rel c.bound c.vars c.coefs c.needs c.tuples vals), .int .i64 (saE c.kind c.rel c.bound c.vars c.coefs c.needs c.tuples vals)]) ∧ Below w.heap.size w w' := by
  obtain ⟨k, V, F, D, rel, bd, T⟩ := c
  show Calls Tryz.prog 28 #[.agg #[.int .i64 k, .slice a1 n1 c1, .slice a2 n2 c2, .slice a3 n3 c3, .int .i64 rel, .int .i64 bd, .slice a6 n6 c6], .slice av nv cv] w fun e w' => e = .returned (.tuple #[.bool (saB k rel bd V F D T vals), .int .i64 (saE k rel bd V F D T vals)]) ∧ Below w.heap.size w w'
  obtain ⟨zb, hzb⟩ : ∃ zb, saB k rel bd V F D T vals = zb := ⟨_, rfl⟩
  obtain ⟨ze, hze⟩ : ∃ ze, saE k rel bd V F D T vals = ze := ⟨_, rfl⟩
  have HZB := Lib.hid hzb; have HZE := Lib.hid hze
  rw [hzb, hze]
  clear hzb hze
  have VE : Hid (V.length = n1) := Lib.hid h.rv.e
  have V2 := Lib.hid h.rv.l; have V3 := Lib.hid h.rv.u
  obtain ⟨i3, hi3, hz0, hz1, hz2⟩ := info_parts info3
  obtain ⟨W0, hW0⟩ : ∃ W0, w.alloc (.cells #[.int .i64 k, .slice a1 n1 c1, .slice a2 n2 c2, .slice a3 n3 c3, .int .i64 rel, .int .i64 bd, .slice a6 n6 c6] 33) = W0 := ⟨_, rfl⟩
  have B0 : Hid (Below w.heap.size w W0) := by rw [← hW0]; exact Lib.hid (below_new _ _)
  have I0 : W0.heap[w.heap.size]? = some (.cells #[.int .i64 k, .slice a1 n1 c1, .slice a2 n2 c2, .slice a3 n3 c3, .int .i64 rel, .int .i64 bd, .slice a6 n6 c6] 33 (0, 0)) := by rw [← hW0]; exact heap_alloc_new _ _
  have p0 : W0.cell? ⟨w.heap.size, 0, none⟩ = some (.int .i64 k) := by rw [cell_of_row _ _ _ _ _ _ I0]; rfl
  have p1 : W0.cell? ⟨w.heap.size, 1, none⟩ = some (.slice a1 n1 c1) := by rw [cell_of_row _ _ _ _ _ _ I0]; rfl
  have p2 : W0.cell? ⟨w.heap.size, 2, none⟩ = some (.slice a2 n2 c2) := by rw [cell_of_row _ _ _ _ _ _ I0]; rfl
  have p3 : W0.cell? ⟨w.heap.size, 3, none⟩ = some (.slice a3 n3 c3) := by rw [cell_of_row _ _ _ _ _ _ I0]; rfl
  have p4 : W0.cell? ⟨w.heap.size, 4, none⟩ = some (.int .i64 rel) := by rw [cell_of_row _ _ _ _ _ _ I0]; rfl
  have p5 : W0.cell? ⟨w.heap.size, 5, none⟩ = some (.int .i64 bd) := by rw [cell_of_row _ _ _ _ _ _ I0]; rfl
  have p6 : W0.cell? ⟨w.heap.size, 6, none⟩ = some (.slice a6 n6 c6) := by rw [cell_of_row _ _ _ _ _ _ I0]; rfl
  clear I0
  have KB := Lib.hid (h.below B0.out)
  have HV : Hid (InA W0 vals av) := Lib.hid (hv.below B0.out)
  have VL := Lib.hid vl
  clear h hv vl
  have FA := Lib.hid (check30_any KB.out (nv : Int))
  obtain ⟨e0, he0⟩ : ∃ e0, faF k rel bd V F D T (nv : Int) = e0 := ⟨_, rfl⟩
  have FA2 : Hid (Calls Tryz.prog 30 #[.agg #[.int .i64 k, .slice a1 n1 c1, .slice a2 n2 c2, .slice a3 n3 c3, .int .i64 rel, .int .i64 bd, .slice a6 n6 c6], .int .i64 (nv : Int)] W0 fun e w' => e = .returned (.int .i64 e0) ∧ Below W0.heap.size W0 w') := Lib.hid (by rw [← he0]; exact FA.out)
  clear FA
  have HE0 := Lib.hid he0
  clear he0
  by_cases z0 : e0 = 0
  · subst z0
    obtain ⟨ok, va⟩ := fa_ok HE0.out
    have n16 := ok.le
    have OK := Lib.hid ok; have VA := Lib.hid va
    rw [VE.out] at n16
    clear ok va
    go_enter Tryz.func28, Tryz.ntmps28
    go_upto_region 4 with (go_at_call 30; refine FA2.out.mono ?_; rintro e W2 ⟨rfl, hb⟩; have B2 := Lib.hid hb; clear hb)
    replace p0 := cell_later B2.out (Nat.le_refl _) p0
    replace p1 := cell_later B2.out (Nat.le_refl _) p1
    replace p2 := cell_later B2.out (Nat.le_refl _) p2
    replace p3 := cell_later B2.out (Nat.le_refl _) p3
    replace p4 := cell_later B2.out (Nat.le_refl _) p4
    replace p5 := cell_later B2.out (Nat.le_refl _) p5
    replace p6 := cell_later B2.out (Nat.le_refl _) p6
    have HV2 := Lib.hid (HV.out.below B2.out)
    have KB2 := Lib.hid (KB.out.below B2.out)
    have CV := Lib.hid (con51_any HV2.out VL.out hcv hcu)
    obtain ⟨bo, hbo⟩ : ∃ bo, vals.any ouF = bo := ⟨_, rfl⟩
    rw [hbo] at CV
    have AO := Lib.hid hbo
    clear hbo
    cases bo
    · have SE : Hid (ze = 0) := Lib.hid (by rw [← HZE.out]; unfold saE; rw [VL.out, HE0.out, AO.out]; rfl)
      have SB : Hid (zb = hoF k rel bd F D T (xsF V vals)) := Lib.hid (by rw [← HZB.out]; unfold saB; rw [HZE.out, SE.out]; rfl)
      have LX := Lib.hid (xs_lx VA.out (by rw [VL.out]) AO.out)
      have VI := Lib.hid (va_in _ VA.out)
      go_upto_region 6 with (go_at_call 50; refine CV.out.mono ?_; rintro e W3 ⟨rfl, hq⟩; have Q3 := Lib.hid hq; clear hq)
      replace p0 := Q3.out.cell p0
      replace p1 := Q3.out.cell p1
      replace p2 := Q3.out.cell p2
      replace p3 := Q3.out.cell p3
      replace p4 := Q3.out.cell p4
      replace p5 := Q3.out.cell p5
      replace p6 := Q3.out.cell p6
      have B3 : Hid (Below W2.heap.size W2 W3) := Lib.hid Q3.out.below
      have BW3 : Hid (Below w.heap.size w W3) := Lib.hid (over (over B0.out B2.out) B3.out)
      have KB3 := Lib.hid (KB2.out.below B3.out)
      have HV3 := Lib.hid (HV2.out.below B3.out)
      go_upto_region 7 with (at_make; refine wpList_make_full _ rfl _ _ 30 rfl W3.heap.size 3 i3 _ 1 Tryz.underlying30 hi3 hz0 hz1 .i64 .i64 _ _ n1 rfl rfl (by omega) (by omega) (by rw [hz2]; omega) (by unfold maxLen; omega) (Nat.le_refl _) ?_; intro w1 hown1 hg1; obtain ⟨cf1, ge1⟩ := InF.made (f := fun i => (xsF V vals).getD i 0) hown1; have F1 := Lib.hid cf1; have BB1 := Lib.hid (below_grown hg1); clear hown1 hg1 cf1 ge1)
      replace p0 := cell_later BB1.out (Nat.le_refl _) p0
      replace p1 := cell_later BB1.out (Nat.le_refl _) p1
      replace p2 := cell_later BB1.out (Nat.le_refl _) p2
      replace p3 := cell_later BB1.out (Nat.le_refl _) p3
      replace p4 := cell_later BB1.out (Nat.le_refl _) p4
      replace p5 := cell_later BB1.out (Nat.le_refl _) p5
      replace p6 := cell_later BB1.out (Nat.le_refl _) p6
      have P0 := Lib.hid p0; have P1 := Lib.hid p1; have P2 := Lib.hid p2; have P3 := Lib.hid p3; have P4 := Lib.hid p4; have P5 := Lib.hid p5; have P6 := Lib.hid p6
      have hw3 : Hid (w.heap.size < W3.heap.size) := Lib.hid (by have := lt_of_cell (Q3.out.cell (cell_later B2.out (Nat.le_refl _) (show W0.cell? ⟨w.heap.size, 0, none⟩ = some (.int .i64 k) by rw [← hW0, cell_of_row _ _ _ _ _ _ (heap_alloc_new _ _)]; rfl))); exact this)
      go_wp2_with fail
      go_loopw [26] (fun v wr => Sf28L w1 W3.heap.size n1 (fun i => (xsF V vals).getD i 0) v wr) (fun v _ => n1 - (intOf v).toNat)
      case atStart => exact ⟨0, Nat.zero_le _, rfl, F1.out, But.refl _ _⟩
      obtain ⟨i, hi, rfl, hF, hBt⟩ := hrel
      have FF := Lib.hid hF; have BT := Lib.hid hBt
      clear hF hBt
      have BR : Hid (Below W3.heap.size W3 wr) := Lib.hid (BT.out.below (Nat.le_refl _) BB1.out.size BB1.out)
      have PS : ∀ (o : Nat) (v : Value), w1.cell? ⟨w.heap.size, o, none⟩ = some v → wr.cell? ⟨w.heap.size, o, none⟩ = some v := fun o v p => by
        rw [cells_same (BT.out.block w.heap.size (lt_of_cell p) (by have := hw3.out; omega)) o]; exact p
      replace p0 := PS _ _ P0.out
      replace p1 := PS _ _ P1.out
      replace p2 := PS _ _ P2.out
      replace p3 := PS _ _ P3.out
      replace p4 := PS _ _ P4.out
      replace p5 := PS _ _ P5.out
      replace p6 := PS _ _ P6.out
      clear PS
      by_cases ilt : i < n1
      · obtain ⟨g1, o1, rfl, k1⟩ := (KB3.out.v.below BR.out) (by intro e; have h1 := VE.out; have h2 : V = [] := e; rw [h2, List.length_nil] at h1; omega)
        have t1 := k1 i (by show i < V.length; rw [VE.out]; exact ilt)
        replace t1 : wr.cell? ⟨g1, o1 + i, none⟩ = some (.int .i64 (V.getD i 0)) := t1
        obtain ⟨u1, u2⟩ := VI.out i (by rw [VE.out]; exact ilt)
        have XT := Lib.hid (xs_at (V := V) (vals := vals) (i := i) (by rw [VE.out]; exact ilt))
        obtain ⟨u, hu⟩ : ∃ u : Nat, V.getD i 0 = (u : Int) := ⟨(V.getD i 0).toNat, by omega⟩
        rw [hu] at t1 u1 u2 XT
        rw [Int.toNat_natCast] at XT
        obtain ⟨gv, ov, rfl, kv⟩ := (HV3.out.below BR.out) (by intro e; have := VL.out; rw [e, List.length_nil] at this; omega)
        have ul : u < nv := by omega
        have t2 := kv u (by rw [VL.out]; exact ul)
        obtain ⟨x, hx⟩ : ∃ x, vals.getD u 0 = x := ⟨_, rfl⟩
        rw [hx] at t2 XT
        clear hx hu k1 kv u1
        have wi : IntKind.i64.wrap ((i : Int) + 1) = (i : Int) + 1 := wrap_in (by omega) (by omega)
        obtain ⟨oo, t0⟩ := FF.out.old i ilt
        have fz := FF.out.blk.free i
        have NX := Lib.hid (FF.out.set ilt)
        have NX2 : Hid (InF (wr.setCell ⟨W3.heap.size, i, none⟩ (.int .i64 x)) W3.heap.size n1 (i + 1) (fun i => (xsF V vals).getD i 0)) := Lib.hid (by have := NX.out; simp only [XT.out] at this; exact this)
        have BX := Lib.hid (BT.out.trans (But.setCell W3.heap.size wr i (.int .i64 x)))
        clear NX
        go_wp2_with fail
        go_roundw
        case rel => exact ⟨i + 1, by omega, by go_num, NX2.out, BX.out⟩
        simp [intOf]; omega
      · obtain rfl : n1 = i := by omega
        have XE : Hid ((xsF V vals).length = n1) := Lib.hid (by rw [xs_len]; exact VE.out)
        have IX : Hid (InA wr (xsF V vals) (some ⟨W3.heap.size, 0, none⟩)) := Lib.hid (fun _ => ⟨W3.heap.size, 0, rfl, fun j hj => by rw [Nat.zero_add]; exact FF.out.cs j (by rw [← XE.out]; exact hj)⟩)
        have HO := Lib.hid (holds52_any (KB3.out.below BR.out) IX.out (by intro b hb; simp at hb; subst hb; exact FF.out.blk.lt) XE.out (Nat.le_refl _) (by omega) (by rw [← VE.out]; exact OK.out) (fun i hi => LX.out i (by rw [VE.out]; exact hi)))
        have HO2 : Hid (Calls Tryz.prog 52 #[.agg #[.int .i64 k, .slice a1 n1 c1, .slice a2 n2 c2, .slice a3 n3 c3, .int .i64 rel, .int .i64 bd, .slice a6 n6 c6], .slice (some ⟨W3.heap.size, 0, none⟩) n1 n1] wr fun e w' => e = .returned (.bool zb) ∧ Below wr.heap.size wr w') := Lib.hid (by rw [SB.out]; exact HO.out)
        clear HO
        go_wp2_with (go_at_call 52; refine HO2.out.mono ?_; rintro e w9 ⟨rfl, hb⟩; have B9 := Lib.hid hb; clear hb)
        refine bodyPost_ret (v := .tuple #[.bool zb, .int .i64 0]) (by simp [results, Tryz.results28, go_sem]) rfl ?_
        exact ⟨by rw [SE.out], over (over BW3.out BR.out) B9.out⟩
    · have SE : Hid (ze = 1) := Lib.hid (by rw [← HZE.out]; unfold saE; rw [VL.out, HE0.out, AO.out]; rfl)
      have SB : Hid (zb = false) := Lib.hid (by rw [← HZB.out]; unfold saB; rw [HZE.out, SE.out]; rfl)
      go_wp2_with (go_at_call 50; refine CV.out.mono ?_; rintro e W3 ⟨rfl, hq⟩; have Q3 := Lib.hid hq; clear hq)
      refine bodyPost_ret (v := .tuple #[.bool false, .int .i64 1]) (by simp [results, Tryz.results28, go_sem]) rfl ?_
      exact ⟨by rw [SE.out, SB.out], over (over B0.out B2.out) Q3.out.below⟩
  · have SE : Hid (ze = e0) := Lib.hid (by rw [← HZE.out]; unfold saE; rw [VL.out, HE0.out, if_neg z0])
    have SB : Hid (zb = false) := Lib.hid (by rw [← HZB.out]; unfold saB; rw [HZE.out, SE.out, decide_eq_false z0]; rfl)
    have dz : (e0 != 0) = true := by simpa using z0
    go_enter Tryz.func28, Tryz.ntmps28
    go_wp2_with (go_at_call 30; refine FA2.out.mono ?_; rintro e W2 ⟨rfl, hb⟩; have B2 := Lib.hid hb; clear hb)
    refine bodyPost_ret (v := .tuple #[.bool false, .int .i64 e0]) (by simp [results, Tryz.results28, go_sem]) rfl ?_
    exact ⟨by rw [SE.out, SB.out], over B0.out B2.out⟩
end Go.Proofs.YteiohgiecpibhaaGreat
