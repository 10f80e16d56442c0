/- of, Of, the reference Of. -/
import Derived.Test.YteiohgiecpibhaaGreatMT
import Derived.Test.YteiohgiecpibhaaGreatML
set_option linter.unusedVariables false
set_option linter.unusedSimpArgs false
set_option maxRecDepth 100000
set_option maxHeartbeats 4000000
namespace Go.Proofs.YteiohgiecpibhaaGreat
open Lib
theorem compact_step {d : Array Int} {N : Nat} (hm : ∀ i j, i ≤ j → j < N → d[i]! ≤ d[j]!) : ∀ m, m ≤ N → (compactUpTo d m).Pairwise (· < ·) ∧ ∀ x, x ∈ compactUpTo d m ↔ ∃ j, j < m ∧ d[j]! = x
  | 0, _ => by simp [compactUpTo]
  | m + 1, h => by
    obtain ⟨i1, i2⟩ := compact_step hm m (by omega)
    rw [compactUpTo_succ]
    by_cases hk : keeps d m = true
    · rw [if_pos hk]
      refine ⟨List.pairwise_append.2 ⟨i1, by simp, fun x hx y hy => ?_⟩, fun x => ?_⟩
      · rw [List.mem_singleton] at hy
        subst hy
        obtain ⟨j, hj, rfl⟩ := (i2 x).1 hx
        have h1 := hm j (m - 1) (by omega) (by omega)
        have h2 := hm (m - 1) m (by omega) (by omega)
        have h3 : m = 0 ∨ d[m]! ≠ d[m - 1]! := by unfold keeps at hk; exact of_decide_eq_true hk
        rcases h3 with e | e
        · omega
        · omega
      · rw [List.mem_append, List.mem_singleton, i2]
        constructor
        · rintro (⟨j, hj, e⟩ | e)
          · exact ⟨j, by omega, e⟩
          · exact ⟨m, by omega, e.symm⟩
        · rintro ⟨j, hj, e⟩
          by_cases hjm : j = m
          · subst hjm; right; exact e.symm
          · left; exact ⟨j, by omega, e⟩
    · rw [if_neg hk, List.append_nil]
      refine ⟨i1, fun x => ?_⟩
      have h3 : ¬ (m = 0 ∨ d[m]! ≠ d[m - 1]!) := by unfold keeps at hk; simpa using hk
      have h0 : m ≠ 0 := fun e => h3 (Or.inl e)
      have he : d[m]! = d[m - 1]! := Classical.byContradiction fun e => h3 (Or.inr e)
      rw [i2]
      constructor
      · rintro ⟨j, hj, e⟩; exact ⟨j, by omega, e⟩
      · rintro ⟨j, hj, e⟩
        by_cases hjm : j = m
        · subst hjm; exact ⟨j - 1, by omega, by rw [← he]; exact e⟩
        · exact ⟨j, by omega, e⟩

theorem compact_sorted {zs : List Int} (hs : zs.Pairwise (· ≤ ·)) : (compact zs).Pairwise (· < ·) ∧ ∀ x, x ∈ compact zs ↔ x ∈ zs := by
  have g : ∀ j, (h : j < zs.length) → zs.toArray[j]! = zs[j] := fun j h => by rw [getElem!_pos zs.toArray j (by simpa using h)]; simp
  have hm : ∀ i j, i ≤ j → j < zs.length → zs.toArray[i]! ≤ zs.toArray[j]! := by
    intro i j hij hj
    rw [g i (by omega), g j hj]
    by_cases e : i = j
    · subst e; exact Int.le_refl _
    · exact (List.pairwise_iff_getElem.1 hs) i j (by omega) hj (by omega)
  obtain ⟨h1, h2⟩ := compact_step hm zs.length (Nat.le_refl _)
  refine ⟨h1, fun x => ?_⟩
  show x ∈ compactUpTo zs.toArray zs.length ↔ _
  rw [h2]
  constructor
  · rintro ⟨j, hj, e⟩; rw [g j hj] at e; rw [← e]; exact List.getElem_mem hj
  · intro hx
    obtain ⟨j, hj, e⟩ := List.getElem_of_mem hx
    exact ⟨j, hj, by rw [g j hj]; exact e⟩

/-- Some numbers, each once, rising. -/
def cpt (l : List Int) : List Int := compact (srt l)
theorem srt_up (l : List Int) : (srt l).Pairwise (· ≤ ·) := by
  have := List.pairwise_mergeSort (le := fun (x y : Int) => decide (x ≤ y)) (fun a b c h1 h2 => by simp at h1 h2 ⊢; omega) (fun a b => by simp; omega) l
  exact this.imp fun h => by simpa using h
theorem cpt_up (l : List Int) : (cpt l).Pairwise (· < ·) := (compact_sorted (srt_up l)).1
theorem cpt_mem {l : List Int} {x : Int} : x ∈ cpt l ↔ x ∈ l := by
  unfold cpt
  rw [(compact_sorted (srt_up l)).2]
  unfold srt
  rw [List.mem_mergeSort]
theorem cpt_len (l : List Int) : (cpt l).length ≤ l.length := Nat.le_trans (compact_length_le _) (Nat.le_of_eq (srt_len l))
end Go.Proofs.YteiohgiecpibhaaGreat
namespace Go.Proofs.YteiohgiecpibhaaGreat
open Go.RowKit Go.Shelf Fdm

theorem InA.sv {w : World} {l : List Int} {a : Option Addr} {n c : Nat} (h : InA w l a) (hn : l.length = n) : Sv.Ints w.heap.size w (.slice a n c) l := by
  by_cases h0 : l = []
  · subst h0; subst hn; exact .inl ⟨a, c, rfl, rfl⟩
  · obtain ⟨g, o, rfl, k⟩ := h h0
    refine .inr ⟨g, o, c, by rw [hn], lt_of_cell (k 0 (List.length_pos_iff.2 h0)), fun j hj => ?_⟩
    have := k j hj
    rwa [List.getD_eq_getElem?_getD] at this
theorem own_cap {w : World} {base e m tc : Nat} {a : Option Addr} {xs : List Value} (h : w.ownsRow base e 1 (.slice a m tc) m xs) : m ≤ tc ∧ tc ≤ 9223372036854775807 := by
  rcases h.2 with ⟨q, h0⟩ | ⟨g, cap, cur, q, hb, hg, hnc, hcm, _⟩
  · injection q with q1 q2 q3; omega
  · injection q with q1 q2 q3
    subst q3
    exact ⟨hnc, by unfold maxLen at hcm; omega⟩
theorem of_any {w : World} {l : List Int} {a : Option Addr} {n c : Nat} (h : InA w l a) (hn : l.length = n) (h0 : n ≤ c) (h1 : c ≤ 9223372036854775807) (hb : ∀ v ∈ l, -16384 ≤ v ∧ v ≤ 16384) (hs : n ≤ 1000000) :
    Calls Tryz.prog 42 #[.slice a n c] w (DmPost w (spnF (cpt l))) := by
  have HSV := Lib.hid (h.sv (c := c) hn); have HN := Lib.hid hn
  have HP := Lib.hid (cpt_up l); have HB : Hid (∀ v ∈ cpt l, -16384 ≤ v ∧ v ≤ 16384) := Lib.hid fun v hv => hb v (cpt_mem.1 hv)
  obtain ⟨cr, hcr⟩ : ∃ cr, cpt l = cr := ⟨_, rfl⟩
  have CR : Hid (Lib.compact (srt l) = cr) := Lib.hid hcr
  obtain ⟨m, hm⟩ : ∃ m, cr.length = m := ⟨_, rfl⟩
  have ML : m ≤ n := by rw [← hm, ← hcr, ← hn]; exact cpt_len l
  have M := Lib.hid hm
  rw [hcr] at HP HB ⊢
  clear h hn hb hm hcr
  have VA := Lib.hid (callsIn_wide.1 (Sv.values_in Fence.wide 1 trivial rfl a n c w))
  obtain ⟨w1, hw1⟩ : ∃ w1, w.alloc (.cells #[.slice a n c] 30) = w1 := ⟨_, rfl⟩
  have q1 := heap_alloc_new w (.cells #[.slice a n c] 30)
  have b1 := below_new w (.cells #[.slice a n c] 30)
  have z1 : w1.heap.size = w.heap.size + 1 := by rw [← hw1]; simp
  rw [hw1] at q1 b1 VA
  have SO := Lib.hid (sorted_any (w := w1) (Bs := w.heap.size) (sv := .slice a n c) (zs := l) (by have := HN.out; omega) (by omega) (by rw [cell_of_row _ _ _ _ _ _ q1]; rfl) (by
    rcases HSV.out.below (n₀ := w.heap.size) (A := w) (B := w1) b1 with q | ⟨b, off, cap, e, hb, hc⟩
    · exact .inl q
    · exact .inr ⟨b, off, cap, e, by omega, hc⟩))
  have B1 := Lib.hid b1
  clear hw1 q1 b1 z1
  go_enter Tryz.func42, Tryz.ntmps42
  go_wp2_with (first | (go_at_call 72; refine VA.out.mono ?_; rintro e w1 ⟨rfl, rfl⟩) | (go_at_call 71; refine SO.out.mono ?_; rintro e w2 ⟨ta, tc, rfl, ow, hb⟩; have cp := compact_own2 ow (by have := HN.out; omega) hb.size; rw [CR.out, M.out] at cp; have CP := Lib.hid cp; have B2 := Lib.hid (over B1.out hb); have B12 := Lib.hid hb; have TL : Hid (n ≤ tc ∧ tc ≤ 9223372036854775807) := Lib.hid (by rw [HN.out] at ow; exact own_cap ow); clear ow hb cp) | (go_at_call 70; refine CP.out.mono ?_; rintro e w3 ⟨rfl, hin, hge, hb⟩; have IN := Lib.hid hin; have GE := Lib.hid hge; have B3 := Lib.hid (B2.out.trans (hb.mono B1.out.size)); clear hin hge hb))
  go_loopw [4, 14] (fun v4 v14 wr => ∃ k : Nat, k ≤ m ∧ v14 = .int .i64 (k : Int) ∧ DmO wr w3.heap.size v4 (spnF (cr.take k)) ∧ Below w3.heap.size w3 wr) (fun _ v14 _ => m - (intOf v14).toNat)
  case atStart => exact ⟨0, Nat.zero_le _, rfl, DmO.nil _ _, Below.refl _ _⟩
  obtain ⟨k, hk, rfl, hO, hBr⟩ := hrel
  have BR := Lib.hid hBr; have O := Lib.hid hO
  clear hBr hO
  by_cases hlt : k < m
  · have hlt' : (k : Int) < (m : Int) := by omega
    obtain ⟨g, o, rfl, dd⟩ := IN.out (by intro e; have := M.out; rw [e] at this; simp at this; omega)
    have p0 := cell_later BR.out (Nat.le_refl _) (dd k (by rw [M.out]; exact hlt))
    have LK : Hid (k < cr.length) := Lib.hid (by rw [M.out]; exact hlt)
    have hv := HB.out _ (getD_mem LK.out)
    obtain ⟨x, hx⟩ : ∃ x, cr.getD k 0 = x := ⟨_, rfl⟩
    rw [hx] at p0 hv
    rcases spn_at HP.out LK.out with ⟨k0, e1, e2⟩ | ⟨d, s, k0, e1, es, dl, e2⟩
    · subst k0
      have E2 := Lib.hid e2
      rw [e1] at O
      rw [hx] at E2
      rw [Nat.add_zero] at p0
      have hlt0 : (0 : Int) < (m : Int) := by omega
      obtain ⟨va, vc, eu, -⟩ := (O.out.v (by simp)).ex
      have eu : u4 = .slice va 0 vc := eu
      subst eu
      clear dd e1 e2 hx hlt'
      go_wp2_with (at_builtin; refine wpList_pushD rfl _ _ rfl w3 wr _ [] x x rfl rfl rfl O.out BR.out (by simp) ?_; intro v4 W3 hO3 hB3 _; have O3 := Lib.hid hO3; have B3' := Lib.hid hB3; clear hO3 hB3)
      go_roundw
      case rel => exact ⟨1, by omega, by go_num, by rw [E2.out]; exact O3.out, B3'.out⟩
      simp [intOf]; omega
    · have E2 := Lib.hid e2
      rw [e1] at O
      have hu := HB.out _ (getD_mem (l := cr) (k := k - 1) (by rw [M.out]; omega))
      rw [hx] at E2
      obtain ⟨u, hu'⟩ : ∃ u, cr.getD (k - 1) 0 = u := ⟨_, rfl⟩
      rw [hu'] at hu es E2
      obtain ⟨gg, q, cap, hi⟩ := O.out.hi
      have HI := Lib.hid hi
      have hi1 := hi.eq
      subst hi1
      have LM : q < k := by rw [← hi.len]; exact dl
      have LDD : Hid (d.length + 1 ≤ m) := Lib.hid (by rw [hi.len]; omega)
      have wu : IntKind.i64.wrap (u + 1) = u + 1 := wrap_in (by omega) (by omega)
      have wm2 : wrap64 (q : Int) = (q : Int) := by have := wrap_in (z := (q : Int)) (by omega) (by omega); rw [IntKind.wrap_i64] at this; unfold wrap64; omega
      have hi2 := hi.cell
      have hi3 := hi.fr
      rw [es] at hi2
      clear hi dl dd e1 e2 hx hu' es k0
      by_cases hux : u + 1 = x
      · have hux' : (u + 1 == x) = true := by simp [hux]
        go_wp2_with fail
        go_roundw
        case rel => exact ⟨k + 1, by omega, by go_num, by rw [E2.out, if_pos hux]; exact HI.out.set x, below_row BR.out (HI.out.grow x) HI.out.ge BR.out.size⟩
        simp [intOf]; omega
      · have hux' : (u + 1 == x) = false := by rw [beq_eq_false_iff_ne]; exact hux
        go_wp2_with (at_builtin; refine wpList_pushD rfl _ _ rfl w3 wr _ (d ++ [s]) x x rfl rfl rfl O.out BR.out (by simp; have := LDD.out; omega) ?_; intro v4 W3 hO3 hB3 _; have O3 := Lib.hid hO3; have B3' := Lib.hid hB3; clear hO3 hB3)
        go_roundw
        case rel => exact ⟨k + 1, by omega, by go_num, by rw [E2.out, if_neg hux]; exact O3.out, B3'.out⟩
        simp [intOf]; omega
  · obtain rfl : m = k := by omega
    have E : Hid (cr.take m = cr) := Lib.hid (List.take_of_length_le (by rw [M.out]; exact Nat.le_refl _))
    have L := Lib.hid (spn_len cr)
    have BF := Lib.hid (over B3.out BR.out)
    go_wp2_with fail
    go_ret
    exact ⟨_, rfl, by rw [← E.out]; exact O.out.v (by rw [E.out]; have := L.out; rw [M.out] at this; omega), BF.out⟩
end Go.Proofs.YteiohgiecpibhaaGreat
set_option linter.unusedVariables false
set_option linter.unusedSimpArgs false
set_option maxRecDepth 100000
set_option maxHeartbeats 4000000
namespace Go.Proofs.YteiohgiecpibhaaGreat
open Go.RowKit Go.Shelf Fdm

def InR (v : Int) : Prop := -16384 ≤ v ∧ v ≤ 16384
instance : DecidablePred InR := fun v => by unfold InR; infer_instance
/-- The error of the set of some numbers, and the set. -/
def ofE (l : List Int) : Int := if 1000 < l.length then 3 else if l.length = 0 then 15 else if ∀ v ∈ l, InR v then ftE (spnF (cpt l)) else 1
def ofD (l : List Int) : Dm := if 1000 < l.length then [] else if l.length = 0 then [] else if ∀ v ∈ l, InR v then ftD (spnF (cpt l)) else []
theorem of_ok {l : List Int} (hb : ∀ v ∈ l, InR v) : Ok (spnF (cpt l)) ∧ ∀ v, memF (spnF (cpt l)) v = true ↔ v ∈ l := by
  have h := spn_ok _ (cpt l) rfl (-16384) (cpt_up l) (fun v hv => (hb v (cpt_mem.1 hv)).1)
  have m : ∀ v, memF (spnF (cpt l)) v = true ↔ v ∈ l := fun v => by rw [h.mem, cpt_mem]
  refine ⟨nr_ok h.nr fun s hs => ?_, m⟩
  exact (hb _ ((m _).1 (nr_end h.nr hs))).2
theorem getD_all {l : List Int} {n : Nat} (hn : l.length = n) {p : Int → Prop} (h : ∀ t, t < n → p (l.getD t 0)) : ∀ v ∈ l, p v := fun v hv => by
  obtain ⟨i, hi, rfl⟩ := List.getElem_of_mem hv
  have := h i (by omega)
  rwa [List.getD_eq_getElem?_getD, List.getElem?_eq_getElem hi] at this
theorem of17_any {w : World} {l : List Int} {a : Option Addr} {n c : Nat} (h : InA w l a) (hn : l.length = n) (h0 : n ≤ c) (h1 : c ≤ 9223372036854775807) :
    Calls Tryz.prog 17 #[.slice a n c] w (DePost w (ofD l) (ofE l)) := by
  by_cases hs : 1000 < n
  · have E : Hid (ofE l = 3 ∧ ofD l = []) := Lib.hid ⟨if_pos (by omega), if_pos (by omega)⟩
    have h3 : (1000 : Int) < (n : Int) := by omega
    clear h hn
    go_enter Tryz.func17, Tryz.ntmps17
    go_wp2_with fail
    refine bodyPost_ret (v := .tuple #[.slice none 0 0, .int .i64 3]) (by simp [results, Tryz.results17, go_sem]) rfl ?_
    exact ⟨_, by rw [E.out.1], by rw [E.out.2]; exact DmV.nil _, Below.refl _ _⟩
  by_cases hz : n = 0
  · have E : Hid (ofE l = 15 ∧ ofD l = []) := Lib.hid ⟨by unfold ofE; rw [if_neg (by omega), if_pos (by omega)], by unfold ofD; rw [if_neg (by omega), if_pos (by omega)]⟩
    clear h hn hs
    subst hz
    go_enter Tryz.func17, Tryz.ntmps17
    go_wp2_with fail
    refine bodyPost_ret (v := .tuple #[.slice none 0 0, .int .i64 15]) (by simp [results, Tryz.results17, go_sem]) rfl ?_
    exact ⟨_, by rw [E.out.1], by rw [E.out.2]; exact DmV.nil _, Below.refl _ _⟩
  have H := Lib.hid h; have HN := Lib.hid hn
  have n0 : ((n : Int) == 0) = false := by simp; omega
  have h3 : (n : Int) ≤ 1000 := by omega
  have E1 : Hid ((∃ t, t < n ∧ ¬ InR (l.getD t 0)) → ofE l = 1 ∧ ofD l = []) := Lib.hid fun ⟨t, ht, hb⟩ => by
    have nb : ¬ ∀ v ∈ l, InR v := fun q => hb (q _ (getD_mem (by omega)))
    exact ⟨by unfold ofE; rw [if_neg (by omega), if_neg (by omega), if_neg nb], by unfold ofD; rw [if_neg (by omega), if_neg (by omega), if_neg nb]⟩
  have E2 : Hid ((∀ t, t < n → InR (l.getD t 0)) → (∀ v ∈ l, InR v) ∧ ofE l = ftE (spnF (cpt l)) ∧ ofD l = ftD (spnF (cpt l))) := Lib.hid fun hb => by
    have nb : ∀ v ∈ l, InR v := getD_all hn hb
    exact ⟨nb, by unfold ofE; rw [if_neg (by omega), if_neg (by omega), if_pos nb], by unfold ofD; rw [if_neg (by omega), if_neg (by omega), if_pos nb]⟩
  clear h hn hs hz
  go_enter Tryz.func17, Tryz.ntmps17
  go_wp2_with fail
  go_loopw [16] (fun v16 wr => ∃ k : Nat, k ≤ n ∧ v16 = .int .i64 (k : Int) ∧ (∀ t, t < k → InR (l.getD t 0)) ∧ Below w.heap.size w wr) (fun v16 _ => n - (intOf v16).toNat)
  case atStart => exact ⟨0, Nat.zero_le _, rfl, fun t ht => absurd ht (Nat.not_lt_zero _), Below.refl _ _⟩
  obtain ⟨k, hk, rfl, hA, hBr⟩ := hrel
  have A := Lib.hid hA; have BR := Lib.hid hBr
  clear hA hBr
  by_cases hlt : k < n
  · have hlt' : (k : Int) < (n : Int) := by omega
    obtain ⟨g, o, rfl, dd⟩ := H.out (by intro e; have := HN.out; rw [e] at this; simp at this; omega)
    have p0 := cell_later BR.out (Nat.le_refl _) (dd k (by rw [HN.out]; exact hlt))
    obtain ⟨x, hx⟩ : ∃ x, l.getD k 0 = x := ⟨_, rfl⟩
    rw [hx] at p0
    have HX := Lib.hid hx
    have WI := Lib.hid (within_any x wr)
    clear dd hx
    by_cases hr : InR x
    · have AN : Hid (∀ t, t < k + 1 → InR (l.getD t 0)) := Lib.hid fun t ht => by
        by_cases e : t = k
        · subst e; rw [HX.out]; exact hr
        · exact A.out t (by omega)
      have W1 : Hid ((decide (-16384 ≤ x) && decide (x ≤ 16384)) = true) := Lib.hid (by simp [hr.1, hr.2])
      rw [W1.out] at WI
      clear hr
      go_wp2_with (go_at_call 40; refine WI.out.mono ?_; rintro e w2 ⟨rfl, hq⟩; have Q2 := Lib.hid hq; clear hq)
      go_roundw
      case rel => exact ⟨k + 1, by omega, by go_num, AN.out, over BR.out Q2.out.below⟩
      simp [intOf]; omega
    · have W1 : Hid ((decide (-16384 ≤ x) && decide (x ≤ 16384)) = false) := Lib.hid (by unfold InR at hr; simp; omega)
      rw [W1.out] at WI
      have E := Lib.hid (E1.out ⟨k, hlt, by rw [HX.out]; exact hr⟩)
      clear hr
      go_wp2_with (go_at_call 40; refine WI.out.mono ?_; rintro e w2 ⟨rfl, hq⟩; have Q2 := Lib.hid hq; clear hq)
      refine bodyPost_ret (v := .tuple #[.slice none 0 0, .int .i64 1]) (by simp [results, Tryz.results17, go_sem]) rfl ?_
      exact ⟨_, by rw [E.out.1], by rw [E.out.2]; exact DmV.nil _, over BR.out Q2.out.below⟩
  · obtain rfl : n = k := by omega
    obtain ⟨hb, e1, e2⟩ := E2.out A.out
    have EQ1 := Lib.hid e1; have EQ2 := Lib.hid e2
    have OF := Lib.hid (of_any (H.out.below BR.out) HN.out h0 h1 hb (by omega))
    obtain ⟨P, hP⟩ : ∃ P, spnF (cpt l) = P := ⟨_, rfl⟩
    rw [hP] at OF EQ1 EQ2
    clear hb e1 e2 hP
    go_wp2_with (first
      | (go_at_call 42; refine OF.out.mono ?_; rintro e w2 ⟨v, rfl, hv, hb⟩; obtain ⟨pa, pc, rfl, hs⟩ := hv.s; have FT := Lib.hid (fits_any hs); have B2 := Lib.hid (over BR.out hb); clear hv hb hs)
      | (go_at_call 41; refine FT.out.mono ?_; rintro e w3 ⟨v, rfl, hv, hb⟩; have HV := Lib.hid hv; have B3 := Lib.hid (over B2.out hb); clear hv hb))
    refine bodyPost_ret (v := .tuple #[v, .int .i64 (ftE P)]) (by simp [results, Tryz.results17, go_sem]) rfl ?_
    exact ⟨_, by rw [EQ1.out], by rw [EQ2.out]; exact HV.out, B3.out⟩
/-- The marks are those of the first numbers. -/
structure MkP (l : List Int) (k : Nat) (L : List Bool) : Prop where
  len : L.length = 32769
  mark : ∀ v, InR v → (mkP L v = true ↔ v ∈ l.take k)
theorem boF_made {w : World} {base g n : Nat} (h : w.ownsRow base 4 1 (.slice (some ⟨g, 0, none⟩) n n) n (madeCells (Value.bool false).cells (n * 1)).toList) : BoF w g (List.replicate n false) := by
  have e : (madeCells (Value.bool false).cells (n * 1)).toList = List.replicate (n * 1) (.bool false) := toList_madeCells_one _ _
  rcases h.2 with ⟨q, _⟩ | ⟨g', cap, cur, q, hb, hg, hnc, hcm, hcs, htake⟩
  · simp at q
  · simp only [Value.slice.injEq, Option.some.injEq, Addr.mk.injEq] at q
    obtain ⟨⟨rfl, -⟩, -, rfl⟩ := q
    refine ⟨⟨_, hg⟩, fun i hi => ?_⟩
    rw [List.length_replicate] at hi
    rw [h.cellAt i (by omega), e, List.getElem?_replicate, if_pos (by omega), List.getD_eq_getElem?_getD, List.getElem?_replicate, if_pos hi]; rfl
theorem info4 : (Tryz.prog.info? 4).map (fun i => (i.zero, i.size, i.bytes)) = some (some (.bool false), 1, 1) := by kernel_rfl
theorem mk_new {n : Nat} (hn : n = 32769) (l : List Int) : MkP l 0 (List.replicate n false) := ⟨by rw [List.length_replicate, hn], fun v hv => by
  unfold mkP
  rw [List.getD_eq_getElem?_getD, List.getElem?_replicate]
  split <;> simp⟩
theorem mk_next {l : List Int} {k j : Nat} {L : List Bool} (h : MkP l k L) (hk : k < l.length) (hj : l.getD k 0 = (j : Int) - 16384) (hj2 : j < 32769) : MkP l (k + 1) (L.set j true) := by
  refine ⟨by rw [List.length_set]; exact h.len, fun v hv => ?_⟩
  rw [take_snoc hk, List.mem_append, List.mem_singleton, hj]
  have m := h.mark v hv
  unfold mkP at m ⊢
  by_cases e : (v + 16384).toNat = j
  · rw [e, List.getD_eq_getElem?_getD, List.getElem?_set_self (by rw [h.len]; exact hj2)]
    have : v = (j : Int) - 16384 := by unfold InR at hv; omega
    simp [this]
  · have : ¬ v = (j : Int) - 16384 := by unfold InR at hv; omega
    rw [List.getD_eq_getElem?_getD, List.getElem?_set_ne (Ne.symm e), ← List.getD_eq_getElem?_getD, m]
    simp [this]
theorem mk_all {l : List Int} {n : Nat} {L : List Bool} (h : MkP l n L) (hn : l.length ≤ n) (hb : ∀ v ∈ l, InR v) : pkF (mkP L) = spnF (cpt l) := by
  obtain ⟨o, m⟩ := of_ok hb
  refine (pk_eq o fun v h1 h2 => ?_).symm
  rw [m, h.mark v ⟨h1, h2⟩, List.take_of_length_le hn]
theorem of18_any {w : World} {l : List Int} {a : Option Addr} {n c : Nat} (h : InA w l a) (hn : l.length = n) (h0 : n ≤ c) (h1 : c ≤ 9223372036854775807) :
    Calls Tryz.prog 18 #[.slice a n c] w (DePost w (ofD l) (ofE l)) := by
  by_cases hs : 1000 < n
  · have E : Hid (ofE l = 3 ∧ ofD l = []) := Lib.hid ⟨if_pos (by omega), if_pos (by omega)⟩
    have h3 : (1000 : Int) < (n : Int) := by omega
    clear h hn
    go_enter Tryz.func18, Tryz.ntmps18
    go_wp2_with fail
    refine bodyPost_ret (v := .tuple #[.slice none 0 0, .int .i64 3]) (by simp [results, Tryz.results18, go_sem]) rfl ?_
    exact ⟨_, by rw [E.out.1], by rw [E.out.2]; exact DmV.nil _, Below.refl _ _⟩
  by_cases hz : n = 0
  · have E : Hid (ofE l = 15 ∧ ofD l = []) := Lib.hid ⟨by unfold ofE; rw [if_neg (by omega), if_pos (by omega)], by unfold ofD; rw [if_neg (by omega), if_pos (by omega)]⟩
    clear h hn hs
    subst hz
    go_enter Tryz.func18, Tryz.ntmps18
    go_wp2_with fail
    refine bodyPost_ret (v := .tuple #[.slice none 0 0, .int .i64 15]) (by simp [results, Tryz.results18, go_sem]) rfl ?_
    exact ⟨_, by rw [E.out.1], by rw [E.out.2]; exact DmV.nil _, Below.refl _ _⟩
  have H := Lib.hid h; have HN := Lib.hid hn
  have n0 : ((n : Int) == 0) = false := by simp; omega
  have h3 : (n : Int) ≤ 1000 := by omega
  have E1 : Hid ((∃ t, t < n ∧ ¬ InR (l.getD t 0)) → ofE l = 1 ∧ ofD l = []) := Lib.hid fun ⟨t, ht, hb⟩ => by
    have nb : ¬ ∀ v ∈ l, InR v := fun q => hb (q _ (getD_mem (by omega)))
    exact ⟨by unfold ofE; rw [if_neg (by omega), if_neg (by omega), if_neg nb], by unfold ofD; rw [if_neg (by omega), if_neg (by omega), if_neg nb]⟩
  have E2 : Hid ((∀ t, t < n → InR (l.getD t 0)) → (∀ v ∈ l, InR v) ∧ ofE l = ftE (spnF (cpt l)) ∧ ofD l = ftD (spnF (cpt l))) := Lib.hid fun hb => by
    have nb : ∀ v ∈ l, InR v := getD_all hn hb
    exact ⟨nb, by unfold ofE; rw [if_neg (by omega), if_neg (by omega), if_pos nb], by unfold ofD; rw [if_neg (by omega), if_neg (by omega), if_pos nb]⟩
  obtain ⟨i4, hi4, hz0, hz1, hz2⟩ := info_parts info4
  clear h hn hs hz
  go_enter Tryz.func18, Tryz.ntmps18
  go_upto_region 6 with (at_make; refine wpList_make_full _ rfl _ _ 69 rfl w.heap.size 4 i4 _ 1 Tryz.underlying69 hi4 hz0 hz1 .i64 .i64 _ _ 32769 rfl rfl (by omega) (by omega) (by rw [hz2]; omega) (by unfold maxLen; omega) (Nat.le_refl _) ?_; intro w1 hown1 hg1; have BF := Lib.hid (boF_made hown1); have B1 := Lib.hid (below_grown hg1); clear hown1 hg1)
  have MN : Hid (∃ L, BoF w1 w.heap.size L ∧ MkP l 0 L) := Lib.hid ⟨_, BF.out, mk_new rfl l⟩
  clear BF
  go_wp2_with fail
  go_loopw [5] (fun v5 wr => ∃ k : Nat, k ≤ n ∧ v5 = .int .i64 (k : Int) ∧ (∀ t, t < k → InR (l.getD t 0)) ∧ (∃ L, BoF wr w.heap.size L ∧ MkP l k L) ∧ But w.heap.size w1 wr) (fun v5 _ => n - (intOf v5).toNat)
  case atStart => exact ⟨0, Nat.zero_le _, rfl, fun t ht => absurd ht (Nat.not_lt_zero _), MN.out, But.refl _ _⟩
  obtain ⟨k, hk, rfl, hA, ⟨L, hF, hM⟩, hBt⟩ := hrel
  have A := Lib.hid hA; have F := Lib.hid hF; have M := Lib.hid hM; have BT := Lib.hid hBt
  have BR : Hid (Below w.heap.size w wr) := Lib.hid (BT.out.below (Nat.le_refl _) B1.out.size B1.out)
  clear hA hF hM hBt
  by_cases hlt : k < n
  · have hlt' : (k : Int) < (n : Int) := by omega
    obtain ⟨g, o, rfl, dd⟩ := H.out (by intro e; have := HN.out; rw [e] at this; simp at this; omega)
    have p0 := cell_later BR.out (Nat.le_refl _) (dd k (by rw [HN.out]; exact hlt))
    obtain ⟨x, hx⟩ : ∃ x, l.getD k 0 = x := ⟨_, rfl⟩
    rw [hx] at p0
    have HX := Lib.hid hx
    clear dd hx
    by_cases hr : InR x
    · have AN : Hid (∀ t, t < k + 1 → InR (l.getD t 0)) := Lib.hid fun t ht => by
        by_cases e : t = k
        · subst e; rw [HX.out]; exact hr
        · exact A.out t (by omega)
      obtain ⟨x1, x2⟩ := hr
      obtain ⟨j, hj⟩ : ∃ j : Nat, x = (j : Int) - 16384 := ⟨(x + 16384).toNat, by omega⟩
      subst hj
      have j2 : j < 32769 := by omega
      have j3 : (j : Int) < 32769 := by omega
      have wj : IntKind.i64.wrap ((j : Int) - 16384 + 16384) = (j : Int) := by rw [show (j : Int) - 16384 + 16384 = (j : Int) from by omega]; exact wrap_in (by omega) (by omega)
      have wm2 : wrap64 (j : Int) = (j : Int) := by have := wrap_in (z := (j : Int)) (by omega) (by omega); rw [IntKind.wrap_i64] at this; unfold wrap64; omega
      have y1 : ¬ (j : Int) - 16384 < -16384 := by omega
      have y2 : ¬ 16384 < (j : Int) - 16384 := by omega
      have c0 := F.out.cs j (by rw [M.out.len]; exact j2)
      have f0 := F.out.blk.free j
      have NX := Lib.hid (F.out.set (by rw [M.out.len]; exact j2) true)
      have MX := Lib.hid (mk_next M.out (by rw [HN.out]; exact hlt) HX.out j2)
      have BX := Lib.hid (BT.out.trans (But.setCell w.heap.size wr j (.bool true)))
      go_wp2_with fail
      go_roundw
      case rel => exact ⟨k + 1, by omega, by go_num, AN.out, ⟨_, NX.out, MX.out⟩, BX.out⟩
      simp [intOf]; omega
    · have E := Lib.hid (E1.out ⟨k, hlt, by rw [HX.out]; exact hr⟩)
      by_cases q : x < -16384
      · clear hr
        go_wp2_with fail
        refine bodyPost_ret (v := .tuple #[.slice none 0 0, .int .i64 1]) (by simp [results, Tryz.results18, go_sem]) rfl ?_
        exact ⟨_, by rw [E.out.1], by rw [E.out.2]; exact DmV.nil _, BR.out⟩
      · have q2 : 16384 < x := by unfold InR at hr; omega
        have q3 : -16384 ≤ x := by omega
        have q4 : decide (16384 < x) = true := by simp [q2]
        clear hr q
        go_wp2_with fail
        refine bodyPost_ret (v := .tuple #[.slice none 0 0, .int .i64 1]) (by simp [results, Tryz.results18, go_sem]) rfl ?_
        exact ⟨_, by rw [E.out.1], by rw [E.out.2]; exact DmV.nil _, BR.out⟩
  · obtain rfl : n = k := by omega
    obtain ⟨hb, e1, e2⟩ := E2.out A.out
    have EQ1 := Lib.hid e1; have EQ2 := Lib.hid e2
    have PK := Lib.hid (picked43_any F.out M.out.len rfl)
    rw [mk_all M.out (by rw [HN.out]; exact Nat.le_refl _) hb] at PK
    obtain ⟨P, hP⟩ : ∃ P, spnF (cpt l) = P := ⟨_, rfl⟩
    rw [hP] at PK EQ1 EQ2
    clear hb e1 e2 hP
    go_wp2_with (go_at_call 43; refine PK.out.mono ?_; rintro e w3 ⟨v, rfl, hv, hb⟩; have HV := Lib.hid hv; have B3 := Lib.hid (over BR.out hb); clear hv hb)
    refine bodyPost_ret (v := .tuple #[v, .int .i64 (ftE P)]) (by simp [results, Tryz.results18, go_sem]) rfl ?_
    exact ⟨_, by rw [EQ1.out], by rw [EQ2.out]; exact HV.out, B3.out⟩
end Go.Proofs.YteiohgiecpibhaaGreat
