/- Plain facts for Implicates: clauses that a table implies, the least of them, in order. No program. -/
import Derived.Test.YthhogbligfmpdaaPm
import Derived.Test.YthhogbligfmpdaaPf
import Derived.Sort.Statements
set_option linter.unusedVariables false
set_option linter.unusedSimpArgs false
namespace Go.Proofs.Ythhogbligfmpdaa.Bd

/-- The variable of a literal, its bit, and the value that makes it false. -/
def lv (l : Int) : Int := if 0 < l then l - 1 else -l - 1
def lk (l : Int) : Nat := kO (lv l)
def lb (l : Int) : Bool := decide (¬ 0 < l)
/-- The literal is false at x. -/
def lf (l : Int) (x : Nat) : Prop := x.testBit (lk l) = lb l

def Lit (l : Int) : Prop := l ≠ 0 ∧ -16 ≤ l ∧ l ≤ 16
theorem Lit.lv {l : Int} (h : Lit l) : 0 ≤ lv l ∧ Bd.lv l < 16 := by
  obtain ⟨h1, h2, h3⟩ := h
  unfold Bd.lv; split <;> omega
theorem Lit.lk {l : Int} (h : Lit l) : (15 : Int) - (lk l : Nat) = Bd.lv l ∧ Bd.lk l < 16 := kO_is h.lv.1 h.lv.2

/-- A clause: literals of variables that differ. -/
structure Cl (cl : List Int) : Prop where
  lit : ∀ l ∈ cl, Lit l
  dif : cl.Pairwise fun a b => lk a ≠ lk b

theorem Cl.sub {cl cl' : List Int} (h : Cl cl) (hs : cl'.Sublist cl) : Cl cl' := ⟨fun l hl => h.lit l (hs.subset hl), h.dif.sublist hs⟩

/-- The clause is implied. -/
def Imp (T : List Bool) (cl : List Int) : Prop := ∀ x, x < 65536 → (∀ l ∈ cl, lf l x) → T.getD x false = false

def fxl (T : List Bool) (l : Int) : List Bool := fx (lv l) (lb l) 16 T
def fxs (cl : List Int) (T : List Bool) : List Bool := cl.foldl fxl T
def pts (cl : List Int) (x : Nat) : Nat := cl.foldr (fun l x => setb (lk l) (lb l) x) x

theorem fxl_len {T : List Bool} (l : Int) (hT : T.length = 65536) : (fxl T l).length = 65536 := by
  have := fx_len (lv l) (lb l) 16 T (by rw [hT])
  rw [two16] at this; exact this
theorem fxs_len : ∀ (cl : List Int) {T : List Bool}, T.length = 65536 → (fxs cl T).length = 65536
  | [], _, h => h
  | l :: cl, T, h => fxs_len cl (fxl_len l h)

theorem setb_lt65 {k x : Nat} {b : Bool} (hk : k < 16) (hx : x < 65536) : setb k b x < 65536 := setb_lt (n := 16) hk hx
theorem pts_lt : ∀ {cl : List Int} (h : ∀ l ∈ cl, Lit l) {x : Nat}, x < 65536 → pts cl x < 65536
  | [], _, _, hx => hx
  | l :: cl, h, x, hx => setb_lt65 (h l (by simp)).lk.2 (pts_lt (fun l hl => h l (by simp [hl])) hx)

theorem getD_tl (f : Nat → Bool) {x : Nat} (h : x < 65536) : (tl f).getD x false = f x := by
  rw [List.getD_eq_getElem?_getD, tl_get f h]; rfl

theorem fxs_get : ∀ {cl : List Int} (h : ∀ l ∈ cl, Lit l) {T : List Bool} (hT : T.length = 65536) {x : Nat}, x < 65536 → (fxs cl T).getD x false = T.getD (pts cl x) false
  | [], _, _, _, _, _ => rfl
  | l :: cl, h, T, hT, x, hx => by
    have hl := h l (by simp)
    show (fxs cl (fxl T l)).getD x false = _
    rw [fxs_get (fun l hl => h l (by simp [hl])) (fxl_len l hT) hx]
    have hp := pts_lt (fun l hl => h l (by simp [hl])) hx (cl := cl)
    unfold fxl
    rw [fx_tl hl.lk.1 (lb l) hT hl.lk.2, getD_tl _ hp]
    rfl

theorem setb_id {k : Nat} {b : Bool} {x : Nat} (h : x.testBit k = b) : setb k b x = x := by
  refine Nat.eq_of_testBit_eq fun i => ?_
  rw [setb_bit]
  split
  · rename_i e; rw [e, h]
  · rfl
theorem pts_id : ∀ {cl : List Int} {x : Nat}, (∀ l ∈ cl, lf l x) → pts cl x = x
  | [], _, _ => rfl
  | l :: cl, x, h => by
    show setb (lk l) (lb l) (pts cl x) = x
    rw [pts_id fun l hl => h l (by simp [hl])]
    exact setb_id (h l (by simp))
theorem pts_false : ∀ {cl : List Int} (h : Cl cl) (x : Nat), ∀ l ∈ cl, lf l (pts cl x)
  | [], _, _ => by intro l hl; simp at hl
  | l :: cl, h, x => by
    have hd := h.dif
    rw [List.pairwise_cons] at hd
    intro m hm
    show (setb (lk l) (lb l) (pts cl x)).testBit (lk m) = lb m
    rw [setb_bit]
    rcases List.mem_cons.1 hm with e | e
    · subst e; rw [if_pos rfl]
    · rw [if_neg (fun x => hd.1 m e x.symm)]
      exact pts_false ⟨fun l hl => h.lit l (by simp [hl]), hd.2⟩ x m e

theorem eq_rep {T : List Bool} {n : Nat} (hT : T.length = n) (h : ∀ x, x < n → T.getD x false = false) : T = List.replicate n false := by
  apply List.ext_getElem
  · simp [hT]
  · intro i h1 h2
    have := h i (by omega)
    rw [List.getD_eq_getElem?_getD, List.getElem?_eq_getElem h1] at this
    simp only [Option.getD_some] at this
    rw [this]; simp
theorem rep_get (n x : Nat) : (List.replicate n false).getD x false = false := by
  rw [List.getD_eq_getElem?_getD, List.getElem?_replicate]
  split <;> rfl

/-- All false, with each literal made false: the clause is implied. -/
theorem fxs_false {cl : List Int} (h : Cl cl) {T : List Bool} (hT : T.length = 65536) : fxs cl T = List.replicate 65536 false ↔ Imp T cl := by
  constructor
  · intro e x hx hl
    have := fxs_get h.lit hT hx
    rw [pts_id hl] at this
    rw [← this, e, rep_get]
  · intro hi
    refine eq_rep (fxs_len cl hT) fun x hx => ?_
    rw [fxs_get h.lit hT hx]
    exact hi _ (pts_lt h.lit hx) (pts_false h x)

/-- A least implied clause. -/
def Prime (T : List Bool) (cl : List Int) : Prop := Imp T cl ∧ ∀ i, i < cl.length → ¬ Imp T (cl.eraseIdx i)

open Classical in
noncomputable def impB (T : List Bool) (cl : List Int) : Bool := decide (Imp T cl)
open Classical in
noncomputable def primeB (T : List Bool) (cl : List Int) : Bool := decide (Prime T cl)
theorem impB_iff {T : List Bool} {cl : List Int} : impB T cl = true ↔ Imp T cl := by unfold impB; simp
theorem primeB_iff {T : List Bool} {cl : List Int} : primeB T cl = true ↔ Prime T cl := by unfold primeB; simp

/-- All clauses over variables, as the program meets them. -/
def enum : List Int → List Int → List (List Int)
  | [], cl => [cl]
  | v :: vs, cl => enum vs cl ++ enum vs (cl ++ [v + 1]) ++ enum vs (cl ++ [-v - 1])
/-- A choice of literals. -/
def Sel : List Int → List Int → Prop
  | [], s => s = []
  | v :: vs, s => Sel vs s ∨ (∃ t, s = (v + 1) :: t ∧ Sel vs t) ∨ (∃ t, s = (-v - 1) :: t ∧ Sel vs t)
/-- The clause of a number. -/
def ck : Nat → List Int → List Int
  | _, [] => []
  | k, v :: vs => (if k % 3 = 1 then [v + 1] else if k % 3 = 2 then [-v - 1] else []) ++ ck (k / 3) vs

theorem enum_mem : ∀ (vs p s : List Int), s ∈ enum vs p ↔ ∃ t, s = p ++ t ∧ Sel vs t
  | [], p, s => by
    simp only [enum, Sel, List.mem_singleton]
    exact ⟨fun h => ⟨[], by simp [h], rfl⟩, fun ⟨t, h, e⟩ => by rw [h, e]; simp⟩
  | v :: vs, p, s => by
    simp only [enum, List.mem_append, enum_mem vs]
    constructor
    · rintro ((⟨t, h1, h2⟩ | ⟨t, h1, h2⟩) | ⟨t, h1, h2⟩)
      · exact ⟨t, h1, Or.inl h2⟩
      · exact ⟨(v + 1) :: t, by rw [h1]; simp, Or.inr (Or.inl ⟨t, rfl, h2⟩)⟩
      · exact ⟨(-v - 1) :: t, by rw [h1]; simp, Or.inr (Or.inr ⟨t, rfl, h2⟩)⟩
    · rintro ⟨t, h1, h2 | ⟨t', e, h2⟩ | ⟨t', e, h2⟩⟩
      · exact Or.inl (Or.inl ⟨t, h1, h2⟩)
      · exact Or.inl (Or.inr ⟨t', by rw [h1, e]; simp, h2⟩)
      · exact Or.inr ⟨t', by rw [h1, e]; simp, h2⟩

theorem sel_mem : ∀ {vs s : List Int}, Sel vs s → ∀ l ∈ s, ∃ v ∈ vs, l = v + 1 ∨ l = -v - 1
  | [], s, h, l, hl => by rw [show s = [] from h] at hl; simp at hl
  | v :: vs, s, h, l, hl => by
    rcases h with h | ⟨t, e, h⟩ | ⟨t, e, h⟩
    · obtain ⟨u, hu, e⟩ := sel_mem h l hl
      exact ⟨u, by simp [hu], e⟩
    · rw [e] at hl
      rcases List.mem_cons.1 hl with e2 | e2
      · exact ⟨v, by simp, Or.inl e2⟩
      · obtain ⟨u, hu, e⟩ := sel_mem h l e2
        exact ⟨u, by simp [hu], e⟩
    · rw [e] at hl
      rcases List.mem_cons.1 hl with e2 | e2
      · exact ⟨v, by simp, Or.inr e2⟩
      · obtain ⟨u, hu, e⟩ := sel_mem h l e2
        exact ⟨u, by simp [hu], e⟩

theorem lv_pos {v : Int} (h : 0 ≤ v) : lv (v + 1) = v ∧ lv (-v - 1) = v := by unfold lv; constructor <;> split <;> omega
theorem sel_lv {vs s : List Int} (hv : ∀ v ∈ vs, 0 ≤ v) (h : Sel vs s) : ∀ l ∈ s, lv l ∈ vs := by
  intro l hl
  obtain ⟨v, hm, e⟩ := sel_mem h l hl
  have := lv_pos (hv v hm)
  rcases e with e | e
  · rw [e, this.1]; exact hm
  · rw [e, this.2]; exact hm

/-- Variables: in order, each below 16. -/
structure Vs (vs : List Int) : Prop where
  rng : ∀ v ∈ vs, 0 ≤ v ∧ v < 16
  srt : vs.Pairwise (· < ·)
theorem Vs.tail {v : Int} {vs : List Int} (h : Vs (v :: vs)) : Vs vs := ⟨fun u hu => h.rng u (by simp [hu]), (List.pairwise_cons.1 h.srt).2⟩

theorem kO_inj {u v : Int} (hu : 0 ≤ u ∧ u < 16) (hv : 0 ≤ v ∧ v < 16) (h : kO u = kO v) : u = v := by unfold kO at h; omega

theorem sel_lit {vs s : List Int} (hv : Vs vs) (h : Sel vs s) : ∀ l ∈ s, Lit l := by
  intro l hl
  obtain ⟨v, hm, e⟩ := sel_mem h l hl
  have := hv.rng v hm
  rcases e with e | e <;> (rw [e]; unfold Lit; omega)
theorem sel_cl : ∀ {vs s : List Int} (hv : Vs vs), Sel vs s → Cl s
  | [], s, _, h => by rw [show s = [] from h]; exact ⟨fun l hl => by simp at hl, List.Pairwise.nil⟩
  | v :: vs, s, hv, h => by
    have key : ∀ (l : Int) (t : List Int), (l = v + 1 ∨ l = -v - 1) → Sel vs t → Cl (l :: t) := by
      intro l t hl ht
      have ih := sel_cl hv.tail ht
      have r := hv.rng v (by simp)
      have el : lv l = v := by rcases hl with e | e <;> (rw [e]; have := lv_pos r.1; first | exact this.1 | exact this.2)
      refine ⟨fun m hm => ?_, List.pairwise_cons.2 ⟨fun m hm e => ?_, ih.dif⟩⟩
      · rcases List.mem_cons.1 hm with e | e
        · rw [e]; rcases hl with e | e <;> (rw [e]; unfold Lit; omega)
        · exact ih.lit m e
      · have hm2 := sel_lv (fun u hu => (hv.tail.rng u hu).1) ht m hm
        have e2 : v = lv m := kO_inj r (hv.tail.rng _ hm2) (by rw [← el]; exact e)
        have := (List.pairwise_cons.1 hv.srt).1 _ hm2
        omega
    rcases h with h | ⟨t, e, h⟩ | ⟨t, e, h⟩
    · exact sel_cl hv.tail h
    · rw [e]; exact key _ t (Or.inl rfl) h
    · rw [e]; exact key _ t (Or.inr rfl) h

theorem sel_len : ∀ {vs s : List Int}, Sel vs s → s.length ≤ vs.length
  | [], s, h => by rw [show s = [] from h]; exact Nat.le_refl _
  | v :: vs, s, h => by
    rcases h with h | ⟨t, e, h⟩ | ⟨t, e, h⟩
    · have := sel_len h; simp; omega
    · have := sel_len h; rw [e]; simp; omega
    · have := sel_len h; rw [e]; simp; omega

theorem sel_erase : ∀ {vs s : List Int} (i : Nat), Sel vs s → Sel vs (s.eraseIdx i)
  | [], s, i, h => by rw [show s = [] from h]; rfl
  | v :: vs, s, i, h => by
    rcases h with h | ⟨t, e, h⟩ | ⟨t, e, h⟩
    · exact Or.inl (sel_erase i h)
    · rw [e]
      cases i with
      | zero => exact Or.inl h
      | succ i => exact Or.inr (Or.inl ⟨t.eraseIdx i, rfl, sel_erase i h⟩)
    · rw [e]
      cases i with
      | zero => exact Or.inl h
      | succ i => exact Or.inr (Or.inr ⟨t.eraseIdx i, rfl, sel_erase i h⟩)

theorem ck_sel : ∀ (k : Nat) (vs : List Int), Sel vs (ck k vs)
  | _, [] => rfl
  | k, v :: vs => by
    simp only [ck]
    by_cases h1 : k % 3 = 1
    · rw [if_pos h1]; exact Or.inr (Or.inl ⟨_, rfl, ck_sel _ vs⟩)
    · rw [if_neg h1]
      by_cases h2 : k % 3 = 2
      · rw [if_pos h2]; exact Or.inr (Or.inr ⟨_, rfl, ck_sel _ vs⟩)
      · rw [if_neg h2]; exact Or.inl (ck_sel _ vs)
theorem sel_ck : ∀ {vs s : List Int}, Sel vs s → ∃ k, k < 3 ^ vs.length ∧ s = ck k vs
  | [], s, h => ⟨0, by simp, h⟩
  | v :: vs, s, h => by
    have e3 : 3 ^ (v :: vs).length = 3 * 3 ^ vs.length := by rw [List.length_cons, Nat.pow_succ]; omega
    rw [e3]
    rcases h with h | ⟨t, e, h⟩ | ⟨t, e, h⟩
    · obtain ⟨k, hk, e⟩ := sel_ck h
      refine ⟨3 * k, by omega, ?_⟩
      simp only [ck]
      rw [if_neg (by omega), if_neg (by omega), show 3 * k / 3 = k from by omega]; exact e
    · obtain ⟨k, hk, e2⟩ := sel_ck h
      refine ⟨3 * k + 1, by omega, ?_⟩
      simp only [ck]
      rw [if_pos (by omega), show (3 * k + 1) / 3 = k from by omega, e, e2]; rfl
    · obtain ⟨k, hk, e2⟩ := sel_ck h
      refine ⟨3 * k + 2, by omega, ?_⟩
      simp only [ck]
      rw [if_neg (by omega), if_pos (by omega), show (3 * k + 2) / 3 = k from by omega, e, e2]; rfl

theorem sel_head {v : Int} {vs s t : List Int} {l : Int} (hv : Vs (v :: vs)) (hl : l = v + 1 ∨ l = -v - 1) (h : Sel vs s) : s ≠ l :: t := by
  intro e
  have r := hv.rng v (by simp)
  have el : lv l = v := by rcases hl with e | e <;> (rw [e]; have := lv_pos r.1; first | exact this.1 | exact this.2)
  have := sel_lv (fun u hu => (hv.tail.rng u hu).1) h l (by rw [e]; simp)
  rw [el] at this
  have := (List.pairwise_cons.1 hv.srt).1 _ this
  omega

theorem ck_inj : ∀ {vs : List Int} (hv : Vs vs) {j k : Nat}, j < 3 ^ vs.length → k < 3 ^ vs.length → ck j vs = ck k vs → j = k
  | [], _, j, k, hj, hk, _ => by simp at hj hk; omega
  | v :: vs, hv, j, k, hj, hk, h => by
    have e3 : 3 ^ (v :: vs).length = 3 * 3 ^ vs.length := by rw [List.length_cons, Nat.pow_succ]; omega
    rw [e3] at hj hk
    have r := hv.rng v (by simp)
    have ih : ck (j / 3) vs = ck (k / 3) vs → j / 3 = k / 3 := fun e => ck_inj hv.tail (by omega) (by omega) e
    simp only [ck] at h
    have sj := ck_sel (j / 3) vs
    have sk := ck_sel (k / 3) vs
    generalize ck (j / 3) vs = A at *
    generalize ck (k / 3) vs = C at *
    have cj : j % 3 = 0 ∨ j % 3 = 1 ∨ j % 3 = 2 := by omega
    have ck' : k % 3 = 0 ∨ k % 3 = 1 ∨ k % 3 = 2 := by omega
    rcases cj with a | a | a <;> rcases ck' with b | b | b <;> rw [a, b] at h <;> simp at h
    · have := ih h; omega
    · exact absurd h (sel_head hv (Or.inl rfl) sj)
    · exact absurd h (sel_head hv (Or.inr rfl) sj)
    · exact absurd h.symm (sel_head hv (Or.inl rfl) sk)
    · have := ih h; omega
    · omega
    · exact absurd h.symm (sel_head hv (Or.inr rfl) sk)
    · omega
    · have := ih h; omega

theorem enum_nodup : ∀ {vs : List Int} (hv : Vs vs) (p : List Int), (enum vs p).Nodup
  | [], _, p => by simp [enum]
  | v :: vs, hv, p => by
    have r := hv.rng v (by simp)
    simp only [enum]
    rw [List.nodup_append]
    refine ⟨?_, enum_nodup hv.tail _, ?_⟩
    · rw [List.nodup_append]
      refine ⟨enum_nodup hv.tail _, enum_nodup hv.tail _, ?_⟩
      intro a ha b hb e
      obtain ⟨t, h1, h2⟩ := (enum_mem _ _ _).1 ha
      obtain ⟨u, h3, h4⟩ := (enum_mem _ _ _).1 hb
      rw [h1, h3, List.append_assoc] at e
      exact sel_head hv (Or.inl rfl) h2 (List.append_cancel_left e)
    · intro a ha b hb e
      obtain ⟨u, h3, h4⟩ := (enum_mem _ _ _).1 hb
      rcases List.mem_append.1 ha with ha | ha
      · obtain ⟨t, h1, h2⟩ := (enum_mem _ _ _).1 ha
        rw [h1, h3, List.append_assoc] at e
        exact sel_head hv (Or.inr rfl) h2 (List.append_cancel_left e)
      · obtain ⟨t, h1, h2⟩ := (enum_mem _ _ _).1 ha
        rw [h1, h3, List.append_assoc, List.append_assoc] at e
        have := List.append_cancel_left e
        simp at this
        omega

theorem enum_len : ∀ (vs p : List Int), (enum vs p).length = 3 ^ vs.length
  | [], p => rfl
  | v :: vs, p => by
    simp only [enum, List.length_append, enum_len vs]
    rw [List.length_cons, Nat.pow_succ]; omega

/-- The order of lists. -/
def cmpL : List Int → List Int → Int
  | [], [] => 0
  | [], _ :: _ => -1
  | _ :: _, [] => 1
  | a :: s, b :: t => if a < b then -1 else if b < a then 1 else cmpL s t
def lbf (a b : List Int) : Bool := decide (cmpL a b < 0)

theorem cmpL_self : ∀ a, cmpL a a = 0
  | [] => rfl
  | a :: s => by simp only [cmpL]; rw [if_neg (by omega), if_neg (by omega)]; exact cmpL_self s
theorem cmpL_flip : ∀ a b, cmpL b a = -cmpL a b
  | [], [] => rfl
  | [], _ :: _ => rfl
  | _ :: _, [] => rfl
  | a :: s, b :: t => by
    simp only [cmpL]
    have := cmpL_flip s t
    by_cases h1 : a < b
    · rw [if_neg (by omega), if_pos h1, if_pos h1]; rfl
    · by_cases h2 : b < a
      · rw [if_pos h2, if_neg h1, if_pos h2]
      · rw [if_neg h2, if_neg h1, if_neg h1, if_neg h2]; exact this
theorem cmpL_zero : ∀ {a b}, cmpL a b = 0 → a = b
  | [], [], _ => rfl
  | [], _ :: _, h => by simp [cmpL] at h
  | _ :: _, [], h => by simp [cmpL] at h
  | a :: s, b :: t, h => by
    simp only [cmpL] at h
    by_cases h1 : a < b
    · rw [if_pos h1] at h; omega
    · by_cases h2 : b < a
      · rw [if_neg h1, if_pos h2] at h; omega
      · rw [if_neg h1, if_neg h2] at h
        rw [cmpL_zero h, show a = b from by omega]
theorem cmpL_trans : ∀ {a b c}, cmpL a b < 0 → cmpL b c < 0 → cmpL a c < 0
  | [], [], _, h, _ => by simp [cmpL] at h
  | [], _ :: _, [], _, h => by simp [cmpL] at h
  | [], _ :: _, _ :: _, _, _ => by simp [cmpL]
  | _ :: _, [], _, h, _ => by simp [cmpL] at h
  | _ :: _, _ :: _, [], _, h => by simp [cmpL] at h
  | a :: s, b :: t, c :: u, h, k => by
    simp only [cmpL] at h k ⊢
    by_cases h1 : a < b
    · by_cases k1 : b < c
      · rw [if_pos (by omega)]; omega
      · rw [if_neg k1] at k
        by_cases k2 : c < b
        · rw [if_pos k2] at k; omega
        · rw [if_pos (by omega)]; omega
    · rw [if_neg h1] at h
      by_cases h2 : b < a
      · rw [if_pos h2] at h; omega
      · rw [if_neg h2] at h
        obtain rfl : a = b := by omega
        by_cases k1 : a < c
        · rw [if_pos k1]; omega
        · rw [if_neg k1] at k
          by_cases k2 : c < a
          · rw [if_pos k2] at k; omega
          · rw [if_neg k2] at k
            rw [if_neg k1, if_neg k2]
            exact cmpL_trans h k

theorem lbf_irrefl (a : List Int) : lbf a a = false := by simp [lbf, cmpL_self]
theorem lbf_trans {a b c : List Int} (h : lbf a b = true) (k : lbf b c = true) : lbf a c = true := by
  simp only [lbf, decide_eq_true_eq] at *; exact cmpL_trans h k
theorem lbf_total {a b : List Int} (h : lbf a b = false) (hne : a ≠ b) : lbf b a = true := by
  simp only [lbf, decide_eq_true_eq, decide_eq_false_iff_not] at *
  have := cmpL_flip a b
  have : cmpL a b ≠ 0 := fun e => hne (cmpL_zero e)
  omega
theorem lbf_asymm {a b : List Int} (h : lbf a b = true) : lbf b a = false := by
  simp only [lbf, decide_eq_true_eq, decide_eq_false_iff_not] at *
  have := cmpL_flip a b
  omega

theorem lb_ext : ∀ {l l' : List (List Int)}, l.Pairwise (fun a b => lbf a b = true) → l'.Pairwise (fun a b => lbf a b = true) → (∀ x, x ∈ l ↔ x ∈ l') → l = l'
  | [], [], _, _, _ => rfl
  | [], b :: t, _, _, h => by have := (h b).2 (by simp); simp at this
  | a :: s, [], _, _, h => by have := (h a).1 (by simp); simp at this
  | a :: s, b :: t, h1, h2, h => by
    rw [List.pairwise_cons] at h1 h2
    have e : a = b := by
      rcases List.mem_cons.1 ((h a).1 (by simp)) with e | e
      · exact e
      · rcases List.mem_cons.1 ((h b).2 (by simp)) with e2 | e2
        · exact e2.symm
        · have x := lbf_asymm (h2.1 a e)
          rw [h1.1 b e2] at x; simp at x
    subst e
    congr 1
    refine lb_ext h1.2 h2.2 fun x => ⟨fun hx => ?_, fun hx => ?_⟩
    · rcases List.mem_cons.1 ((h x).1 (List.mem_cons_of_mem _ hx)) with e | e
      · have y := h1.1 x hx; rw [e, lbf_irrefl] at y; simp at y
      · exact e
    · rcases List.mem_cons.1 ((h x).2 (List.mem_cons_of_mem _ hx)) with e | e
      · have y := h2.1 x hx; rw [e, lbf_irrefl] at y; simp at y
      · exact e

/-- In order and without repetition: strictly in order. -/
theorem strict_of : ∀ {l : List (List Int)}, l.Pairwise (fun a b => lbf b a = false) → l.Nodup → l.Pairwise (fun a b => lbf a b = true)
  | [], _, _ => List.Pairwise.nil
  | a :: s, h, hn => by
    rw [List.pairwise_cons] at h
    rw [List.nodup_cons] at hn
    exact List.pairwise_cons.2 ⟨fun b hb => lbf_total (h.1 b hb) (fun e => hn.1 (e ▸ hb)), strict_of h.2 hn.2⟩

/-- The least implied clauses over variables, in order. -/
structure PrL (T : List Bool) (vs : List Int) (ls : List (List Int)) : Prop where
  srt : ls.Pairwise fun a b => lbf a b = true
  mem : ∀ s, s ∈ ls ↔ Sel vs s ∧ Prime T s
theorem PrL.uniq {T : List Bool} {vs : List Int} {ls ls' : List (List Int)} (h : PrL T vs ls) (k : PrL T vs ls') : ls = ls' :=
  lb_ext h.srt k.srt fun x => (h.mem x).trans (k.mem x).symm

/-- The program's list, sorted. -/
theorem prl_enum {T : List Bool} {vs : List Int} (hv : Vs vs) {ls : List (List Int)} (hp : ls.Perm ((enum vs []).filter (primeB T))) (hs : ls.Pairwise fun a b => lbf b a = false) : PrL T vs ls := by
  have hn : ls.Nodup := hp.symm.nodup ((enum_nodup hv []).filter _)
  refine ⟨strict_of hs hn, fun s => ?_⟩
  rw [hp.mem_iff, List.mem_filter, enum_mem, primeB_iff]
  simp

/-- The reference's list, on its way. -/
structure PrK (T : List Bool) (vs : List Int) (k : Nat) (ls : List (List Int)) : Prop where
  srt : ls.Pairwise fun a b => lbf a b = true
  mem : ∀ s, s ∈ ls ↔ ∃ j, j < k ∧ s = ck j vs ∧ Prime T s
theorem PrK.nil (T : List Bool) (vs : List Int) : PrK T vs 0 [] := ⟨List.Pairwise.nil, fun s => ⟨fun h => by simp at h, fun ⟨j, h, _⟩ => absurd h (Nat.not_lt_zero _)⟩⟩
theorem PrK.skip {T : List Bool} {vs : List Int} {k : Nat} {ls : List (List Int)} (h : PrK T vs k ls) (hp : ¬ Prime T (ck k vs)) : PrK T vs (k + 1) ls :=
  ⟨h.srt, fun s => (h.mem s).trans ⟨fun ⟨j, a, b⟩ => ⟨j, by omega, b⟩, fun ⟨j, a, b, c⟩ => ⟨j, by
    rcases Nat.lt_or_ge j k with x | x
    · exact x
    · obtain rfl : j = k := by omega
      rw [b] at c; exact absurd c hp, b, c⟩⟩⟩
theorem PrK.add {T : List Bool} {vs : List Int} (hv : Vs vs) {k n : Nat} {ls : List (List Int)} (h : PrK T vs k ls) (hk : k < 3 ^ vs.length) (hp : Prime T (ck k vs)) (hn : n ≤ ls.length)
    (h1 : ∀ i, n ≤ i → i < ls.length → lbf (ck k vs) (ls.getD i []) = true) (h2 : 0 < n → lbf (ck k vs) (ls.getD (n - 1) []) = false) : PrK T vs (k + 1) (ls.take n ++ ck k vs :: ls.drop n) := by
  have hnew : ck k vs ∉ ls := by
    intro hm
    obtain ⟨j, a, b, _⟩ := (h.mem _).1 hm
    have := ck_inj hv (by omega) (by omega) b
    omega
  have hsplit : ls = ls.take n ++ ls.drop n := (List.take_append_drop n ls).symm
  have hs := h.srt
  rw [hsplit, List.pairwise_append] at hs
  obtain ⟨s1, s2, s3⟩ := hs
  have gd : ∀ (x : List Int), x ∈ ls.drop n → lbf (ck k vs) x = true := by
    intro x hx
    obtain ⟨i, hi, rfl⟩ := List.getElem_of_mem hx
    rw [List.getElem_drop]
    have hil : n + i < ls.length := by rw [List.length_drop] at hi; omega
    have := h1 (n + i) (by omega) hil
    rwa [List.getD_eq_getElem?_getD, List.getElem?_eq_getElem hil] at this
  have gt : ∀ (x : List Int), x ∈ ls.take n → lbf x (ck k vs) = true := by
    intro x hx
    obtain ⟨i, hi, rfl⟩ := List.getElem_of_mem hx
    rw [List.getElem_take]
    have hin : i < n := by rw [List.length_take] at hi; omega
    have hil : i < ls.length := by omega
    have q := h2 (by omega)
    have hl : n - 1 < ls.length := by omega
    rw [List.getD_eq_getElem?_getD, List.getElem?_eq_getElem hl] at q
    have q2 : lbf ls[n - 1] (ck k vs) = true := lbf_total q (fun e => hnew (by rw [e]; exact List.getElem_mem hl))
    by_cases e : i = n - 1
    · subst e; exact q2
    · exact lbf_trans (List.pairwise_iff_getElem.1 h.srt i (n - 1) hil hl (by omega)) q2
  refine ⟨List.pairwise_append.2 ⟨s1, List.pairwise_cons.2 ⟨gd, s2⟩, fun x hx y hy => ?_⟩, fun s => ?_⟩
  · rcases List.mem_cons.1 hy with e | e
    · rw [e]; exact gt x hx
    · exact s3 x hx y e
  · have hm : s ∈ ls.take n ++ ck k vs :: ls.drop n ↔ s = ck k vs ∨ s ∈ ls := by
      rw [List.mem_append, List.mem_cons]
      constructor
      · rintro (a | a | a)
        · exact Or.inr (List.mem_of_mem_take a)
        · exact Or.inl a
        · exact Or.inr (List.mem_of_mem_drop a)
      · rintro (a | a)
        · exact Or.inr (Or.inl a)
        · rw [hsplit, List.mem_append] at a
          rcases a with a | a
          · exact Or.inl a
          · exact Or.inr (Or.inr a)
    rw [hm]
    constructor
    · rintro (a | a)
      · exact ⟨k, by omega, a, by rw [a]; exact hp⟩
      · obtain ⟨j, x, y⟩ := (h.mem s).1 a
        exact ⟨j, by omega, y⟩
    · rintro ⟨j, x, y, z⟩
      rcases Nat.lt_or_ge j k with q | q
      · exact Or.inr ((h.mem s).2 ⟨j, q, y, z⟩)
      · obtain rfl : j = k := by omega
        exact Or.inl y
theorem PrK.done {T : List Bool} {vs : List Int} {ls : List (List Int)} (h : PrK T vs (3 ^ vs.length) ls) : PrL T vs ls :=
  ⟨h.srt, fun s => (h.mem s).trans ⟨fun ⟨j, a, b, c⟩ => ⟨by rw [b]; exact ck_sel _ _, c⟩, fun ⟨a, b⟩ => by
    obtain ⟨k, hk, e⟩ := sel_ck a
    exact ⟨k, hk, e, b⟩⟩⟩
end Go.Proofs.Ythhogbligfmpdaa.Bd
