/- Implicates. -/
import Derived.Test.YthhogbligfmpdaaYv
import Derived.Test.YthhogbligfmpdaaYw
set_option linter.unusedVariables false
set_option linter.unusedSimpArgs false
namespace Go.Proofs.Ythhogbligfmpdaa
open Go.RowKit Bd

section
variable {B : TB} {T : List Bool} {vs : List Int} {va : Option Addr} {vc : Nat} {root : Int}
theorem try_any (hv8 : vs.length ≤ 8) (hvs : Vs vs) (m : Nat) : ∀ i : Nat, m + i = vs.length → TrCalls B T vs va vc root i (3 ^ m) (i : Int) := by
  induction m with
  | zero =>
    intro i hi w M ns dn S ov ls cl v pre
    obtain rfl : i = vs.length := by omega
    have e : vs.drop vs.length = [] := List.drop_of_length_le (Nat.le_refl _)
    have hs := pre.sel [] (by rw [e]; rfl)
    rw [List.append_nil] at hs
    have L := sel_len hs
    have := try_leaf pre.ts pre.cf (sel_cl hvs hs) (by omega) hv8 (by have := pre.sz; omega) (by have := pre.ll; omega)
    rw [e]
    exact this
  | succ m ih =>
    intro i hi
    have h1 := ih (i + 1) (by omega)
    rw [cast_succ] at h1
    have := try_step hv8 hvs.rng (i := i) (p := 3 ^ m) (by omega) (by rw [show vs.length - (i + 1) = m from by omega]) h1
    rw [Nat.pow_succ, Nat.mul_comm]
    exact this
end

/-- The least implied clauses, in order. -/
noncomputable def prs (T : List Bool) (vs : List Int) : List (List Int) := ((enum vs []).filter (primeB T)).mergeSort fun a b => !lbf b a
theorem prs_prl {T : List Bool} {vs : List Int} (hv : Vs vs) : PrL T vs (prs T vs) := by
  have hs := List.pairwise_mergeSort (le := fun a b => !lbf b a) (fun a b c h1 h2 => by
    simp only [Bool.not_eq_true'] at *
    cases h : lbf c a
    · rfl
    · by_cases e : b = a
      · subst e; rw [h] at h2; simp at h2
      · have := lbf_trans h (lbf_total h1 e)
        rw [this] at h2; simp at h2) (fun a b => by
    cases h1 : lbf b a
    · rfl
    · rw [lbf_asymm h1]; rfl) ((enum vs []).filter (primeB T))
  exact prl_enum hv (List.mergeSort_perm _ _) (hs.imp fun h => by simpa using h)
theorem prs_len {T : List Bool} {vs : List Int} : (prs T vs).length = ((enum vs []).filter (primeB T)).length := List.length_mergeSort _
theorem sup_vs (ds : List Nd) : Vs (sup ds) := ⟨fun v hv => by have := sup_mem.1 hv; exact ⟨this.1, this.2.1⟩, sup_sorted ds⟩

/-- What Implicates returns. -/
noncomputable def icE (ds : List Nd) (r : Int) : Int := if chk ds r ≠ 0 then chk ds r else if 8 < (sup ds).length ∨ 500 < (prs (tb ds 16 r) (sup ds)).length then 3 else 0
noncomputable def icL (ds : List Nd) (r : Int) : List (List Int) := if icE ds r = 0 then prs (tb ds 16 r) (sup ds) else []
/-- Lists and an error. -/
def LqPost (w : World) (ls : List (List Int)) (er : Int) (e : Ending) (w' : World) : Prop :=
  ∃ a cap, e = .returned (.tuple #[.slice a ls.length cap, .int .i64 er]) ∧ LAt w' ls a ∧ Below w.heap.size w w'
theorem lq_bad {w w' : World} {ds : List Nd} {r er : Int} (he : icE ds r = er) (hne : er ≠ 0) (hb : Below w.heap.size w w') : LqPost w (icL ds r) (icE ds r) (.returned (.tuple #[.slice none 0 0, .int .i64 er])) w' := by
  have : icL ds r = [] := by unfold icL; rw [he, if_neg hne]
  rw [this, he]
  exact ⟨none, 0, rfl, lAt_nil _ _, hb⟩

def ptr (b : Nat) : Value := .pointer (some ⟨b, 0, none⟩)
/-- The closure's memory at its start. -/
theorem t_start {A4 w5 w7 W : World} {M : ML} {ns7 : List Nd} {dn7 : List (Nd × Int)} {r7 : Int} {v7 : Value} {T : List Bool} {vs : List Int} {la : Option Addr} {lc bv : Nat} (cv : A4.heap[bv]? = some (.cells #[.slice la vs.length lc] 53 (0, 0))) (vi : IAt A4 vs la)
    (m5 : Mid A4 w5 M) (st5 : ∀ k, M.foot k → k < w5.heap.size) (st7 : St w7 { M with v := v7 } ns7 dn7) (sp7 : Step (w5.alloc (.cells #[.pointer (some ⟨M.b, 0, none⟩)] 64)) M w7 { M with v := v7 }) (rf : Ref ns7 r7) (tb7 : Tab ns7 r7 (fnT T))
    (hW : W = ((w7.alloc (.cells #[.int .i64 r7] 3)).alloc (.cells #[.slice none 0 0] 44)).alloc (.cells #[.func (.func 72) #[] #[.pointer (some ⟨bv, 0, none⟩), .pointer (some ⟨w7.heap.size + 1 + 1, 0, none⟩), .pointer (some ⟨w5.heap.size, 0, none⟩), .pointer (some ⟨w7.heap.size, 0, none⟩), .pointer (some ⟨w7.heap.size + 1, 0, none⟩)]] 94)) :
    ∃ B : TB, B.bv = bv ∧ B.bt = w7.heap.size + 1 + 1 ∧ B.bm = w5.heap.size ∧ B.br = w7.heap.size ∧ B.bo = w7.heap.size + 1 ∧ TS B T vs la lc r7 W { M with v := v7 } ns7 dn7 (fun _ => False) (.slice none 0 0) [] ∧ Mid A4 W { M with v := v7 } := by
  obtain ⟨x1, x2, x3, x4, x5⟩ := three_new w7 _ _ _ W hW
  have m6 : Mid A4 (w5.alloc (.cells #[.pointer (some ⟨M.b, 0, none⟩)] 64)) M := m5.step (Step.alloc _ _ _)
  have m7 := m6.step sp7
  have mW := m7.step (Step.of_below _ x5)
  have z5 : w5.heap.size + 1 ≤ w7.heap.size := by have := sp7.size; simpa using this
  have nb : ¬ M.foot w5.heap.size := fun h => absurd (st5 _ h) (by omega)
  have hbv := lt_of_some cv
  have a5 : A4.heap.size ≤ w5.heap.size := m5.bel.size
  have f7 : ∀ k, ({ M with v := v7 } : ML).foot k → k < w7.heap.size := fun k hk => st7.mgr.lt hk
  have nf5 : ¬ ({ M with v := v7 } : ML).foot w5.heap.size := fun h => by
    rcases (sp7.fst (bm := 0)).foot h with e | e
    · exact nb e
    · simp at e; omega
  have cm7 : w7.heap[w5.heap.size]? = some (.cells #[.pointer (some ⟨M.b, 0, none⟩)] 64 (0, 0)) := (sp7.keep _ (by simp) nb).trans (heap_alloc_new w5 _)
  refine ⟨⟨bv, w7.heap.size + 1 + 1, w5.heap.size, w7.heap.size, w7.heap.size + 1⟩, rfl, rfl, rfl, rfl, rfl, ⟨(mW.bel.block bv hbv).trans cv, x3, (x5.block w5.heap.size (by omega)).trans cm7, x1, x2, vi.below mW.bel, fun hne k o e => ?_, st7.below x5, rf, tb7, ⟨[], OL.nil W⟩, fun k hk hf => ?_, ⟨fun h => ?_, fun h => h⟩, fun k h => h.elim⟩, mW⟩
  · obtain ⟨b', o', e', d'⟩ := vi hne
    have : b' < A4.heap.size := lt_of_cell (d' 0 (List.length_pos_iff.2 hne))
    rw [e] at e'
    injection e' with e'
    injection e' with e1 e2
    have := mW.bel.size
    omega
  · rcases hf with h | h | h
    · have h1 := f7 k h
      have h2 := mW.ft k h
      rcases hk with e | e | e | e | ⟨hne, o, e⟩
      · simp only at e; omega
      · simp only at e; omega
      · simp only at e; subst e; exact nf5 h
      · simp only at e; omega
      · obtain ⟨b', o', e', d'⟩ := vi hne
        have : b' < A4.heap.size := lt_of_cell (d' 0 (List.length_pos_iff.2 hne))
        rw [e] at e'
        injection e' with e'
        injection e' with e1 e2
        omega
    · exact h
    · simp only at h
      rcases hk with e | e | e | e | ⟨hne, o, e⟩
      · simp only at e; omega
      · simp only at e; omega
      · simp only at e; omega
      · simp only at e; omega
      · obtain ⟨b', o', e', d'⟩ := vi hne
        have : b' < A4.heap.size := lt_of_cell (d' 0 (List.length_pos_iff.2 hne))
        rw [e] at e'
        injection e' with e'
        injection e' with e1 e2
        omega
  · have := f7 _ h; simp only at this; omega

theorem sort_none (p : Option Addr) (cap : Nat) (fv : Value) (w : World) : Calls Try.prog 75 #[.slice p 0 cap, fv] w fun e w' => e = .returned (.tuple #[]) ∧ w' = w := AnyF.slices_SortFunc_none { Try.sortF with } p cap fv w

/-- The sort, at any number of lists. -/
def SpPost (w : World) (S : Nat → Prop) (a : Option Addr) (ls : List (List Int)) (e : Ending) (w' : World) : Prop :=
  e = .returned (.tuple #[]) ∧ ∃ ls', ls'.Perm ls ∧ ls'.Pairwise (fun a b => lbf b a = false) ∧ LAt w' ls' a ∧ FSp w S w' S
theorem sort_out {S : Nat → Prop} {w : World} {a : Option Addr} {n cap : Nat} {ls : List (List Int)} {vals : List Value} (h : OL S w (.slice a n cap) ls vals) (hl : ls.length ≤ 1000000) (hs : ∀ l ∈ ls, l.length ≤ 1000000) (hn : ls.length = n) :
    Calls Try.prog 75 #[.slice a n cap, .func (.func 76) #[] #[]] w (SpPost w S a ls) := by
  by_cases h0 : ls = []
  · subst h0 hn
    refine (sort_none a cap _ w).mono ?_
    rintro e w' ⟨rfl, rfl⟩
    exact ⟨rfl, [], List.Perm.refl _, List.Pairwise.nil, lAt_nil _ _, FSp.refl _ _⟩
  · rcases h.row.2 with ⟨h1, h2⟩ | ⟨g, cap', cur, hv, _⟩
    · exact absurd (List.length_eq_zero_iff.1 h2) h0
    · injection hv with e1 e2 e3
      subst e1
      refine (sort_lists h hl hs hn).mono ?_
      rintro e w' ⟨rfl, ls', p1, p2, p3, p4⟩
      exact ⟨rfl, ls', p1, p2, p3, p4.os, p4.tape, p4.output, p4.size, fun k hk hf => p4.block k hk (fun e => by injection e with e; subst e; exact hf (h.rs _ rfl)), fun k h => Or.inl h⟩

set_option maxRecDepth 100000 in
set_option maxHeartbeats 2000000 in
theorem implicates_any {w : World} {ds : List Nd} {a : Option Addr} {n cap : Nat} {root : Int} (hd : DAt w ds a) (hn : ds.length = n) (hl : n ≤ 9223372036854775807) :
    Calls Try.prog 38 #[.agg #[.slice a n cap, .int .i64 root]] w (LqPost w (icL ds root) (icE ds root)) := by
  have B1 : Hid (Below w.heap.size w (w.alloc (.cells #[.slice a n cap, .int .i64 root] 27))) := (Below.refl _ _).alloc (Nat.le_refl _) _
  have S1 : Hid ((w.alloc (.cells #[.slice a n cap, .int .i64 root] 27)).heap.size = w.heap.size + 1) := by show _ = _; simp
  have X : Hid ((w.alloc (.cells #[.slice a n cap, .int .i64 root] 27)).heap[w.heap.size]? = some (.cells #[.slice a n cap, .int .i64 root] 27 (0, 0))) := heap_alloc_new w _
  have CK := Lib.hid (check_any (cap := cap) (root := root) (hd.below B1.out) hn hl)
  have HD := Lib.hid hd; clear hd
  have HN := Lib.hid hn; clear hn
  go_enter Try.func38, Try.ntmps38
  go_wp2_with fail
  generalize w.alloc (.cells #[.slice a n cap, .int .i64 root] 27) = w1 at *
  refine CK.out.mono ?_
  clear CK
  rintro e w2 ⟨rfl, bl2⟩
  have B2 := Lib.hid (Below.over B1.out B1.out.size bl2)
  have P2 := Lib.hid ((bl2.block w.heap.size (by rw [S1.out]; omega)).trans X.out)
  have z2 : w.heap.size + 1 ≤ w2.heap.size := by have := bl2.size; rw [S1.out] at this; exact this
  clear bl2 B1 S1 X
  obtain ⟨y0, y1, _⟩ := cells2 P2.out
  obtain ⟨ck, hck⟩ : ∃ ck, chk ds root = ck := ⟨_, rfl⟩
  rw [hck]
  have HCK := Lib.hid hck; clear hck
  by_cases hc : ck = 0
  · subst hc
    have hn2 : n ≤ 2000 := by obtain ⟨q1, _⟩ := chk_zero HCK.out; rw [HN.out] at q1; exact q1
    have SU := Lib.hid (support_any (cap := cap) (root := root) (HD.out.below B2.out) HN.out hn2 (chk_vars HCK.out))
    go_wp2_with fail
    refine SU.out.mono ?_
    clear y0 y1 SU
    rintro e w3 ⟨la, lc, rfl, ia, bl3⟩
    have I3 := Lib.hid ia; clear ia
    have B3 := Lib.hid (Below.over B2.out B2.out.size bl3)
    have P3 := Lib.hid ((bl3.block w.heap.size (by omega)).trans P2.out)
    have z3 : w.heap.size + 1 ≤ w3.heap.size := by have := bl3.size; omega
    clear bl3 P2 B2 z2
    have C4 := Lib.hid (heap_alloc_new w3 (.cells #[.slice la (sup ds).length lc] 53))
    have B4 : Hid (Below w3.heap.size w3 (w3.alloc (.cells #[.slice la (sup ds).length lc] 53))) := (Below.refl _ w3).alloc (Nat.le_refl _) _
    have S4 : (w3.alloc (.cells #[.slice la (sup ds).length lc] 53)).heap.size = w3.heap.size + 1 := by simp
    obtain ⟨nv, hnv⟩ : ∃ nv, (sup ds).length = nv := ⟨_, rfl⟩
    have HNV := Lib.hid hnv
    have nv16 : nv ≤ 16 := by rw [← hnv]; exact sup_le ds
    rw [hnv]
    rw [hnv] at C4 B4 S4
    clear hnv
    by_cases h8 : 8 < nv
    · have E : Hid (icE ds root = 3) := by show _ = _; unfold icE; rw [if_neg (by rw [HCK.out]; simp), if_pos (Or.inl (by rw [HNV.out]; exact h8))]
      have i8 : (8 : Int) < (nv : Int) := by omega
      go_wp2_with fail
      go_ret2
      exact lq_bad E.out (by omega) (Below.over B3.out B3.out.size B4.out)
    · have i8 : ¬ ((8 : Int) < (nv : Int)) := by omega
      go_wp2_with fail
      generalize w3.alloc (.cells #[.slice la nv lc] 53) = A4 at *
      refine (new_any A4).mono ?_
      rintro e w5 ⟨M, rfl, st5, bl5, ft5⟩
      have ST5 := Lib.hid st5; clear st5
      have M5 : Hid (Mid A4 w5 M) := ⟨bl5, ft5⟩
      have z5 : A4.heap.size ≤ w5.heap.size := bl5.size
      clear bl5 ft5
      have P5 := Lib.hid ((M5.out.bel.block w.heap.size (by omega)).trans ((B4.out.block _ (by omega)).trans P3.out))
      have C6 := Lib.hid (heap_alloc_new w5 (.cells #[.pointer (some ⟨M.b, 0, none⟩)] 64))
      have B6 : Hid (Below w5.heap.size w5 (w5.alloc (.cells #[.pointer (some ⟨M.b, 0, none⟩)] 64))) := (Below.refl _ w5).alloc (Nat.le_refl _) _
      have ST6 := Lib.hid (ST5.out.alloc (.cells #[.pointer (some ⟨M.b, 0, none⟩)] 64))
      have M6 : Hid (Mid A4 (w5.alloc (.cells #[.pointer (some ⟨M.b, 0, none⟩)] 64)) M) := M5.out.step (Step.alloc _ _ _)
      have z6 : (w5.alloc (.cells #[.pointer (some ⟨M.b, 0, none⟩)] 64)).heap.size = w5.heap.size + 1 := by simp
      have P6 := Lib.hid ((B6.out.block w.heap.size (by omega)).trans P5.out)
      have D6 := Lib.hid (((HD.out.below B3.out).below B4.out).below M6.out.bel)
      have F6 := Lib.hid (((HD.out.below B3.out).below B4.out).far M6.out (Nat.le_refl _))
      obtain ⟨OD, RF⟩ : Hid (Ord ds) ∧ Hid (Ref ds root) := by obtain ⟨_, q2, q3, _⟩ := chk_zero HCK.out; exact ⟨q2, q3⟩
      obtain ⟨w6, hw6⟩ : ∃ W, w5.alloc (.cells #[.pointer (some ⟨M.b, 0, none⟩)] 64) = W := ⟨_, rfl⟩
      obtain ⟨y0, y1, _⟩ := cells2 P6.out
      have y2 := (one_cell C6.out).1
      go_upto_region 8 with fail
      rw [hw6] at y0 y1 y2
      rw [hw6] at ST6 M6 D6
      have HW6 := Lib.hid hw6
      have s6 : w6.heap.size = w5.heap.size + 1 := by rw [← hw6]; exact z6
      clear hw6 P6 C6 B6 z6
      go_wp2_with fail
      refine (add_any (cap := cap) ST6.out D6.out F6.out OD.out RF.out HN.out hn2 (by simp)).mono ?_
      clear y0 y1 y2
      rintro e w7 ⟨ns7, r7, dn7, v7, rfl, ext7, rf7, tb7, st7, sp7⟩
      have L7 : ns7.length ≤ 2000 := by
        obtain ⟨ms, e1, e2⟩ := ext7
        rw [e1]; simp; omega
      have ST7 := Lib.hid st7
      have TB7 := Lib.hid tb7
      have RF7 := Lib.hid rf7
      have SP7 := Lib.hid sp7
      clear ext7 sp7 st7 tb7 rf7
      rw [← HW6.out] at SP7
      have z7 : w5.heap.size + 1 ≤ w7.heap.size := by have := SP7.out.size; simpa using this
      have C4' : Hid (A4.heap[w3.heap.size]? = some (.cells #[.slice la (sup ds).length lc] 53 (0, 0))) := by show _ = _; rw [HNV.out]; exact C4.out
      go_upto_region 12 with fail
      obtain ⟨B, e1, e2, e3, e4, e5, ts, mid⟩ := t_start (T := tb ds 16 root) (r7 := r7) C4'.out (I3.out.below B4.out) M5.out (fun k hk => ST5.out.mgr.lt hk) ST7.out SP7.out RF7.out TB7.out rfl
      have CT := try_any (B := B) (T := tb ds 16 root) (va := la) (vc := lc) (root := r7) (by rw [HNV.out]; omega) (sup_vs ds) (sup ds).length 0 (by omega) _ _ _ _ _ _ _ [] (.slice none 0 0) ⟨ts, CF.nil _ _, fun t ht => ht, by simp, by rw [HNV.out]; have : 3 ^ nv ≤ 3 ^ 8 := Nat.pow_le_pow_right (by omega) (by omega); omega, by rw [HNV.out]; have : 3 ^ nv ≤ 3 ^ 8 := Nat.pow_le_pow_right (by omega) (by omega); simp; omega⟩
      have f0 := (one_cell ts.ct).1
      unfold TB.caps at f0
      have g0 := (one_cell ts.co).1
      rw [e1, e2, e3, e4, e5] at f0
      rw [e1, e2, e3, e4, e5] at CT
      rw [List.nil_append, List.drop_zero, show ((0 : Nat) : Int) = 0 from rfl] at CT
      have TSH := Lib.hid ts; clear ts
      have MID := Lib.hid mid; clear mid
      have CTH := Lib.hid CT; clear CT
      have E5 := Lib.hid e5
      clear g0 e1 e2 e3 e4 e5
      generalize ((w7.alloc (.cells #[.int .i64 r7] 3)).alloc (.cells #[.slice none 0 0] 44)).alloc (.cells #[.func (.func 72) #[] #[.pointer (some ⟨w3.heap.size, 0, none⟩), .pointer (some ⟨w7.heap.size + 1 + 1, 0, none⟩), .pointer (some ⟨w5.heap.size, 0, none⟩), .pointer (some ⟨w7.heap.size, 0, none⟩), .pointer (some ⟨w7.heap.size + 1, 0, none⟩)]] 94) = W at *
      have BW : Hid (Below w.heap.size w W) := Below.over (Below.over B3.out B3.out.size B4.out) (Below.over B3.out B3.out.size B4.out).size MID.out.bel
      have NF : Hid (∀ k, k < w.heap.size → ¬ Fo { M with v := v7 } (fun _ => False) B.bo k) := by
        rintro k hk (h | h | h)
        · have := MID.out.ft k h; omega
        · exact h
        · rw [E5.out] at h; omega
      have LSM : Hid (∀ l ∈ (enum (sup ds) []).filter (primeB (tb ds 16 root)), l.length ≤ 1000000) := fun l hm => by
        obtain ⟨t, e1, e2⟩ := (enum_mem _ _ _).1 (List.mem_filter.1 hm).1
        have := sel_len e2
        rw [e1, List.nil_append]; rw [HNV.out] at this; omega
      have PLN := Lib.hid (prs_len (T := tb ds 16 root) (vs := sup ds))
      have PRL : Hid (∀ ls', ls'.Perm ((enum (sup ds) []).filter (primeB (tb ds 16 root))) → ls'.Pairwise (fun a b => lbf b a = false) → ls' = prs (tb ds 16 root) (sup ds)) := fun ls' p1 p2 => (prl_enum (sup_vs ds) p1 p2).uniq (prs_prl (sup_vs ds))
      generalize (enum (sup ds) []).filter (primeB (tb ds 16 root)) = LF at *
      go_wp2_with fail
      refine CTH.out.mono ?_
      clear CTH f0
      rintro e w8 ⟨v8, ns8, dn8, S8, ov8, rfl, t8, f8, l8⟩
      obtain ⟨vals, ol⟩ := t8.out
      obtain ⟨oa, oc, rfl⟩ := ol.form
      have z0 := (one_cell t8.co).1
      have NS : Hid (¬ S8 B.bo) := t8.fo.2
      have z8 : B.bo < w8.heap.size := lt_of_some t8.co
      rw [E5.out] at z0
      have OLH := Lib.hid ol; clear ol
      have F8 := Lib.hid f8; clear f8 t8 l8
      have B8 : Hid (Below w.heap.size w w8) := ⟨F8.out.os.trans BW.out.os, F8.out.tape.trans BW.out.tape, F8.out.output.trans BW.out.output, Nat.le_trans BW.out.size F8.out.size, fun k hk => (F8.out.keep k (Nat.lt_of_lt_of_le hk BW.out.size) (NF.out k hk)).trans (BW.out.block k hk)⟩
      have N8 : Hid (∀ k, k < w.heap.size → ¬ S8 k) := fun k hk h => by
        rcases F8.out.loc k (Or.inr (Or.inl h)) with x | x
        · exact NF.out k hk x
        · have := BW.out.size; omega
      obtain ⟨nl, hnl⟩ : ∃ nl, LF.length = nl := ⟨_, rfl⟩
      have HNL := Lib.hid hnl
      rw [hnl] at z0 PLN
      by_cases h5 : 500 < nl
      · have E : Hid (icE ds root = 3) := by show _ = _; unfold icE; rw [if_neg (by rw [HCK.out]; simp), if_pos (Or.inr (by rw [PLN.out]; exact h5))]
        have i5 : (500 : Int) < (nl : Int) := by omega
        clear hnl
        go_wp2_with fail
        go_ret2
        exact lq_bad E.out (by omega) B8.out
      · have E : Hid (icE ds root = 0) := by show _ = _; unfold icE; rw [if_neg (by rw [HCK.out]; simp), if_neg (by rw [PLN.out, HNV.out]; omega)]
        have EL : Hid (icL ds root = prs (tb ds 16 root) (sup ds)) := by show _ = _; unfold icL; rw [if_pos E.out]
        have i5 : ¬ ((500 : Int) < (nl : Int)) := by omega
        have OLH2 : Hid (OL S8 w8 (.slice oa nl oc) LF vals) := by have := OLH.out; rw [hnl] at this; exact this
        have C75 := Lib.hid (sort_out OLH2.out (by omega) LSM.out hnl)
        clear hnl
        go_wp2_with fail
        refine C75.out.mono ?_
        clear C75
        rintro e w9 ⟨rfl, ls', p1, p2, p3, f9⟩
        have PE := Lib.hid (PRL.out ls' p1 p2)
        have PL : Hid (ls'.length = nl) := p1.length_eq.trans HNL.out
        have P3' := Lib.hid p3
        have F9 := Lib.hid f9
        clear p1 p2 p3 f9
        have z9 : w9.cell? ⟨w7.heap.size + 1, 0, none⟩ = some (.slice oa nl oc) := by
          have h := World.cell?_of_block (a := ⟨B.bo, 0, none⟩) (F9.out.keep B.bo z8 NS.out)
          rw [E5.out] at h
          exact h.trans z0
        have B9 : Hid (Below w.heap.size w w9) := ⟨F9.out.os.trans B8.out.os, F9.out.tape.trans B8.out.tape, F9.out.output.trans B8.out.output, Nat.le_trans B8.out.size F9.out.size, fun k hk => (F9.out.keep k (Nat.lt_of_lt_of_le hk B8.out.size) (N8.out k hk)).trans (B8.out.block k hk)⟩
        clear z0
        go_wp2_with fail
        go_ret2
        rw [EL.out, E.out, ← PE.out]
        exact ⟨oa, oc, by rw [PL.out]; rfl, P3'.out, B9.out⟩
  · have E : Hid (icE ds root = ck) := by show _ = _; unfold icE; rw [HCK.out, if_pos hc]
    have hcb : (ck != 0) = true := by simpa using hc
    have HC := Lib.hid hc; clear hc
    go_wp2_with fail
    go_ret2
    exact lq_bad E.out HC.out B2.out

end Go.Proofs.Ythhogbligfmpdaa
