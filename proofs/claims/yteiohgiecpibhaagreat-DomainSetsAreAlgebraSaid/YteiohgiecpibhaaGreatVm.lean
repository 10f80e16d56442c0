/- The law of the sizes of union and intersection: its call answers true. -/
import Derived.Test.YteiohgiecpibhaaGreatVl
set_option linter.unusedVariables false
set_option linter.unusedSimpArgs false
set_option maxRecDepth 100000
set_option maxHeartbeats 4000000
namespace Go.Proofs.YteiohgiecpibhaaGreat
open Go.RowKit Fdm

theorem chk_ft {X : Dm} (ok : Ok X) (h : ftE X = 0) : chkD X = 0 := by
  unfold ftE at h
  by_cases h0 : X.length = 0
  · rw [if_pos h0] at h; simp at h
  · rw [if_neg h0] at h
    by_cases h1 : 256 < X.length
    · rw [if_pos h1] at h; simp at h
    · unfold chkD; rw [if_neg h1, if_neg h0]; exact spansTo_ok ok _ (Nat.le_refl _)
theorem ft_cases (X : Dm) : ftE X = 0 ∨ ftE X = 3 ∨ (ftE X = 15 ∧ X = []) := by
  unfold ftE
  by_cases h0 : X.length = 0
  · rw [if_pos h0]; exact .inr (.inr ⟨rfl, List.length_eq_zero_iff.1 h0⟩)
  · rw [if_neg h0]
    by_cases h1 : 256 < X.length
    · rw [if_pos h1]; exact .inr (.inl rfl)
    · rw [if_neg h1]; exact .inl rfl
theorem ft_ne {X : Dm} (h : ftE X = 0) : X ≠ [] := by
  rintro rfl; simp [ftE] at h
theorem ftD_ok {X : Dm} (h : ftE X = 0) : ftD X = X := if_pos h
theorem ftD_no {X : Dm} (h : ftE X ≠ 0) : ftD X = [] := if_neg h
theorem chk_nil : chkD [] = 15 := rfl
/-- What the law asks of the three. -/
structure AlgP (a b : Dm) (v : Int) : Prop where
  okJ : Ok (joinF a b)
  okM : Ok (meetF a b)
  okN : Ok (minusF a b)
  add : sizeF (joinF a b) + sizeF (meetF a b) = sizeF a + sizeF b
  sub : sizeF (minusF a b) + sizeF (meetF a b) = sizeF a
  zM : 0 ≤ sizeF (meetF a b) ∧ (sizeF (meetF a b) = 0 ↔ meetF a b = [])
  zN : 0 ≤ sizeF (minusF a b) ∧ (sizeF (minusF a b) = 0 ↔ minusF a b = [])
  zJ : 0 ≤ sizeF (joinF a b)
  pa : 0 < sizeF a ∧ sizeF a ≤ 40000
  pb : 0 < sizeF b ∧ sizeF b ≤ 40000
  mJ : memF (joinF a b) v = (memF a v || memF b v)
  mM : memF (meetF a b) v = (memF a v && memF b v)
  mN : memF (minusF a b) v = (memF a v && !memF b v)
  nJ : ftE (joinF a b) ≠ 15
theorem size_pos {d : Dm} (ok : Ok d) : 0 ≤ sizeF d := by
  rw [← vals_len (ok_nr ok).1]; exact Int.natCast_nonneg _
theorem size_up {d : Dm} (ok : Ok d) : sizeF d ≤ 40000 := by
  rw [← vals_len (ok_nr ok).1]; have := vals_short ok; omega
theorem alg {a b : Dm} (v : Int) (h : chkD a = 0) (k : chkD b = 0) : AlgP a b v := by
  have oa := (ok_of_chk h).1
  have ob := (ok_of_chk k).1
  have J := opJ h k
  have M := meet_ok oa ob
  have N := minus_ok oa ob
  have inr : ∀ {d : Dm}, Ok d → ∀ x, memF d x = true → InR x := fun o x q => ⟨nr_mem (ok_nr o).1 q, up_mem (ok_nr o).2 q⟩
  have ej : ∀ x, memF (joinF a b) x = true ↔ memF a x = true ∨ memF b x = true := fun x => by
    by_cases hx : InR x
    · rw [J.2 x hx]; show (memF a x || memF b x) = true ↔ _; rw [Bool.or_eq_true]
    · exact ⟨fun q => absurd (inr J.1 x q) hx, fun q => q.elim (fun q => absurd (inr oa x q) hx) (fun q => absurd (inr ob x q) hx)⟩
  have pz : ∀ {d : Dm}, chkD d = 0 → 0 < sizeF d := fun {d} q => by
    have o := ok_of_chk q
    have z := size_pos o.1
    rcases Int.lt_or_eq_of_le z with z | z
    · exact z
    · exact absurd ((size_nil_iff (ok_nr o.1).1).1 z.symm) (List.length_pos_iff.1 o.2.2)
  refine ⟨J.1, M.1, N.1, sizes_add oa ob J.1 M.1 ej M.2, sizes_sub oa N.1 M.1 N.2 M.2, ⟨size_pos M.1, size_nil_iff (ok_nr M.1).1⟩, ⟨size_pos N.1, size_nil_iff (ok_nr N.1).1⟩, size_pos J.1, ⟨pz h, size_up oa⟩, ⟨pz k, size_up ob⟩, ?_, ?_, ?_, fun q => ?_⟩
  · have := ej v; cases x : memF (joinF a b) v <;> cases y : memF a v <;> cases z : memF b v <;> simp_all
  · have := M.2 v; cases x : memF (meetF a b) v <;> cases y : memF a v <;> cases z : memF b v <;> simp_all
  · have := N.2 v; cases x : memF (minusF a b) v <;> cases y : memF a v <;> cases z : memF b v <;> simp_all
  · rcases ft_cases (joinF a b) with e | e | ⟨_, e⟩
    · rw [e] at q; simp at q
    · rw [e] at q; simp at q
    · have z := sizes_add oa ob J.1 M.1 ej M.2
      have s2 := sizes_sub oa N.1 M.1 N.2 M.2
      have := size_pos N.1
      have := pz k
      rw [e] at z
      have : sizeF ([] : Dm) = 0 := rfl
      omega
/-- Size and Has of a set without fault. -/
theorem sz_ok {w : World} {X : Dm} {a : Option Addr} {n c : Nat} {z : Int} (h : DmS w X a n c) (k : chkD X = 0) (hz : sizeF X = z) : Calls Tryz.prog 20 #[.slice a n c] w fun e w' => e = .returned (.tuple #[.int .i64 z, .int .i64 0]) ∧ Below w.heap.size w w' := by
  have q := size20_any h; rw [if_pos k, k, hz] at q; exact q
theorem hs_ok {w : World} {X : Dm} {a : Option Addr} {n c : Nat} {v : Int} {z : Bool} (h : DmS w X a n c) (k : chkD X = 0) (hz : memF X v = z) : Calls Tryz.prog 21 #[.slice a n c, .int .i64 v] w fun e w' => e = .returned (.tuple #[.bool z, .int .i64 0]) ∧ Below w.heap.size w w' := by
  have q := has21_any v h; rw [decide_eq_true k, Bool.true_and, k, hz] at q; exact q
theorem hs_nil {w : World} {a : Option Addr} {n c : Nat} {v : Int} (h : DmS w [] a n c) : Calls Tryz.prog 21 #[.slice a n c, .int .i64 v] w fun e w' => e = .returned (.tuple #[.bool false, .int .i64 15]) ∧ Below w.heap.size w w' := by
  have q := has21_any v h; rw [chk_nil] at q; exact q
theorem sz_bad {w : World} {X : Dm} {a : Option Addr} {n c : Nat} {z : Int} (h : DmS w X a n c) (k : chkD X = z) (h0 : z ≠ 0) : Calls Tryz.prog 20 #[.slice a n c] w fun e w' => e = .returned (.tuple #[.int .i64 0, .int .i64 z]) ∧ Below w.heap.size w w' := by
  have q := size20_any h; rw [if_neg (by rw [k]; exact h0), k] at q; exact q
theorem law8_any {w : World} {a b : Dm} {aa ab : Option Addr} {n c m e : Nat} (v : Int) (ha : DmS w a aa n c) (hb : DmS w b ab m e) : Calls Tryz.prog 8 #[.slice aa n c, .slice ab m e, .int .i64 v] w fun e w' => e = .returned (.bool true) ∧ Below w.heap.size w w' := by
  have HA : Hid (∀ W, Below w.heap.size w W → DmS W a aa n c) := Lib.hid fun W h => ha.below h
  have HB : Hid (∀ W, Below w.heap.size w W → DmS W b ab m e) := Lib.hid fun W h => hb.below h
  have LA := Lib.hid labelled_ok
  clear ha hb
  by_cases h1 : chkD a = 0
  · obtain ⟨sa, hsa⟩ : ∃ sa, sizeF a = sa := ⟨_, rfl⟩
    have A20 := Lib.hid (fun W h => sz_ok (HA.out W h) h1 hsa)
    by_cases h2 : chkD b = 0
    · have P := alg v h1 h2
      obtain ⟨sb, hsb⟩ : ∃ sb, sizeF b = sb := ⟨_, rfl⟩
      have B20 := Lib.hid (fun W h => sz_ok (HB.out W h) h2 hsb)
      obtain ⟨pa, hpa⟩ : ∃ pa, memF a v = pa := ⟨_, rfl⟩
      obtain ⟨pb, hpb⟩ : ∃ pb, memF b v = pb := ⟨_, rfl⟩
      have A21 := Lib.hid (fun W h => hs_ok (HA.out W h) h1 hpa)
      have B21 := Lib.hid (fun W h => hs_ok (HB.out W h) h2 hpb)
      have S24 := Lib.hid (fun W h => join24_any (HA.out W h) (HB.out W h))
      have S25 := Lib.hid (fun W h => meet25_any (HA.out W h) (HB.out W h))
      have S26 := Lib.hid (fun W h => minus26_any (HA.out W h) (HB.out W h))
      rw [(bt_ok h1 h2).1, (bt_ok h1 h2).2] at S24 S25 S26
      obtain ⟨mJ, mM, mN⟩ := And.intro P.mJ (And.intro P.mM P.mN)
      rw [hpa, hpb] at mJ mM mN
      have okJ := P.okJ; have okM := P.okM; have okN := P.okN; have nJ := P.nJ
      have add := P.add; have sub := P.sub; have zM := P.zM; have zN := P.zN; have zJ := P.zJ; have spa := P.pa; have spb := P.pb
      clear P h1 h2 hpa hpb HA HB
      generalize joinF a b = J at *
      generalize meetF a b = M at *
      generalize minusF a b = N at *
      obtain ⟨sJ, hsJ⟩ : ∃ sJ, sizeF J = sJ := ⟨_, rfl⟩
      obtain ⟨sM, hsM⟩ : ∃ sM, sizeF M = sM := ⟨_, rfl⟩
      obtain ⟨sN, hsN⟩ : ∃ sN, sizeF N = sN := ⟨_, rfl⟩
      rw [hsJ, hsM, hsa, hsb] at add
      rw [hsN, hsM, hsa] at sub
      rw [hsM] at zM
      rw [hsN] at zN
      rw [hsJ] at zJ
      rw [hsa] at spa
      rw [hsb] at spb
      clear hsa hsb
      rcases ft_cases J with eJ | eJ | ⟨eJ, -⟩
      · have CJ := Lib.hid (chk_ft okJ eJ)
        rw [eJ, ftD_ok eJ] at S24
        have HSJ := Lib.hid hsJ; have MJ := Lib.hid mJ
        have w2 : IntKind.i64.wrap (sa + sb) = sa + sb := wrap_in (by omega) (by omega)
        clear eJ hsJ mJ okJ nJ
        rcases ft_cases M with eM | eM | ⟨eM, eM2⟩
        · have CM := Lib.hid (chk_ft okM eM)
          have sp : 0 < sM := by
            have := ft_ne eM
            rcases Int.lt_or_eq_of_le zM.1 with z | z
            · exact z
            · exact absurd (zM.2.1 z.symm) this
          rw [eM, ftD_ok eM] at S25
          have HSM := Lib.hid hsM; have MM := Lib.hid mM
          have w1 : IntKind.i64.wrap (sJ + sM) = sJ + sM := wrap_in (by omega) (by omega)
          have eq1 : (sJ + sM == sa + sb) = true := by rw [add]; simp
          clear eM hsM mM okM
          rcases ft_cases N with eN | eN | ⟨eN, eN2⟩
          · have CN := Lib.hid (chk_ft okN eN)
            have gt : sM < sa := by
              have := ft_ne eN
              rcases Int.lt_or_eq_of_le zN.1 with z | z
              · omega
              · exact absurd (zN.2.1 z.symm) this
            rw [eN, ftD_ok eN] at S26
            have MN := Lib.hid mN
            clear eN mN okN hsN add sub zM zN zJ spa spb
            cases pa <;> cases pb
            all_goals
              go_enter Tryz.func8, Tryz.ntmps8
              go_upto_region 2 with (go_at_call 20; refine (A20.out _ (Below.refl _ _)).mono ?_; rintro e w2 ⟨rfl, hb⟩; have B2 := Lib.hid hb; clear hb)
              go_upto_region 3 with (go_at_call 20; refine (B20.out _ B2.out).mono ?_; rintro e w3 ⟨rfl, hb⟩; have B3 := Lib.hid (over B2.out hb); clear hb)
              go_upto_region 6 with (go_at_call 21; refine (A21.out _ B3.out).mono ?_; rintro e w4 ⟨rfl, hb⟩; have B4 := Lib.hid (over B3.out hb); clear hb)
              go_upto_region 7 with (go_at_call 21; refine (B21.out _ B4.out).mono ?_; rintro e w5 ⟨rfl, hb⟩; have B5 := Lib.hid (over B4.out hb); clear hb)
              go_upto_region 8 with (go_at_call 24; refine (S24.out _ B5.out).mono ?_; rintro e w6 ⟨vv, rfl, hv, hb⟩; obtain ⟨pj, cj, rfl, hs⟩ := hv.s; have Sj := Lib.hid hs; have Tj := Lib.hid (Below.refl w6.heap.size w6); have B6 := Lib.hid (over B5.out hb); clear hv hb hs)
              go_upto_region 11 with (go_at_call 25; refine (S25.out _ B6.out).mono ?_; rintro e w7 ⟨vv, rfl, hv, hb⟩; obtain ⟨pm, cm, rfl, hs⟩ := hv.s; have Sm := Lib.hid hs; have Tj7 := Lib.hid hb; have B7 := Lib.hid (over B6.out hb); clear hv hb hs)
              go_upto_region 17 with (go_at_call 20; refine (sz_ok Sm.out CM.out HSM.out).mono ?_; rintro e w8 ⟨rfl, hb⟩; have M8 := Lib.hid (Sm.out.below hb); have J8 := Lib.hid (over Tj7.out hb); have B8 := Lib.hid (over B7.out hb); clear hb)
              go_upto_region 18 with (go_at_call 21; refine (hs_ok M8.out CM.out MM.out).mono ?_; rintro e w9 ⟨rfl, hb⟩; have J9 := Lib.hid (over J8.out hb); have B9 := Lib.hid (over B8.out hb); clear hb)
              go_upto_region 19 with (go_at_call 20; refine (sz_ok (Sj.out.below J9.out) CJ.out HSJ.out).mono ?_; rintro e wa ⟨rfl, hb⟩; have Ja := Lib.hid (over J9.out hb); have Ba := Lib.hid (over B9.out hb); clear hb)
              go_upto_region 20 with (go_at_call 21; refine (hs_ok (Sj.out.below Ja.out) CJ.out MJ.out).mono ?_; rintro e wc ⟨rfl, hb⟩; have Bc := Lib.hid (over Ba.out hb); clear hb)
              go_upto_region 22 with (go_at_call 26; refine (S26.out _ Bc.out).mono ?_; rintro e wd ⟨vv, rfl, hv, hb⟩; obtain ⟨pn, cn, rfl, hs⟩ := hv.s; have Sn := Lib.hid hs; have Bd := Lib.hid (over Bc.out hb); clear hv hb hs)
              go_upto_region 25 with (go_at_call 21; refine (hs_ok Sn.out CN.out MN.out).mono ?_; rintro e we ⟨rfl, hb⟩; have Be := Lib.hid (over Bd.out hb); clear hb)
              go_wp2_with (go_at_call 14; refine (LA.out _).mono ?_; rintro e wf ⟨rfl, hb⟩; have BL := Lib.hid (over Be.out hb); clear hb)
              go_ret
              exact ⟨rfl, BL.out⟩
          · have ee : ftE N ≠ 0 := by rw [eN]; decide
            rw [ftD_no ee, eN] at S26
            clear eN ee mN okN hsN add sub zM zN zJ spa spb
            cases pa <;> cases pb
            all_goals
              go_enter Tryz.func8, Tryz.ntmps8
              go_upto_region 2 with (go_at_call 20; refine (A20.out _ (Below.refl _ _)).mono ?_; rintro e w2 ⟨rfl, hb⟩; have B2 := Lib.hid hb; clear hb)
              go_upto_region 3 with (go_at_call 20; refine (B20.out _ B2.out).mono ?_; rintro e w3 ⟨rfl, hb⟩; have B3 := Lib.hid (over B2.out hb); clear hb)
              go_upto_region 6 with (go_at_call 21; refine (A21.out _ B3.out).mono ?_; rintro e w4 ⟨rfl, hb⟩; have B4 := Lib.hid (over B3.out hb); clear hb)
              go_upto_region 7 with (go_at_call 21; refine (B21.out _ B4.out).mono ?_; rintro e w5 ⟨rfl, hb⟩; have B5 := Lib.hid (over B4.out hb); clear hb)
              go_upto_region 8 with (go_at_call 24; refine (S24.out _ B5.out).mono ?_; rintro e w6 ⟨vv, rfl, hv, hb⟩; obtain ⟨pj, cj, rfl, hs⟩ := hv.s; have Sj := Lib.hid hs; have Tj := Lib.hid (Below.refl w6.heap.size w6); have B6 := Lib.hid (over B5.out hb); clear hv hb hs)
              go_upto_region 11 with (go_at_call 25; refine (S25.out _ B6.out).mono ?_; rintro e w7 ⟨vv, rfl, hv, hb⟩; obtain ⟨pm, cm, rfl, hs⟩ := hv.s; have Sm := Lib.hid hs; have Tj7 := Lib.hid hb; have B7 := Lib.hid (over B6.out hb); clear hv hb hs)
              go_upto_region 17 with (go_at_call 20; refine (sz_ok Sm.out CM.out HSM.out).mono ?_; rintro e w8 ⟨rfl, hb⟩; have M8 := Lib.hid (Sm.out.below hb); have J8 := Lib.hid (over Tj7.out hb); have B8 := Lib.hid (over B7.out hb); clear hb)
              go_upto_region 18 with (go_at_call 21; refine (hs_ok M8.out CM.out MM.out).mono ?_; rintro e w9 ⟨rfl, hb⟩; have J9 := Lib.hid (over J8.out hb); have B9 := Lib.hid (over B8.out hb); clear hb)
              go_upto_region 19 with (go_at_call 20; refine (sz_ok (Sj.out.below J9.out) CJ.out HSJ.out).mono ?_; rintro e wa ⟨rfl, hb⟩; have Ja := Lib.hid (over J9.out hb); have Ba := Lib.hid (over B9.out hb); clear hb)
              go_upto_region 20 with (go_at_call 21; refine (hs_ok (Sj.out.below Ja.out) CJ.out MJ.out).mono ?_; rintro e wc ⟨rfl, hb⟩; have Bc := Lib.hid (over Ba.out hb); clear hb)
              go_upto_region 22 with (go_at_call 26; refine (S26.out _ Bc.out).mono ?_; rintro e wd ⟨vv, rfl, hv, hb⟩; obtain ⟨pn, cn, rfl, hs⟩ := hv.s; have Sn := Lib.hid hs; have Bd := Lib.hid (over Bc.out hb); clear hv hb hs)
              go_wp2_with (go_at_call 14; refine (LA.out _).mono ?_; rintro e we ⟨rfl, hb⟩; have BL := Lib.hid (over Bd.out hb); clear hb)
              go_ret
              exact ⟨rfl, BL.out⟩
          · have ee : ftE N ≠ 0 := by rw [eN]; decide
            have ge : sa ≤ sM := by have := zN.2.2 eN2; omega
            have NF : (pa && !pb) = false := by rw [← mN, eN2]; rfl
            rw [ftD_no ee, eN] at S26
            clear eN ee eN2 mN okN hsN add sub zM zN zJ spa spb
            cases pa <;> cases pb
            all_goals first | (exact absurd NF (by decide)) | skip
            all_goals
              clear NF
              go_enter Tryz.func8, Tryz.ntmps8
              go_upto_region 2 with (go_at_call 20; refine (A20.out _ (Below.refl _ _)).mono ?_; rintro e w2 ⟨rfl, hb⟩; have B2 := Lib.hid hb; clear hb)
              go_upto_region 3 with (go_at_call 20; refine (B20.out _ B2.out).mono ?_; rintro e w3 ⟨rfl, hb⟩; have B3 := Lib.hid (over B2.out hb); clear hb)
              go_upto_region 6 with (go_at_call 21; refine (A21.out _ B3.out).mono ?_; rintro e w4 ⟨rfl, hb⟩; have B4 := Lib.hid (over B3.out hb); clear hb)
              go_upto_region 7 with (go_at_call 21; refine (B21.out _ B4.out).mono ?_; rintro e w5 ⟨rfl, hb⟩; have B5 := Lib.hid (over B4.out hb); clear hb)
              go_upto_region 8 with (go_at_call 24; refine (S24.out _ B5.out).mono ?_; rintro e w6 ⟨vv, rfl, hv, hb⟩; obtain ⟨pj, cj, rfl, hs⟩ := hv.s; have Sj := Lib.hid hs; have Tj := Lib.hid (Below.refl w6.heap.size w6); have B6 := Lib.hid (over B5.out hb); clear hv hb hs)
              go_upto_region 11 with (go_at_call 25; refine (S25.out _ B6.out).mono ?_; rintro e w7 ⟨vv, rfl, hv, hb⟩; obtain ⟨pm, cm, rfl, hs⟩ := hv.s; have Sm := Lib.hid hs; have Tj7 := Lib.hid hb; have B7 := Lib.hid (over B6.out hb); clear hv hb hs)
              go_upto_region 17 with (go_at_call 20; refine (sz_ok Sm.out CM.out HSM.out).mono ?_; rintro e w8 ⟨rfl, hb⟩; have M8 := Lib.hid (Sm.out.below hb); have J8 := Lib.hid (over Tj7.out hb); have B8 := Lib.hid (over B7.out hb); clear hb)
              go_upto_region 18 with (go_at_call 21; refine (hs_ok M8.out CM.out MM.out).mono ?_; rintro e w9 ⟨rfl, hb⟩; have J9 := Lib.hid (over J8.out hb); have B9 := Lib.hid (over B8.out hb); clear hb)
              go_upto_region 19 with (go_at_call 20; refine (sz_ok (Sj.out.below J9.out) CJ.out HSJ.out).mono ?_; rintro e wa ⟨rfl, hb⟩; have Ja := Lib.hid (over J9.out hb); have Ba := Lib.hid (over B9.out hb); clear hb)
              go_upto_region 20 with (go_at_call 21; refine (hs_ok (Sj.out.below Ja.out) CJ.out MJ.out).mono ?_; rintro e wc ⟨rfl, hb⟩; have Bc := Lib.hid (over Ba.out hb); clear hb)
              go_upto_region 22 with (go_at_call 26; refine (S26.out _ Bc.out).mono ?_; rintro e wd ⟨vv, rfl, hv, hb⟩; obtain ⟨pn, cn, rfl, hs⟩ := hv.s; have Sn := Lib.hid hs; have Bd := Lib.hid (over Bc.out hb); clear hv hb hs)
              go_upto_region 25 with (go_at_call 21; refine (hs_nil Sn.out).mono ?_; rintro e we ⟨rfl, hb⟩; have Be := Lib.hid (over Bd.out hb); clear hb)
              go_wp2_with (go_at_call 14; refine (LA.out _).mono ?_; rintro e wf ⟨rfl, hb⟩; have BL := Lib.hid (over Be.out hb); clear hb)
              go_ret
              refine ⟨?_, BL.out⟩
              show Ending.returned (Value.bool (!decide (sM < sa))) = _
              rw [decide_eq_false (Int.not_lt.2 ge)]
              rfl
        · have ee : ftE M ≠ 0 := by rw [eM]; decide
          rw [ftD_no ee, eM] at S25
          clear eM ee okM okN mM mN hsM hsN add sub zM zN zJ spa spb
          go_enter Tryz.func8, Tryz.ntmps8
          go_upto_region 2 with (go_at_call 20; refine (A20.out _ (Below.refl _ _)).mono ?_; rintro e w2 ⟨rfl, hb⟩; have B2 := Lib.hid hb; clear hb)
          go_upto_region 3 with (go_at_call 20; refine (B20.out _ B2.out).mono ?_; rintro e w3 ⟨rfl, hb⟩; have B3 := Lib.hid (over B2.out hb); clear hb)
          go_upto_region 6 with (go_at_call 21; refine (A21.out _ B3.out).mono ?_; rintro e w4 ⟨rfl, hb⟩; have B4 := Lib.hid (over B3.out hb); clear hb)
          go_upto_region 7 with (go_at_call 21; refine (B21.out _ B4.out).mono ?_; rintro e w5 ⟨rfl, hb⟩; have B5 := Lib.hid (over B4.out hb); clear hb)
          go_upto_region 8 with (go_at_call 24; refine (S24.out _ B5.out).mono ?_; rintro e w6 ⟨vv, rfl, hv, hb⟩; obtain ⟨pj, cj, rfl, hs⟩ := hv.s; have Sj := Lib.hid hs; have Tj := Lib.hid (Below.refl w6.heap.size w6); have B6 := Lib.hid (over B5.out hb); clear hv hb hs)
          go_upto_region 11 with (go_at_call 25; refine (S25.out _ B6.out).mono ?_; rintro e w7 ⟨vv, rfl, hv, hb⟩; obtain ⟨pm, cm, rfl, hs⟩ := hv.s; have Sm := Lib.hid hs; have Tj7 := Lib.hid hb; have B7 := Lib.hid (over B6.out hb); clear hv hb hs)
          go_wp2_with (go_at_call 14; refine (LA.out _).mono ?_; rintro e w8 ⟨rfl, hb⟩; have BL := Lib.hid (over B7.out hb); clear hb)
          go_ret
          exact ⟨rfl, BL.out⟩
        · have ee : ftE M ≠ 0 := by rw [eM]; decide
          have sM0 : sM = 0 := zM.2.2 eM2
          have MF : (pa && pb) = false := by rw [← mM, eM2]; rfl
          rw [ftD_no ee, eM] at S25
          have w1 : IntKind.i64.wrap sJ = sJ := wrap_in (by omega) (by omega)
          have eq1 : (sJ == sa + sb) = true := by rw [← add, sM0]; simp
          clear eM ee eM2 okM mM hsM
          rcases ft_cases N with eN | eN | ⟨eN, eN2⟩
          · have CN := Lib.hid (chk_ft okN eN)
            have gt : 0 < sa := spa.1
            rw [eN, ftD_ok eN] at S26
            have MN := Lib.hid mN
            clear eN mN okN hsN add sub zM zN zJ spa spb sM0
            cases pa <;> cases pb
            all_goals first | (exact absurd MF (by decide)) | skip
            all_goals
              clear MF
              go_enter Tryz.func8, Tryz.ntmps8
              go_upto_region 2 with (go_at_call 20; refine (A20.out _ (Below.refl _ _)).mono ?_; rintro e w2 ⟨rfl, hb⟩; have B2 := Lib.hid hb; clear hb)
              go_upto_region 3 with (go_at_call 20; refine (B20.out _ B2.out).mono ?_; rintro e w3 ⟨rfl, hb⟩; have B3 := Lib.hid (over B2.out hb); clear hb)
              go_upto_region 6 with (go_at_call 21; refine (A21.out _ B3.out).mono ?_; rintro e w4 ⟨rfl, hb⟩; have B4 := Lib.hid (over B3.out hb); clear hb)
              go_upto_region 7 with (go_at_call 21; refine (B21.out _ B4.out).mono ?_; rintro e w5 ⟨rfl, hb⟩; have B5 := Lib.hid (over B4.out hb); clear hb)
              go_upto_region 8 with (go_at_call 24; refine (S24.out _ B5.out).mono ?_; rintro e w6 ⟨vv, rfl, hv, hb⟩; obtain ⟨pj, cj, rfl, hs⟩ := hv.s; have Sj := Lib.hid hs; have Tj := Lib.hid (Below.refl w6.heap.size w6); have B6 := Lib.hid (over B5.out hb); clear hv hb hs)
              go_upto_region 11 with (go_at_call 25; refine (S25.out _ B6.out).mono ?_; rintro e w7 ⟨vv, rfl, hv, hb⟩; obtain ⟨pm, cm, rfl, hs⟩ := hv.s; have Sm := Lib.hid hs; have Tj7 := Lib.hid hb; have B7 := Lib.hid (over B6.out hb); clear hv hb hs)
              go_upto_region 18 with fail
              have J9 := Tj7; have B9 := B7
              go_upto_region 19 with (go_at_call 20; refine (sz_ok (Sj.out.below J9.out) CJ.out HSJ.out).mono ?_; rintro e wa ⟨rfl, hb⟩; have Ja := Lib.hid (over J9.out hb); have Ba := Lib.hid (over B9.out hb); clear hb)
              go_upto_region 20 with (go_at_call 21; refine (hs_ok (Sj.out.below Ja.out) CJ.out MJ.out).mono ?_; rintro e wc ⟨rfl, hb⟩; have Bc := Lib.hid (over Ba.out hb); clear hb)
              go_upto_region 22 with (go_at_call 26; refine (S26.out _ Bc.out).mono ?_; rintro e wd ⟨vv, rfl, hv, hb⟩; obtain ⟨pn, cn, rfl, hs⟩ := hv.s; have Sn := Lib.hid hs; have Bd := Lib.hid (over Bc.out hb); clear hv hb hs)
              go_upto_region 25 with (go_at_call 21; refine (hs_ok Sn.out CN.out MN.out).mono ?_; rintro e we ⟨rfl, hb⟩; have Be := Lib.hid (over Bd.out hb); clear hb)
              go_wp2_with (go_at_call 14; refine (LA.out _).mono ?_; rintro e wf ⟨rfl, hb⟩; have BL := Lib.hid (over Be.out hb); clear hb)
              go_ret
              exact ⟨rfl, BL.out⟩
          · have ee : ftE N ≠ 0 := by rw [eN]; decide
            rw [ftD_no ee, eN] at S26
            clear eN ee mN okN hsN add sub zM zN zJ spa spb sM0
            cases pa <;> cases pb
            all_goals first | (exact absurd MF (by decide)) | skip
            all_goals
              clear MF
              go_enter Tryz.func8, Tryz.ntmps8
              go_upto_region 2 with (go_at_call 20; refine (A20.out _ (Below.refl _ _)).mono ?_; rintro e w2 ⟨rfl, hb⟩; have B2 := Lib.hid hb; clear hb)
              go_upto_region 3 with (go_at_call 20; refine (B20.out _ B2.out).mono ?_; rintro e w3 ⟨rfl, hb⟩; have B3 := Lib.hid (over B2.out hb); clear hb)
              go_upto_region 6 with (go_at_call 21; refine (A21.out _ B3.out).mono ?_; rintro e w4 ⟨rfl, hb⟩; have B4 := Lib.hid (over B3.out hb); clear hb)
              go_upto_region 7 with (go_at_call 21; refine (B21.out _ B4.out).mono ?_; rintro e w5 ⟨rfl, hb⟩; have B5 := Lib.hid (over B4.out hb); clear hb)
              go_upto_region 8 with (go_at_call 24; refine (S24.out _ B5.out).mono ?_; rintro e w6 ⟨vv, rfl, hv, hb⟩; obtain ⟨pj, cj, rfl, hs⟩ := hv.s; have Sj := Lib.hid hs; have Tj := Lib.hid (Below.refl w6.heap.size w6); have B6 := Lib.hid (over B5.out hb); clear hv hb hs)
              go_upto_region 11 with (go_at_call 25; refine (S25.out _ B6.out).mono ?_; rintro e w7 ⟨vv, rfl, hv, hb⟩; obtain ⟨pm, cm, rfl, hs⟩ := hv.s; have Sm := Lib.hid hs; have Tj7 := Lib.hid hb; have B7 := Lib.hid (over B6.out hb); clear hv hb hs)
              go_upto_region 18 with fail
              have J9 := Tj7; have B9 := B7
              go_upto_region 19 with (go_at_call 20; refine (sz_ok (Sj.out.below J9.out) CJ.out HSJ.out).mono ?_; rintro e wa ⟨rfl, hb⟩; have Ja := Lib.hid (over J9.out hb); have Ba := Lib.hid (over B9.out hb); clear hb)
              go_upto_region 20 with (go_at_call 21; refine (hs_ok (Sj.out.below Ja.out) CJ.out MJ.out).mono ?_; rintro e wc ⟨rfl, hb⟩; have Bc := Lib.hid (over Ba.out hb); clear hb)
              go_upto_region 22 with (go_at_call 26; refine (S26.out _ Bc.out).mono ?_; rintro e wd ⟨vv, rfl, hv, hb⟩; obtain ⟨pn, cn, rfl, hs⟩ := hv.s; have Sn := Lib.hid hs; have Bd := Lib.hid (over Bc.out hb); clear hv hb hs)
              go_wp2_with (go_at_call 14; refine (LA.out _).mono ?_; rintro e we ⟨rfl, hb⟩; have BL := Lib.hid (over Bd.out hb); clear hb)
              go_ret
              exact ⟨rfl, BL.out⟩
          · exfalso
            have := zN.2.2 eN2
            have := spa.1
            omega
      · have ee : ftE J ≠ 0 := by rw [eJ]; decide
        rw [ftD_no ee, eJ] at S24
        clear eJ ee okJ okM okN mJ mM mN hsJ hsM hsN nJ add sub zM zN zJ spa spb
        go_enter Tryz.func8, Tryz.ntmps8
        go_upto_region 2 with (go_at_call 20; refine (A20.out _ (Below.refl _ _)).mono ?_; rintro e w2 ⟨rfl, hb⟩; have B2 := Lib.hid hb; clear hb)
        go_upto_region 3 with (go_at_call 20; refine (B20.out _ B2.out).mono ?_; rintro e w3 ⟨rfl, hb⟩; have B3 := Lib.hid (over B2.out hb); clear hb)
        go_upto_region 6 with (go_at_call 21; refine (A21.out _ B3.out).mono ?_; rintro e w4 ⟨rfl, hb⟩; have B4 := Lib.hid (over B3.out hb); clear hb)
        go_upto_region 7 with (go_at_call 21; refine (B21.out _ B4.out).mono ?_; rintro e w5 ⟨rfl, hb⟩; have B5 := Lib.hid (over B4.out hb); clear hb)
        go_upto_region 8 with (go_at_call 24; refine (S24.out _ B5.out).mono ?_; rintro e w6 ⟨vv, rfl, hv, hb⟩; obtain ⟨pj, cj, rfl, hs⟩ := hv.s; have Sj := Lib.hid hs; have Tj := Lib.hid (Below.refl w6.heap.size w6); have B6 := Lib.hid (over B5.out hb); clear hv hb hs)
        go_wp2_with (go_at_call 14; refine (LA.out _).mono ?_; rintro e w7 ⟨rfl, hb⟩; have BL := Lib.hid (over B6.out hb); clear hb)
        go_ret
        exact ⟨rfl, BL.out⟩
      · exact absurd eJ nJ
    · obtain ⟨z, hz⟩ : ∃ z, chkD b = z := ⟨_, rfl⟩
      rw [hz] at h2
      have B20 := Lib.hid (fun W h => sz_bad (HB.out W h) hz h2)
      have z0 : (z != 0) = true := by simp [h2]
      clear hsa h1 h2 hz HA HB
      go_enter Tryz.func8, Tryz.ntmps8
      go_upto_region 2 with (go_at_call 20; refine (A20.out _ (Below.refl _ _)).mono ?_; rintro e w2 ⟨rfl, hb⟩; have B2 := Lib.hid hb; clear hb)
      go_upto_region 3 with (go_at_call 20; refine (B20.out _ B2.out).mono ?_; rintro e w3 ⟨rfl, hb⟩; have B3 := Lib.hid (over B2.out hb); clear hb)
      go_wp2_with (go_at_call 14; refine (LA.out _).mono ?_; rintro e w4 ⟨rfl, hb⟩; have B4 := Lib.hid (over B3.out hb); clear hb)
      go_ret
      exact ⟨rfl, B4.out⟩
  · obtain ⟨z, hz⟩ : ∃ z, chkD a = z := ⟨_, rfl⟩
    rw [hz] at h1
    have A20 := Lib.hid (fun W h => sz_bad (HA.out W h) hz h1)
    have B20 := Lib.hid (fun W h => size20_any (HB.out W h))
    obtain ⟨x1, hx1⟩ : ∃ x, (if chkD b = 0 then sizeF b else 0) = x := ⟨_, rfl⟩
    obtain ⟨x2, hx2⟩ : ∃ x, chkD b = x := ⟨_, rfl⟩
    rw [hx1, hx2] at B20
    have z0 : (z != 0) = true := by simp [h1]
    clear h1 hz HA HB hx1 hx2
    go_enter Tryz.func8, Tryz.ntmps8
    go_upto_region 2 with (go_at_call 20; refine (A20.out _ (Below.refl _ _)).mono ?_; rintro e w2 ⟨rfl, hb⟩; have B2 := Lib.hid hb; clear hb)
    go_upto_region 3 with (go_at_call 20; refine (B20.out _ B2.out).mono ?_; rintro e w3 ⟨rfl, hb⟩; have B3 := Lib.hid (over B2.out hb); clear hb)
    go_wp2_with (go_at_call 14; refine (LA.out _).mono ?_; rintro e w4 ⟨rfl, hb⟩; have B4 := Lib.hid (over B3.out hb); clear hb)
    go_ret
    exact ⟨rfl, B4.out⟩
end Go.Proofs.YteiohgiecpibhaaGreat
