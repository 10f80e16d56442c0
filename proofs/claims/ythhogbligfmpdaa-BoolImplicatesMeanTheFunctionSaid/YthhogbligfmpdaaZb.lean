/- The reference's Primes. -/
import Derived.Test.YthhogbligfmpdaaZa
set_option linter.unusedVariables false
set_option linter.unusedSimpArgs false
namespace Go.Proofs.Ythhogbligfmpdaa
open Go.RowKit Bd

set_option maxRecDepth 100000 in
set_option maxHeartbeats 8000000 in
theorem primes_any {w : World} {ds : List Nd} {a : Option Addr} {n cap : Nat} {root : Int} (hd : DAt w ds a) (hn : ds.length = n) (hl : n ≤ 9223372036854775807) :
    Calls Try.prog 39 #[.agg #[.slice a n cap, .int .i64 root]] w (LqPost w (icL ds root) (icE ds root)) := by
  have B1 : Hid (Below w.heap.size w (w.alloc (.cells #[.slice a n cap, .int .i64 root] 27))) := (Below.refl _ _).alloc (Nat.le_refl _) _
  have S1 : Hid ((w.alloc (.cells #[.slice a n cap, .int .i64 root] 27)).heap.size = w.heap.size + 1) := by show _ = _; simp
  have X : Hid ((w.alloc (.cells #[.slice a n cap, .int .i64 root] 27)).heap[w.heap.size]? = some (.cells #[.slice a n cap, .int .i64 root] 27 (0, 0))) := heap_alloc_new w _
  have CK := Lib.hid (fault_any (cap := cap) (root := root) (hd.below B1.out) hn hl)
  have HD := Lib.hid hd; clear hd
  have HN := Lib.hid hn; clear hn
  obtain ⟨i0, hi0, hy0, hy1, hy2⟩ := info_parts info3
  obtain ⟨j0, hj0, hx0, hx1, hx2⟩ := info_parts info53
  go_enter Try.func39, Try.ntmps39
  go_wp2_with fail
  generalize w.alloc (.cells #[.slice a n cap, .int .i64 root] 27) = w1 at *
  refine CK.out.mono ?_
  clear CK
  rintro e w2 ⟨rfl, bl2⟩
  have B2 := Lib.hid (Below.over B1.out B1.out.size bl2)
  have P2 := Lib.hid ((bl2.block w.heap.size (by rw [S1.out]; omega)).trans X.out)
  have z2 : w.heap.size + 1 ≤ w2.heap.size := by have := bl2.size; rw [S1.out] at this; exact this
  clear bl2 B1 S1 X
  obtain ⟨y0, y1, _⟩ := cells2 P2.out
  obtain ⟨ck0, hck⟩ : ∃ ck, chk ds root = ck := ⟨_, rfl⟩
  rw [hck]
  have HCK := Lib.hid hck; clear hck
  by_cases hc : ck0 = 0
  · subst hc
    have hn2 : n ≤ 2000 := by obtain ⟨q1, _⟩ := chk_zero HCK.out; rw [HN.out] at q1; exact q1
    have SU := Lib.hid (supports_any (cap := cap) (root := root) (HD.out.below B2.out) HN.out hn2)
    go_wp2_with fail
    refine SU.out.mono ?_
    clear y0 y1 SU
    rintro e w3 ⟨la, lc, rfl, ia, bl3⟩
    have I3 := Lib.hid ia; clear ia
    have B3 := Lib.hid (Below.over B2.out B2.out.size bl3)
    have P3 := Lib.hid ((bl3.block w.heap.size (by omega)).trans P2.out)
    have z3 : w.heap.size + 1 ≤ w3.heap.size := by have := bl3.size; omega
    clear bl3 P2 B2 z2
    obtain ⟨nv, hnv⟩ : ∃ nv, (sup ds).length = nv := ⟨_, rfl⟩
    have HNV := Lib.hid hnv
    have nv16 : nv ≤ 16 := by rw [← hnv]; exact sup_le ds
    rw [hnv]
    clear hnv
    by_cases h8 : 8 < nv
    · have E : Hid (icE ds root = 3) := by show _ = _; unfold icE; rw [if_neg (by rw [HCK.out]; simp), if_pos (Or.inl (by rw [HNV.out]; exact h8))]
      have i8 : (8 : Int) < (nv : Int) := by omega
      go_wp2_with fail
      go_ret2
      exact lq_bad E.out (by omega) B3.out
    · have i8 : ¬ ((8 : Int) < (nv : Int)) := by omega
      obtain ⟨OD, RF⟩ : Hid (Ord ds) ∧ Hid (Ref ds root) := by obtain ⟨_, q2, q3, _⟩ := chk_zero HCK.out; exact ⟨q2, q3⟩
      obtain ⟨z, hz⟩ : ∃ n : Nat, n = 65536 := ⟨_, rfl⟩
      have CT := Lib.hid (table_any (cap := cap) (n := z) (HD.out.below B3.out) OD.out RF.out HN.out hn2 hz)
      have hz1 : 65536 ≤ z := by omega
      have hz2 : z ≤ 65536 := by omega
      clear hz
      obtain ⟨y0, y1, _⟩ := cells2 P3.out
      go_wp2_with fail
      refine CT.out.mono ?_
      clear CT y0 y1
      rintro e w4 ⟨g, hg, hgl, rfl, t1, _, bl4⟩
      have VS := Lib.hid (sup_vs ds)
      have TA := Lib.hid (trueAt_any (c := z) (vc := lc) t1 hz1 hz2 (I3.out.below bl4) HNV.out (by omega) VS.out)
      have B4 := Lib.hid (Below.over B3.out B3.out.size bl4)
      have I4 := Lib.hid (I3.out.below bl4)
      clear t1 bl4
      go_wp2_with fail
      refine TA.out.mono ?_
      clear TA
      rintro e w5 ⟨ta, tc, rfl, it5, bl5⟩
      have B5 := Lib.hid (Below.over B4.out B4.out.size bl5)
      have I5 := Lib.hid (I4.out.below bl5)
      have T5 := Lib.hid it5
      clear it5 bl5 B4 I4 I3 B3 hg hgl P3
      have TL : (tru (tb ds 16 root) (sup ds) (2 ^ nv)).length ≤ 256 := Nat.le_trans (tru_len _ _ _) (by have : 2 ^ nv ≤ 2 ^ 8 := Nat.pow_le_pow_right (by omega) (by omega); omega)
      have TX : Hid (∀ x ∈ tru (tb ds 16 root) (sup ds) (2 ^ nv), x < 65536) := fun x hx => by
        obtain ⟨⟨k, _, e⟩, _⟩ := tru_mem.1 hx
        rw [e]; exact xk_lt VS.out k _ (Nat.le_refl _)
      have RP : Hid (∀ cl, Sel (sup ds) cl → (rpB (tru (tb ds 16 root) (sup ds) (2 ^ nv)) cl = true ↔ Prime (tb ds 16 root) cl)) := fun cl hs => by
        rw [← HNV.out]; exact rpB_prime VS.out (dep_sup OD.out RF.out) hs
      rw [List.length_map]
      obtain ⟨tn, htn⟩ : ∃ tn, (tru (tb ds 16 root) (sup ds) (2 ^ nv)).length = tn := ⟨_, rfl⟩
      have HTN := Lib.hid htn
      rw [htn] at TL
      rw [htn]
      clear htn
      have TT5 : Hid (IAt w5 ((tru (tb ds 16 root) (sup ds) (2 ^ nv)).map Int.ofNat) ta) := T5.out
      clear T5
      generalize tru (tb ds 16 root) (sup ds) (2 ^ nv) = L at *
      go_wp2_with fail
      go_loop [7, 8] (fun av iv => ThL nv av iv) (fun _ iv => nv - (intOf iv).toNat)
      case atStart => exact ⟨0, by omega, rfl, rfl⟩
      case round =>
        obtain ⟨i, hi, rfl, rfl⟩ := hrel
        have t8 := three_eight (n := i) (by omega)
        by_cases hin : i < nv
        · have i1 : (i : Int) < (nv : Int) := by omega
          have PS : Hid (3 ^ (i + 1) = 3 ^ i * 3) := Nat.pow_succ ..
          generalize 3 ^ i = p at *
          go_wp2_with fail
          go_round
          case rel => exact ⟨i + 1, by omega, by go_num, by rw [PS.out]; go_num⟩
          case measure => simp [intOf]; omega
        · obtain rfl : i = nv := by omega
          have i1 : ¬ ((i : Int) < (i : Int)) := by omega
          obtain ⟨N, hN⟩ : ∃ N, 3 ^ i = N := ⟨_, rfl⟩
          have HN3 : Hid (3 ^ (sup ds).length = N) := by show _ = _; rw [HNV.out]; exact hN
          rw [hN] at t8
          rw [hN]
          clear hN
          go_wp2_with fail
          go_loopw [9, 10] (fun ov kv wr => PkL (tb ds 16 root) (sup ds) N w5.heap.size w5 ov kv wr) (fun _ kv _ => N - (intOf kv).toNat)
          case atStart => exact ⟨0, 0, [], fun _ => False, [], none, 0, by omega, by omega, rfl, rfl, rfl, PrK.nil _ _, OL.nil _, fun _ h => h.elim, Below.refl _ _⟩
          case round =>
            obtain ⟨k, len, ls, S, vals, oa, oc, hk, hlk, rfl, rfl, hln, prk, ol, hS, bl⟩ := hrel
            have HLN := Lib.hid hln; clear hln
            have PRK := Lib.hid prk; clear prk
            have OLH := Lib.hid ol; clear ol
            have HS := Lib.hid hS; clear hS
            have BL := Lib.hid bl
            have bls : w5.heap.size ≤ wr.heap.size := bl.size
            clear bl
            by_cases hkN : k < N
            · have kN : (k : Int) < (N : Int) := by omega
              go_wp2_with fail
              obtain ⟨wo, rfl⟩ : ∃ wo : World, wo = wr := ⟨_, rfl⟩
              go_loopw [11, 12, 13] (fun cv nvv iv wi => PcL (sup ds) k i wo cv nvv iv wi) (fun _ _ iv _ => i - (intOf iv).toNat)
              case atStart => exact ⟨0, k, 0, [], none, 0, by omega, by omega, by omega, rfl, rfl, rfl, ⟨rfl, Or.inl ⟨rfl, rfl⟩⟩, rfl, Below.refl _ _⟩
              case round =>
                obtain ⟨ii, q, m, p, pa, pc, hii, hq, hm, rfl, rfl, rfl, row, hck, bl⟩ := hrel
                have RW := Lib.hid row; clear row
                have CK := Lib.hid hck; clear hck
                have BLi := Lib.hid bl
                have blsi : wo.heap.size ≤ wr.heap.size := bl.size
                clear bl
                by_cases hil : ii < i
                · have i2 : (ii : Int) < (i : Int) := by omega
                  have hil' : ii < (sup ds).length := by rw [HNV.out]; exact hil
                  obtain ⟨bv, ov, rfl, dv⟩ := I5.out (by intro e; rw [e] at hil'; simp at hil')
                  have p1 := cell_later BLi.out (cell_later BL.out (dv ii hil'))
                  clear dv
                  have DC := Lib.hid (drop_cons hil')
                  obtain ⟨r1, r2⟩ := VS.out.get hil'
                  generalize (sup ds).getD ii 0 = x at *
                  have c3 : q % 3 = 0 ∨ q % 3 = 1 ∨ q % 3 = 2 := by omega
                  have qd : Hid (((q : Int) / 3) = ((q / 3 : Nat) : Int)) := by show _ = _; omega
                  rcases c3 with c3 | c3 | c3
                  · have b1 : (q : Int) % 3 = 0 := by omega
                    have CK2 : Hid (p ++ ck (q / 3) ((sup ds).drop (ii + 1)) = ck k (sup ds)) := by show _ = _; rw [← CK.out, DC.out, ck_nil c3]
                    clear c3
                    go_wp2_with fail
                    go_roundw
                    case rel => exact ⟨ii + 1, q / 3, m, p, pa, pc, by omega, by omega, by omega, rfl, by rw [qd.out], by go_num, RW.out, CK2.out, BLi.out⟩
                    case measure => simp [intOf]; omega
                  · have b1 : (q : Int) % 3 = 1 := by omega
                    have CK2 : Hid ((p ++ [x + 1]) ++ ck (q / 3) ((sup ds).drop (ii + 1)) = ck k (sup ds)) := by show _ = _; rw [← CK.out, DC.out, ck_one c3, List.append_assoc]; rfl
                    clear c3
                    go_wp2_with (at_builtin; refine wpList_append_lies _ rfl _ _ 53 rfl wo.heap.size 3 i0 (.int .i64 0) 1 8 Try.underlying53 hi0 hy0 hy1 hy2 rfl (by omega) (.slice pa m pc) m (p.map (Value.int .i64)) rfl (RW.out.alloc _) ⟨wr.heap.size, 0, none⟩ 1 1 [.int .i64 (x + 1)] rfl rfl (World.news_of_block (cs := #[.int .i64 (x + 1)]) (t := 3) (fr := (0, 0)) (heap_alloc_new wr _)) (by simp [Value.oneCell']) (by omega) (by unfold maxLen; omega) (by omega) (by simp; omega) (wr.heap.size + 1) (by simp) ?_; intro g4 cap4 w4 hown4 hgrow4 hat4 hlt4; have OW := Lib.hid hown4; have GR := Lib.hid hgrow4; clear hown4 hgrow4 hat4 hlt4)
                    have B4 : Hid (Below wo.heap.size wo w4) := below_app (BLi.out.alloc blsi _) GR.out (fun g hg => (RW.out.lt g hg).1) (by simp; omega)
                    go_roundw
                    case rel => exact ⟨ii + 1, q / 3, m + 1, p ++ [x + 1], some ⟨g4, 0, none⟩, cap4, by omega, by omega, by omega, rfl, by rw [qd.out], by go_num, by
                      have := OW.out
                      rw [List.map_append]
                      exact this, CK2.out, B4.out⟩
                    case measure => simp [intOf]; omega
                  · have b1 : (q : Int) % 3 = 2 := by omega
                    have CK2 : Hid ((p ++ [-x - 1]) ++ ck (q / 3) ((sup ds).drop (ii + 1)) = ck k (sup ds)) := by show _ = _; rw [← CK.out, DC.out, ck_two c3, List.append_assoc]; rfl
                    have XE : Hid (-(x + 1) = -x - 1) := by show _ = _; omega
                    clear c3
                    go_wp2_with (at_builtin; refine wpList_append_lies _ rfl _ _ 53 rfl wo.heap.size 3 i0 (.int .i64 0) 1 8 Try.underlying53 hi0 hy0 hy1 hy2 rfl (by omega) (.slice pa m pc) m (p.map (Value.int .i64)) rfl (RW.out.alloc _) ⟨wr.heap.size, 0, none⟩ 1 1 [.int .i64 (-(x + 1))] rfl rfl (World.news_of_block (cs := #[.int .i64 (-(x + 1))]) (t := 3) (fr := (0, 0)) (heap_alloc_new wr _)) (by simp [Value.oneCell']) (by omega) (by unfold maxLen; omega) (by omega) (by simp; omega) (wr.heap.size + 1) (by simp) ?_; intro g4 cap4 w4 hown4 hgrow4 hat4 hlt4; have OW := Lib.hid hown4; have GR := Lib.hid hgrow4; clear hown4 hgrow4 hat4 hlt4)
                    have B4 : Hid (Below wo.heap.size wo w4) := below_app (BLi.out.alloc blsi _) GR.out (fun g hg => (RW.out.lt g hg).1) (by simp; omega)
                    go_roundw
                    case rel => exact ⟨ii + 1, q / 3, m + 1, p ++ [-x - 1], some ⟨g4, 0, none⟩, cap4, by omega, by omega, by omega, rfl, by rw [qd.out], by go_num, by
                      have := OW.out
                      rw [XE.out] at this
                      rw [List.map_append]
                      exact this, CK2.out, B4.out⟩
                    case measure => simp [intOf]; omega
                · obtain rfl : ii = i := by omega
                  have i2 : ¬ ((ii : Int) < (ii : Int)) := by omega
                  have CKE : Hid (p = ck k (sup ds)) := by
                    show _ = _
                    have := CK.out
                    rw [List.drop_of_length_le (by rw [HNV.out]; exact Nat.le_refl _)] at this
                    simpa [ck] using this
                  have SE : Hid (Sel (sup ds) p) := by show Sel _ _; rw [CKE.out]; exact ck_sel _ _
                  obtain ⟨pa', pc', ev, ip, hml, hpg⟩ := own_iAt RW.out
                  injection ev with ev1 ev2 ev3
                  subst ev1 ev3
                  have hmc : m ≤ pc ∧ pc ≤ 9223372036854775807 := by
                    rcases RW.out.2 with ⟨h1, h2⟩ | ⟨g', cap', cur, h1, h2, h3, h4, h5, _⟩
                    · injection h1 with h1 h2 h3; omega
                    · injection h1 with h1 h6 h7; unfold maxLen at h5; omega
                  have IP := Lib.hid ip
                  have HPG := Lib.hid hpg
                  have HML := Lib.hid hml
                  have C78 := Lib.hid (rprime_any (c1 := tc) (c2 := pc) ((TT5.out.below BL.out).below BLi.out) ip hpg HTN.out hml.symm hmc.1 hmc.2 (by omega) (by omega) TX.out (sel_lit VS.out SE.out))
                  have RPP := Lib.hid (RP.out p SE.out)
                  clear ip hpg hml hmc ev2 CK
                  cases hb : rpB L p
                  · have PRK2 : Hid (PrK (tb ds 16 root) (sup ds) (k + 1) ls) := PRK.out.skip (fun h => by rw [← CKE.out] at h; have := RPP.out.2 h; rw [hb] at this; simp at this)
                    rw [hb] at C78
                    clear hb
                    go_wp2_with fail
                    refine C78.out.mono ?_
                    clear C78
                    rintro e w6 ⟨rfl, bl6⟩
                    have BT : Hid (Below wo.heap.size wo w6) := Below.over BLi.out BLi.out.size bl6
                    clear bl6
                    go_wp2_with fail
                    go_roundw
                    case rel => exact ⟨k + 1, len, ls, S, vals, oa, oc, by omega, by omega, by go_num, rfl, HLN.out, PRK2.out, OLH.out.keep (fun b hb => BT.out.block b (OLH.out.lt b hb)) BT.out.size, HS.out, Below.over BL.out BL.out.size BT.out⟩
                    case measure => simp [intOf]; omega
                  · have PP : Hid (Prime (tb ds 16 root) (ck k (sup ds))) := by show Prime _ _; rw [← CKE.out]; exact RPP.out.1 hb
                    rw [hb] at C78
                    clear hb
                    go_wp2_with fail
                    refine C78.out.mono ?_
                    clear C78
                    rintro e w6 ⟨rfl, bl6⟩
                    have BT : Hid (Below wo.heap.size wo w6) := Below.over BLi.out BLi.out.size bl6
                    have I6 := Lib.hid (IP.out.below bl6)
                    have z6 : wo.heap.size ≤ w6.heap.size := BT.out.size
                    clear bl6
                    have OL6 : Hid (OL S w6 (.slice oa len oc) ls vals) := OLH.out.keep (fun b hb => BT.out.block b (OLH.out.lt b hb)) BT.out.size
                    have R6 : Hid (w6.ownsRow 0 53 1 (.slice oa len oc) len vals) := by have := OL6.out.row; rw [HLN.out] at this; exact this
                    go_wp2_with (at_builtin; refine wpList_append_lies _ rfl _ _ 44 rfl 0 53 j0 (.slice none 0 0) 1 24 Try.underlying44 hj0 hx0 hx1 hx2 rfl (by omega) (.slice oa len oc) len vals rfl (R6.out.alloc _) ⟨w6.heap.size, 0, none⟩ 1 1 [.slice pa m pc] rfl rfl (World.news_of_block (cs := #[.slice pa m pc]) (t := 53) (fr := (0, 0)) (heap_alloc_new w6 _)) (by simp [Value.oneCell']) (by omega) (by unfold maxLen; omega) (by omega) (by simp) (w6.heap.size + 1) (by simp) ?_; intro g7 cap7 w7 hown7 hgrow7 hat7 hlt7; have OW7 := Lib.hid hown7; have GR7 := Lib.hid hgrow7; have AT7 := Lib.hid hat7; clear hown7 hgrow7 hat7 hlt7)
                    have VL : Hid (vals.length = len) := OL6.out.vlen.trans HLN.out
                    have OLP : Hid (OL (fun k => S k ∨ (wo.heap.size ≤ k ∧ k < w7.heap.size)) w7 (.slice (some ⟨g7, 0, none⟩) (len + 1) cap7) (ls ++ [p]) (vals ++ [.slice pa m pc])) := by
                      have := OLH.out.push (w1 := w6.alloc (.cells #[.slice pa m pc] 53)) (w2 := w7) (l := p) (a := pa) (cap := pc) (gr := g7) (ov' := .slice (some ⟨g7, 0, none⟩) (len + 1) cap7) (fun b hb => (Below.heap_alloc w6 _ b (by omega)).trans (BT.out.block b hb)) (by simp; omega) (fun hne => by
                        obtain ⟨g', e⟩ := HPG.out hne
                        have l := RW.out.lt g' (by rw [e]; rfl)
                        obtain ⟨b, o, e', d⟩ := I6.out hne
                        rw [e] at e'
                        injection e' with e'
                        injection e' with e1 e2
                        subst e1 e2
                        have hg6 : g' < w6.heap.size := lt_of_cell (d 0 (List.length_pos_iff.2 hne))
                        refine ⟨g', e, l.1, by simp; omega, fun j hj => ?_⟩
                        have := d j hj
                        rw [Nat.zero_add] at this
                        exact (World.cell?_of_block (a := ⟨g', j, none⟩) (Below.heap_alloc w6 _ g' hg6)).trans this) GR7.out (by rw [HLN.out, ← HML.out]; exact OW7.out) rfl (by
                        rcases AT7.out with e | e
                        · exact Or.inl e
                        · right; rw [e]; simp)
                      rw [← HML.out] at this
                      exact this
                    have SB : Hid (∀ b, (S b ∨ (wo.heap.size ≤ b ∧ b < w7.heap.size)) → w5.heap.size ≤ b) := fun b hb => by
                      rcases hb with h | h
                      · exact HS.out b h
                      · omega
                    have G7 : Hid (w5.heap.size ≤ g7) := SB.out _ (OLP.out.rs g7 rfl)
                    have B6D := Lib.hid (Below.over BL.out BL.out.size BT.out)
                    have B7 : Hid (Below w5.heap.size w5 w7) := below_app (B6D.out.alloc B6D.out.size _) GR7.out (fun g hg => HS.out g (OLH.out.rs g hg)) (by have := B6D.out.size; simp; omega)
                    have PA : Hid (∀ W, w7.grownBy W (some g7) → IAt W p pa) := fun W hW => by
                      obtain ⟨a', c', e, f⟩ := OLP.out.iAt (i := len) (by simp [HLN.out])
                      rw [List.getElem?_append_right (by rw [VL.out]; exact Nat.le_refl _), VL.out, Nat.sub_self] at e
                      have e2 : (ls ++ [p]).getD len [] = p := by rw [List.getD_eq_getElem?_getD, List.getElem?_append_right (by rw [HLN.out]; exact Nat.le_refl _), HLN.out, Nat.sub_self]; rfl
                      rw [e2] at e f
                      simp only [List.getElem?_cons_zero, Option.some.injEq, Value.slice.injEq] at e
                      rw [e.1]
                      exact f W hW
                    have LAU : Hid (∀ u, u < len → ∃ au cu, vals.getD u (.bool false) = .slice au (ls.getD u []).length cu ∧ ∀ W, w7.grownBy W (some g7) → IAt W (ls.getD u []) au) := fun u hu => by
                      obtain ⟨a', c', e, f⟩ := OLP.out.iAt (i := u) (by simp [HLN.out]; omega)
                      have hul : u < vals.length := by rw [VL.out]; exact hu
                      rw [List.getElem?_append_left hul] at e
                      have e2 : (ls ++ [p]).getD u [] = ls.getD u [] := by rw [List.getD_eq_getElem?_getD, List.getD_eq_getElem?_getD, List.getElem?_append_left (by rw [HLN.out]; exact hu)]
                      rw [e2] at e f
                      exact ⟨a', c', by rw [List.getD_eq_getElem?_getD, e]; rfl, f⟩
                    have LUB : Hid (∀ u, u < len → (ls.getD u []).length ≤ 8) := fun u hu => by
                      have hul : u < ls.length := by rw [HLN.out]; exact hu
                      have hm : ls.getD u [] ∈ ls := by rw [List.getD_eq_getElem?_getD, List.getElem?_eq_getElem hul]; exact List.getElem_mem hul
                      obtain ⟨q', _, e, _⟩ := (PRK.out.mem _).1 hm
                      have := sel_len (ck_sel q' (sup ds))
                      rw [e]; rw [HNV.out] at this; omega
                    have ST0 : Hid (w7.ownsRow 0 53 1 (.slice (some ⟨g7, 0, none⟩) (len + 1) cap7) (len + 1) (vals.take len ++ .slice pa m pc :: vals.drop len)) := by
                      have := OW7.out
                      rw [List.take_of_length_le (by rw [VL.out]; exact Nat.le_refl _), List.drop_of_length_le (by rw [VL.out]; exact Nat.le_refl _)]
                      exact this
                    clear OW7 GR7 AT7 OL6 R6
                    obtain ⟨wc, rfl⟩ : ∃ W, W = wr := ⟨_, rfl⟩
                    go_loopw [14] (fun av wi => PsL p ls vals g7 len cap7 w7 av wi) (fun av _ => (intOf av).toNat)
                    case atStart => exact ⟨len, .slice pa m pc, Nat.le_refl _, rfl, fun i h1 h2 => absurd h2 (by omega), ST0.out, ⟨rfl, rfl, rfl, Nat.le_refl _, fun _ _ _ => rfl⟩⟩
                    case round =>
                      clear ST0
                      obtain ⟨t, jv, ht, rfl, hlb, rw8, gr8⟩ := hrel
                      have HLB := Lib.hid hlb; clear hlb
                      have RW8 := Lib.hid rw8; clear rw8
                      have GR8 := Lib.hid gr8; clear gr8
                      have t1 : (t : Int) < (len : Int) + 1 := by omega
                      have t2 : (0 : Int) ≤ (t : Int) := by omega
                      by_cases ht0 : t = 0
                      · have t3 : ¬ ((0 : Int) < (t : Int)) := by omega
                        have H2 : Hid (0 < t → lbf (ck k (sup ds)) (ls.getD (t - 1) []) = false) := fun h => absurd h (by omega)
                        clear ht0
                        have ST := Lib.hid (World.ownsRow.stored RW8.out t (.slice pa m pc))
                        have c8 := RW8.out.cellAt t (by omega)
                        rw [place_get VL.out ht] at c8
                        have f8 := RW8.out.frozenAt t
                        have OLI : Hid (OL (fun k => S k ∨ (wo.heap.size ≤ k ∧ k < w7.heap.size)) (wr.setCell ⟨g7, t, none⟩ (.slice pa m pc)) (.slice (some ⟨g7, 0, none⟩) (len + 1) cap7) (ls.take t ++ p :: ls.drop t) (vals.take t ++ .slice pa m pc :: vals.drop t)) := by
                          have h := ST.out.1
                          rw [place_set VL.out ht] at h
                          exact OLP.out.insert HLN.out ht (gb_trans GR8.out ST.out.2) h
                        have PR2 : Hid (PrK (tb ds 16 root) (sup ds) (k + 1) (ls.take t ++ p :: ls.drop t)) := by
                          have h1 := HLB.out
                          show PrK _ _ _ _
                          rw [CKE.out]
                          rw [CKE.out] at h1
                          exact PRK.out.add VS.out (by rw [HN3.out]; exact hkN) PP.out (by rw [HLN.out]; exact ht) (fun i a b => h1 i a (by rw [HLN.out] at b; exact b)) H2.out
                        have BF : Hid (Below w5.heap.size w5 (wr.setCell ⟨g7, t, none⟩ (.slice pa m pc))) := below_app (v := .slice (some ⟨g7, 0, none⟩) 0 0) B7.out (gb_trans GR8.out ST.out.2) (fun g hg => own_ge hg G7.out) B7.out.size
                        have LEN : Hid ((ls.take t ++ p :: ls.drop t).length = len + 1) := by show _ = _; simp [HLN.out]; omega
                        clear ST
                        go_wp2_with fail
                        go_roundw
                        case rel => exact ⟨k + 1, len + 1, _, _, _, _, _, by omega, by omega, by go_num, rfl, LEN.out, PR2.out, OLI.out, SB.out, BF.out⟩
                        case measure => simp [intOf]; omega
                      · have t3 : (0 : Int) < (t : Int) := by omega
                        have t4 : (0 : Int) ≤ (t : Int) - 1 := by omega
                        have t5 : (t : Int) - 1 < (len : Int) + 1 := by omega
                        have t6 : t - 1 + 1 = t := by omega
                        have T6 := Lib.hid t6; clear t6
                        obtain ⟨au, cu, hau, iau⟩ := LAU.out (t - 1) (by omega)
                        have c9 := RW8.out.cellAt (t - 1) (by omega)
                        have sg := shift_get (j := jv) (m := t - 1) VL.out (by omega)
                        rw [T6.out] at sg
                        rw [sg, hau] at c9
                        have lub := LUB.out (t - 1) (by omega)
                        have C79 := Lib.hid (before_any (c1 := pc) (c2 := cu) (PA.out _ GR8.out) (iau _ GR8.out) HML.out.symm rfl (by omega) (by omega))
                        have IAU := Lib.hid iau
                        have HAU := Lib.hid hau
                        clear sg iau hau
                        obtain ⟨lu, hlu⟩ : ∃ lu, (ls.getD (t - 1) []).length = lu := ⟨_, rfl⟩
                        rw [hlu] at c9 C79 HAU lub
                        clear hlu
                        cases hb : lbf p (ls.getD (t - 1) [])
                        · have H2 : Hid (0 < t → lbf (ck k (sup ds)) (ls.getD (t - 1) []) = false) := fun _ => by rw [← CKE.out]; exact hb
                          rw [hb] at C79
                          clear hb
                          go_wp2_with fail
                          refine C79.out.mono ?_
                          clear C79 c9
                          rintro e w9 ⟨rfl, hq⟩
                          obtain ⟨q9, hq9⟩ := hq
                          have RW9 : Hid (w9.ownsRow 0 53 1 (.slice (some ⟨g7, 0, none⟩) (len + 1) cap7) (len + 1) (vals.take t ++ jv :: vals.drop t)) := by show World.ownsRow _ _ _ _ _ _ _; rw [hq9]; exact RW8.out
                          have GR9 : Hid (w7.grownBy w9 (some g7)) := by show World.grownBy _ _ _; rw [hq9]; exact ⟨GR8.out.os, GR8.out.tape, GR8.out.output, GR8.out.size, GR8.out.block⟩
                          clear hq9 RW8 GR8
                          have ST := Lib.hid (World.ownsRow.stored RW9.out t (.slice pa m pc))
                          have c8 := RW9.out.cellAt t (by omega)
                          rw [place_get VL.out ht] at c8
                          have f8 := RW9.out.frozenAt t
                          have OLI : Hid (OL (fun k => S k ∨ (wo.heap.size ≤ k ∧ k < w7.heap.size)) (w9.setCell ⟨g7, t, none⟩ (.slice pa m pc)) (.slice (some ⟨g7, 0, none⟩) (len + 1) cap7) (ls.take t ++ p :: ls.drop t) (vals.take t ++ .slice pa m pc :: vals.drop t)) := by
                            have h := ST.out.1
                            rw [place_set VL.out ht] at h
                            exact OLP.out.insert HLN.out ht (gb_trans GR9.out ST.out.2) h
                          have PR2 : Hid (PrK (tb ds 16 root) (sup ds) (k + 1) (ls.take t ++ p :: ls.drop t)) := by
                            have h1 := HLB.out
                            show PrK _ _ _ _
                            rw [CKE.out]
                            rw [CKE.out] at h1
                            exact PRK.out.add VS.out (by rw [HN3.out]; exact hkN) PP.out (by rw [HLN.out]; exact ht) (fun i a b => h1 i a (by rw [HLN.out] at b; exact b)) H2.out
                          have BF : Hid (Below w5.heap.size w5 (w9.setCell ⟨g7, t, none⟩ (.slice pa m pc))) := below_app (v := .slice (some ⟨g7, 0, none⟩) 0 0) B7.out (gb_trans GR9.out ST.out.2) (fun g hg => own_ge hg G7.out) B7.out.size
                          have LEN : Hid ((ls.take t ++ p :: ls.drop t).length = len + 1) := by show _ = _; simp [HLN.out]; omega
                          clear ST
                          go_wp2_with fail
                          go_roundw
                          case rel => exact ⟨k + 1, len + 1, _, _, _, _, _, by omega, by omega, by go_num, rfl, LEN.out, PR2.out, OLI.out, SB.out, BF.out⟩
                          case measure => simp [intOf]; omega
                        · have HL2 : Hid (∀ i, t - 1 ≤ i → i < len → lbf p (ls.getD i []) = true) := fun i h1 h2 => by
                            by_cases e : i = t - 1
                            · rw [e]; exact hb
                            · exact HLB.out i (by omega) h2
                          rw [hb] at C79
                          clear hb
                          go_wp2_with fail
                          refine C79.out.mono ?_
                          clear C79 c9
                          rintro e w9 ⟨rfl, hq⟩
                          obtain ⟨q9, hq9⟩ := hq
                          have RW9 : Hid (w9.ownsRow 0 53 1 (.slice (some ⟨g7, 0, none⟩) (len + 1) cap7) (len + 1) (vals.take t ++ jv :: vals.drop t)) := by show World.ownsRow _ _ _ _ _ _ _; rw [hq9]; exact RW8.out
                          have GR9 : Hid (w7.grownBy w9 (some g7)) := by show World.grownBy _ _ _; rw [hq9]; exact ⟨GR8.out.os, GR8.out.tape, GR8.out.output, GR8.out.size, GR8.out.block⟩
                          clear hq9 RW8 GR8
                          have ST := Lib.hid (World.ownsRow.stored RW9.out t (.slice au lu cu))
                          have c8 := RW9.out.cellAt t (by omega)
                          rw [place_get VL.out ht] at c8
                          have f8 := RW9.out.frozenAt t
                          have c9 := RW9.out.cellAt (t - 1) (by omega)
                          have sg := shift_get (j := jv) (m := t - 1) VL.out (by omega)
                          rw [T6.out] at sg
                          rw [sg, HAU.out] at c9
                          clear sg
                          have RT : Hid ((w9.setCell ⟨g7, t, none⟩ (.slice au lu cu)).ownsRow 0 53 1 (.slice (some ⟨g7, 0, none⟩) (len + 1) cap7) (len + 1) (vals.take (t - 1) ++ vals.getD (t - 1) (.bool false) :: vals.drop (t - 1))) := by
                            have h := ST.out.1
                            have := shift_set (j := jv) (m := t - 1) VL.out (by omega)
                            rw [T6.out, HAU.out] at this
                            rw [this] at h
                            rw [HAU.out]
                            exact h
                          have GT : Hid (w7.grownBy (w9.setCell ⟨g7, t, none⟩ (.slice au lu cu)) (some g7)) := gb_trans GR9.out ST.out.2
                          clear ST
                          go_wp2_with fail
                          go_roundw
                          case rel => exact ⟨t - 1, _, by omega, congrArg (Value.int .i64) (by omega), HL2.out, RT.out, GT.out⟩
                          case measure => simp [intOf]; omega
            · obtain rfl : k = N := by omega
              have kN : ¬ ((k : Int) < (k : Int)) := by omega
              have PR : Hid (ls = prs (tb ds 16 root) (sup ds)) := (PrK.done (by rw [HN3.out]; exact PRK.out)).uniq (prs_prl VS.out)
              have B9 := Lib.hid (Below.over B5.out B5.out.size BL.out)
              have LA := Lib.hid OLH.out.lAt.1
              by_cases h5 : 500 < len
              · have E : Hid (icE ds root = 3) := by show _ = _; unfold icE; rw [if_neg (by rw [HCK.out]; simp), if_pos (Or.inr (by rw [← PR.out, HLN.out]; exact h5))]
                have i5 : (500 : Int) < (len : Int) := by omega
                go_wp2_with fail
                go_ret2
                exact lq_bad E.out (by omega) B9.out
              · have E : Hid (icE ds root = 0) := by show _ = _; unfold icE; rw [if_neg (by rw [HCK.out]; simp), if_neg (by rw [← PR.out, HLN.out, HNV.out]; omega)]
                have EL : Hid (icL ds root = ls) := by show _ = _; unfold icL; rw [if_pos E.out]; exact PR.out.symm
                have i5 : ¬ ((500 : Int) < (len : Int)) := by omega
                go_wp2_with fail
                go_ret2
                rw [EL.out, E.out]
                exact ⟨oa, oc, by rw [HLN.out]; rfl, LA.out, B9.out⟩
  · have E : Hid (icE ds root = ck0) := by show _ = _; unfold icE; rw [HCK.out, if_pos hc]
    have hcb : (ck0 != 0) = true := by simpa using hc
    have HC := Lib.hid hc; clear hc
    go_wp2_with fail
    go_ret2
    exact lq_bad E.out HC.out B2.out

end Go.Proofs.Ythhogbligfmpdaa
