/- Exists. -/
import Derived.Test.YthhogbligfmpdaaYm
import Derived.Test.YthhogbligfmpdaaYf
import Derived.Test.YthhogbligfmpdaaPm
set_option linter.unusedVariables false
set_option linter.unusedSimpArgs false
namespace Go.Proofs.Ythhogbligfmpdaa
open Go.RowKit Bd

theorem fixed_tab {w : World} {M : ML} {ns : List Nd} {dn : List (Nd × Int)} (h : St w M ns dn) {a v bit : Int} {k : Nat} {b : Bool} {f : Nat → Bool} (hk : (15 : Int) - k = v) (hk16 : k < 16) (ha : Ref ns a) (ta : Tab ns a f) (hb : bit = (b.toNat : Nat)) (hl : ns.length + 65536 ≤ 1000000000000) :
    Calls Try.prog 66 #[.pointer (some ⟨M.b, 0, none⟩), .int .i64 a, .int .i64 v, .int .i64 bit] w (RPost w M ns (fun x => f (setb k b x)) 65536) := by
  have p := fix_pow h.good.ord ha
  refine (fixed_any h.mgr h.good ha (by omega) hb (by omega)).mono ?_
  rintro e w' ⟨ns', r, v', rfl, fr, mg, sp⟩
  obtain ⟨ms, e1, e2⟩ := fr.ext
  refine ⟨ns', r, dn, v', rfl, ⟨ms, e1, by omega⟩, fr.ref, ?_, ⟨mg, fr.good, by rw [e1]; exact h.don.app h.good.ord ms⟩, sp⟩
  show tb ns' 16 r = _
  rw [fr.tab 16 (by have := (h.good.ord.top_lt ha).1; omega)]
  exact fx_fn hk hk16 ta

/-- A block that is none of the manager's is as it was. -/
structure Apt (w W : World) (M : ML) (b : Nat) : Prop where
  lt : b < W.heap.size
  far : ¬ M.foot b
  same : W.heap[b]? = w.heap[b]?

theorem Apt.step {w W W' : World} {M M' : ML} {b : Nat} (h : Apt w W M b) (s : Step W M W' M') : Apt w W' M' b := by
  refine ⟨Nat.lt_of_lt_of_le h.lt s.size, ?_, (s.keep b h.lt h.far).trans h.same⟩
  have f := h.far
  have l := h.lt
  rintro (e | e | e | e)
  · exact f (Or.inl (e.trans s.b))
  · exact f (Or.inr (Or.inl (e.trans s.bi)))
  · exact f (Or.inr (Or.inr (Or.inl (e.trans s.bd))))
  · rcases s.loc b e with e' | e'
    · exact f (Or.inr (Or.inr (Or.inr e')))
    · omega

theorem Step.of_below {w w' : World} (M : ML) (h : Below w.heap.size w w') : Step w M w' M := ⟨rfl, rfl, rfl, h.os, h.tape, h.output, h.size, fun k hk _ => h.block k hk, fun _ h => Or.inl h⟩
theorem St.below {w w' : World} {M : ML} {ns : List Nd} {dn : List (Nd × Int)} (h : St w M ns dn) (hb : Below w.heap.size w w') : St w' M ns dn := h.of_step fun k hk => hb.block k (h.mgr.lt hk)

def ExL (vs : List Int) (f : Nat → Bool) (M : ML) (w2 w7 : World) (la : Option Addr) (n : Nat) (nv iv : Value) (wr : World) : Prop :=
  ∃ (j : Nat) (ns : List Nd) (r : Int) (dn : List (Nd × Int)) (v' : Value), j ≤ n ∧ iv = .int .i64 j ∧ nv = .int .i64 r ∧ St wr { M with v := v' } ns dn ∧ Ref ns r ∧ Tab ns r (exV (vs.take j) f) ∧ ns.length ≤ 2000 + j * 196608 ∧ Mid w2 wr { M with v := v' } ∧ ∀ b o, la = some ⟨b, o, none⟩ → vs ≠ [] → Apt w7 wr { M with v := v' } b

theorem take_snoc {vs : List Int} {j : Nat} (h : j < vs.length) : vs.take (j + 1) = vs.take j ++ [vs.getD j 0] := by
  rw [List.take_succ_eq_append_getElem h, List.getD_eq_getElem?_getD, List.getElem?_eq_getElem h]
  rfl

open Classical in
set_option maxRecDepth 100000 in
set_option maxHeartbeats 2000000 in
theorem exists_any {w : World} {ds : List Nd} {a : Option Addr} {n cap : Nat} {root : Int} (hd : DAt w ds a) (hn : ds.length = n) (hl : n ≤ 9223372036854775807) {vs : List Int} {va : Option Addr} {vn vc : Nat} (hv : IAt w vs va) (hvn : vs.length = vn) (hvl : vn ≤ 2000000) :
    Calls Try.prog 36 #[.agg #[.slice a n cap, .int .i64 root], .slice va vn vc] w (DePost w (exErr (chk ds root) vs) (tl (exV vs (fnT (tb ds 16 root))))) := by
  obtain ⟨x1, x2, x3, x4⟩ := two_new w (.cells #[.slice a n cap, .int .i64 root] 27) (.cells #[.slice none 0 0, .int .i64 0] 27) _ rfl
  have X1 := Lib.hid x1; clear x1
  have X2 := Lib.hid x2; clear x2
  have X3 := Lib.hid x3; clear x3
  have X4 := Lib.hid x4; clear x4
  have HD := Lib.hid hd; clear hd
  have HV := Lib.hid hv; clear hv
  have C := Lib.hid (check_any (cap := cap) (root := root) (HD.out.below X4.out) hn hl)
  have HN := Lib.hid hn; clear hn
  have HVN := Lib.hid hvn; clear hvn
  go_enter Try.func36, Try.ntmps36
  go_wp2_with fail
  generalize (w.alloc (.cells #[.slice a n cap, .int .i64 root] 27)).alloc (.cells #[.slice none 0 0, .int .i64 0] 27) = w1 at *
  refine C.out.mono ?_
  clear C
  rintro e w2 ⟨rfl, hb⟩
  have B2 := Lib.hid (Below.over X4.out X4.out.size hb)
  have b1 := Lib.hid ((hb.block _ (by rw [X3.out]; omega)).trans X1.out)
  have b2 := Lib.hid ((hb.block _ (by rw [X3.out]; omega)).trans X2.out)
  have hsz2 : w.heap.size + 2 ≤ w2.heap.size := by have := hb.size; rw [X3.out] at this; exact this
  clear hb X1 X2 X3 X4
  obtain ⟨ck, hck⟩ : ∃ ck, chk ds root = ck := ⟨_, rfl⟩
  rw [hck]
  have CK := Lib.hid hck; clear hck
  by_cases hc : ck = 0
  · subst hc
    obtain ⟨q1, q2, q3, q4, q5⟩ := chk_zero CK.out
    have OD := Lib.hid q2; clear q2 q4 q5
    have hn2 : n ≤ 2000 := by rw [HN.out] at q1; exact q1
    have RF := Lib.hid q3; clear q3 q1
    have SV := Lib.hid (someNoVar_any (cap := vc) (HV.out.below B2.out) HVN.out (by omega))
    go_wp2_with fail
    refine SV.out.mono ?_
    clear SV
    rintro e wx ⟨rfl, hwx⟩
    replace hwx := hwx.symm
    subst hwx
    by_cases hall : ∀ z ∈ vs, 0 ≤ z ∧ z < 16
    · have dv : decide (¬ ∀ z ∈ vs, 0 ≤ z ∧ z < 16) = false := decide_eq_false (fun h => h hall)
      rw [dv]
      have EX : Hid (exErr (chk ds root) vs = 0) := by show _ = _; rw [CK.out]; exact exErr_ok hall
      have ALL := Lib.hid hall; clear hall dv
      go_wp2_with fail
      refine (new_any w2).mono ?_
      rintro e w3 ⟨M, rfl, st3, bl3, ft3⟩
      have ST3 := Lib.hid st3; clear st3
      have M3 : Hid (Mid w2 w3 M) := ⟨bl3, ft3⟩
      clear bl3 ft3
      obtain ⟨y0, y1, _⟩ := cells2 ((M3.out.bel.block _ (by omega)).trans b1.out)
      go_wp2_with fail
      refine (add_any (cap := cap) ST3.out ((HD.out.below B2.out).below M3.out.bel) ((HD.out.below B2.out).far M3.out (Nat.le_refl _)) OD.out RF.out HN.out hn2 (by simp)).mono ?_
      rintro e w4 ⟨ns4, r4, dn4, v4, rfl, ext4, rf4, tb4, st4, sp4⟩
      have M4 := Lib.hid (M3.out.step sp4)
      have L4 : ns4.length ≤ 2000 := by
        obtain ⟨ms, e1, e2⟩ := ext4
        rw [e1]; simp; omega
      have ST4 := Lib.hid st4
      have TB4 := Lib.hid tb4
      have RF4 := Lib.hid rf4
      clear ext4 sp4 st4 tb4 y0 y1 rf4
      have B4 := Lib.hid (Below.over B2.out B2.out.size M4.out.bel)
      have V4 := Lib.hid (callsIn_wide.1 (Sv.values_in Fence.wide 1 trivial rfl va vn vc w4))
      have N5 : Hid ((w4.alloc (.cells #[.slice va vn vc] 53)).cell? ⟨w4.heap.size, 0, none⟩ = some (.slice va vn vc)) := cell_one_new w4 (.slice va vn vc) 53 0 _ rfl
      have B5 : Hid (Below w4.heap.size w4 (w4.alloc (.cells #[.slice va vn vc] 53))) := (Below.refl _ w4).alloc (Nat.le_refl _) _
      have S5 : (w4.alloc (.cells #[.slice va vn vc] 53)).heap.size = w4.heap.size + 1 := by simp
      have I5 : Hid (Sv.Ints (w4.alloc (.cells #[.slice va vn vc] 53)).heap.size (w4.alloc (.cells #[.slice va vn vc] 53)) (.slice va vn vc) vs) := by
        by_cases h0 : vs = []
        · subst h0
          left
          exact ⟨va, vc, by rw [← HVN.out]; rfl, rfl⟩
        · right
          obtain ⟨b, o, rfl, d⟩ := ((HV.out.below B4.out).below ((Below.refl _ w4).alloc (Nat.le_refl _) (.cells #[.slice va vn vc] 53))) h0
          refine ⟨b, o, vc, by rw [HVN.out], ?_, fun j hj => ?_⟩
          · have := lt_of_cell (d 0 (List.length_pos_iff.2 h0)); exact this
          · rw [← List.getD_eq_getElem?_getD]; exact d j hj
      go_wp2_with fail
      refine V4.out.mono ?_
      clear V4
      rintro e w5 ⟨rfl, hw5⟩
      replace hw5 := hw5.symm
      generalize w4.alloc (.cells #[.slice va vn vc] 53) = w5' at *
      subst hw5
      go_wp2_with fail
      refine (sorted_any (by rw [HVN.out]; exact hvl) (by omega) N5.out I5.out).mono ?_
      rintro e w6 ⟨a6, c6, rfl, ow6, bl6⟩
      have CP := Lib.hid (compact_own2 ow6 (by rw [HVN.out]; exact hvl) bl6.size)
      have B6 := Lib.hid (Below.over B5.out B5.out.size bl6)
      clear ow6 bl6 I5 N5
      go_wp2_with fail
      refine CP.out.mono ?_
      clear CP
      rintro e w7 ⟨rfl, ia7, fr7, bl7⟩
      have B7 := Lib.hid (B6.out.trans (bl7.mono (by omega)))
      have IA7 : Hid (IAt w7 (cpt vs) a6) := ia7
      have FR7 := Lib.hid fr7
      clear ia7 fr7 bl7 B6
      have EC : Hid (tl (exV vs (fnT (tb ds 16 root))) = tl (exV (cpt vs) (fnT (tb ds 16 root)))) := by show _ = _; rw [exV_cpt]
      have CM : Hid (∀ z ∈ cpt vs, 0 ≤ z ∧ z < 16) := fun z hz => ALL.out z (cpt_mem.1 hz)
      have CL : (cpt vs).length ≤ 16 := cpt_len ALL.out
      have LC : Hid ((Lib.compact (srt vs)).length = (cpt vs).length) := rfl
      rw [LC.out]
      have ST7 := Lib.hid (ST4.out.below B7.out)
      have M7 := Lib.hid (M4.out.step (Step.of_below _ B7.out))
      have AP7 : Hid (∀ b o, a6 = some ⟨b, o, none⟩ → cpt vs ≠ [] → Apt w7 w7 { M with v := v4 } b) := by
        intro b o e hne
        refine ⟨?_, ?_, rfl⟩
        · obtain ⟨b', o', e', d'⟩ := IA7.out hne
          have := lt_of_cell (d' 0 (List.length_pos_iff.2 hne))
          rw [e] at e'
          injection e' with e'
          injection e' with e1 e2
          rw [e1]; exact this
        · intro hf
          have h1 := ST4.out.mgr.lt hf
          have h2 := FR7.out b (by rw [e]; rfl)
          omega
      clear FR7 ST4 M4 LC
      generalize cpt vs = us at *
      obtain ⟨f0, hf0⟩ : ∃ f0, fnT (tb ds 16 root) = f0 := ⟨_, rfl⟩
      rw [hf0] at TB4 EC
      have T7 := Lib.hid TB4.out; clear TB4
      go_wp2_with fail
      go_loopw [8, 29] (fun nv iv wr => ExL us f0 M w2 w7 a6 us.length nv iv wr) (fun _ iv _ => us.length - (intOf iv).toNat)
      case atStart => exact ⟨0, ns4, r4, dn4, v4, by omega, rfl, rfl, ST7.out, RF4.out, T7.out, by omega, M7.out, AP7.out⟩
      case round =>
        obtain ⟨j, ns, r, dn, v', hj, rfl, rfl, st, rf, tb, hln, mid, apt⟩ := hrel
        have ST := Lib.hid st; clear st
        have RF := Lib.hid rf; clear rf
        have TB := Lib.hid tb; clear tb
        have MD := Lib.hid mid; clear mid
        have AP := Lib.hid apt; clear apt
        by_cases hjn : j < us.length
        · have i1 : (j : Int) < (us.length : Int) := by omega
          have hne : us ≠ [] := by intro e; rw [e] at hjn; simp at hjn
          obtain ⟨bu, ou, rfl, du⟩ := IA7.out hne
          have apj := AP.out bu ou rfl hne
          have c1 := (World.cell?_of_block (a := ⟨bu, ou + j, none⟩) apj.same).trans (du j hjn)
          clear du apj
          obtain ⟨x, hx⟩ : ∃ x, us.getD j 0 = x := ⟨_, rfl⟩
          rw [hx] at c1
          obtain ⟨hx0, hx1⟩ : 0 ≤ x ∧ x < 16 := by rw [← hx]; exact CM.out _ (getI_mem hjn)
          have TS := Lib.hid (take_snoc hjn)
          rw [hx] at TS
          clear hx
          obtain ⟨kx, kl⟩ := kO_is hx0 hx1
          have F1 := Lib.hid (fixed_tab (bit := 0) (b := false) ST.out kx kl RF.out TB.out rfl (by omega))
          go_wp2_with fail
          refine F1.out.mono ?_
          clear F1
          rintro e wa ⟨nsa, ra, dna, va', rfl, ⟨msa, rfl, la⟩, rfa, tba, sta, spa⟩
          have hla : (ns ++ msa).length ≤ ns.length + 65536 := by rw [List.length_append]; omega
          have F2 := Lib.hid (fixed_tab (bit := 1) (b := true) sta kx kl (RF.out.app msa) (TB.out.app ST.out.good.ord RF.out) rfl (by omega))
          have MDa := Lib.hid (MD.out.step spa)
          have APa : Hid (∀ b o, some (⟨bu, ou, none⟩ : Addr) = some ⟨b, o, none⟩ → us ≠ [] → Apt w7 wa { M with v := va' } b) := fun b o e h => (AP.out b o e h).step spa
          have RFa := Lib.hid rfa
          have TBa := Lib.hid tba
          have OA := Lib.hid sta.good.ord
          clear rfa tba sta spa
          go_wp2_with fail
          refine F2.out.mono ?_
          clear F2
          rintro e wb ⟨nsb, rb, dnb, vb', rfl, ⟨msb, rfl, lb⟩, rfb, tbb, stb, spb⟩
          have hlb : (ns ++ msa ++ msb).length ≤ ns.length + 131072 := by rw [List.length_append]; omega
          have F3 := Lib.hid (or_any stb (RFa.out.app msb) rfb (TBa.out.app OA.out RFa.out) tbb (by omega))
          have MDb := Lib.hid (MDa.out.step spb)
          have APb : Hid (∀ b o, some (⟨bu, ou, none⟩ : Addr) = some ⟨b, o, none⟩ → us ≠ [] → Apt w7 wb { M with v := vb' } b) := fun b o e h => (APa.out b o e h).step spb
          clear rfb tbb stb spb MDa APa
          go_wp2_with fail
          refine F3.out.mono ?_
          clear F3
          rintro e wc ⟨nsc, rc, dnc, vc', rfl, ⟨msc, rfl, lc⟩, rfc, tbc, stc, spc⟩
          have hlc : (ns ++ msa ++ msb ++ msc).length ≤ ns.length + 196608 := by rw [List.length_append]; omega
          have MDc := Lib.hid (MDb.out.step spc)
          have APc : Hid (∀ b o, some (⟨bu, ou, none⟩ : Addr) = some ⟨b, o, none⟩ → us ≠ [] → Apt w7 wc { M with v := vc' } b) := fun b o e h => (APb.out b o e h).step spc
          have STc := Lib.hid stc
          have RFc := Lib.hid rfc
          have TBc : Hid (Tab (ns ++ msa ++ msb ++ msc) rc (exV (us.take (j + 1)) f0)) := by
            show Tab _ _ _
            rw [TS.out, exV_snoc]
            exact tbc
          clear rfc tbc stc spc MDb APb
          go_wp2_with fail
          go_roundw
          case rel => exact ⟨j + 1, _, rc, dnc, vc', by omega, by go_num, rfl, STc.out, RFc.out, TBc.out, by omega, MDc.out, APc.out⟩
          case measure => simp [intOf]; omega
        · obtain rfl : j = us.length := by omega
          have i1 : ¬ ((us.length : Int) < (us.length : Int)) := by omega
          have TB5 : Hid (Bd.tb ns 16 r = tl (exV us f0)) := by
            have := TB.out
            rw [List.take_length] at this
            exact this
          go_wp2_with fail
          refine (result_any ST.out.mgr ST.out.good (by omega) RF.out TB5.out).mono ?_
          rintro e w8 ⟨a8, cap8, rfl, dn8, hb8⟩
          have B8 := Lib.hid (Below.over B2.out B2.out.size (Below.over MD.out.bel MD.out.bel.size hb8))
          have DN8 := Lib.hid (dn8.le MD.out.bel.size)
          obtain ⟨z0, z1, z2, z3⟩ := cells2 (((Below.over MD.out.bel MD.out.bel.size hb8).block (w.heap.size + 1) (by omega)).trans b2.out)
          clear dn8 hb8
          have E := Lib.hid (de_ok EX.out (tl (exV us f0)))
          have EC2 : Hid (DePost w (exErr (chk ds root) vs) (tl (exV vs (fnT (Bd.tb ds 16 root)))) = DePost w (exErr (chk ds root) vs) (tl (exV us f0))) := by show _ = _; rw [hf0, EC.out]
          generalize outNodes (tl (exV us f0)) = O at *
          generalize outRoot (tl (exV us f0)) = rt at *
          generalize outErr (tl (exV us f0)) = er at *
          have l8 : w.heap.size + 1 < w8.heap.size := lt_of_cell z0
          have FN := Lib.hid (out_fin (x := .slice a8 O.length cap8) (y := .int .i64 rt) DN8.out (show w.heap.size ≤ w.heap.size + 1 by omega) (by omega) B8.out)
          go_wp2_with fail
          refine bodyPost_ret (v := .tuple #[.agg #[.slice a8 O.length cap8, .int .i64 rt], .int .i64 er]) (by simp [results, Try.results36, go_sem, z0, z1]) rfl ?_
          rw [EC2.out]
          refine ⟨a8, cap8, ?_, ?_, ?_⟩
          · rw [E.out.1, E.out.2.1, E.out.2.2]
          · rw [E.out.1]; exact FN.out.1
          · exact FN.out.2
    · have dv : decide (¬ ∀ z ∈ vs, 0 ≤ z ∧ z < 16) = true := decide_eq_true hall
      rw [dv]
      have E := Lib.hid (de_no (show exErr (chk ds root) vs = 1 by rw [CK.out]; exact exErr_arg hall) (by omega) (tl (exV vs (fnT (tb ds 16 root)))))
      clear hall dv
      obtain ⟨z0, z1, z2, z3⟩ := cells2 b2.out
      have FN := Lib.hid (out_fin (x := .slice none 0 0) (y := .int .i64 0) (dNew_nil (w.heap.size + 2) w2 none) (show w.heap.size ≤ w.heap.size + 1 by omega) (by omega) B2.out)
      go_wp2_with fail
      refine bodyPost_ret (v := .tuple #[.agg #[.slice none 0 0, .int .i64 0], .int .i64 1]) (by simp [results, Try.results36, go_sem, z0, z1]) rfl ⟨none, 0, ?_, ?_, ?_⟩
      · rw [E.out.1, E.out.2.1, E.out.2.2]; rfl
      · rw [E.out.1]; exact dNew_nil _ _ _
      · exact FN.out.2
  · have hcb : (ck != 0) = true := by simpa using hc
    have E := Lib.hid (de_no (show exErr (chk ds root) vs = ck by rw [CK.out]; exact exErr_bad hc vs) hc (tl (exV vs (fnT (tb ds 16 root)))))
    have HC := Lib.hid hc; clear hc
    obtain ⟨z0, z1, z2, z3⟩ := cells2 b2.out
    have FN := Lib.hid (out_fin (x := .slice none 0 0) (y := .int .i64 0) (dNew_nil (w.heap.size + 2) w2 none) (show w.heap.size ≤ w.heap.size + 1 by omega) (by omega) B2.out)
    go_wp2_with fail
    refine bodyPost_ret (v := .tuple #[.agg #[.slice none 0 0, .int .i64 0], .int .i64 ck]) (by simp [results, Try.results36, go_sem, z0, z1]) rfl ⟨none, 0, ?_, ?_, ?_⟩
    · rw [E.out.1, E.out.2.1, E.out.2.2]; rfl
    · rw [E.out.1]; exact dNew_nil _ _ _
    · exact FN.out.2

end Go.Proofs.Ythhogbligfmpdaa
