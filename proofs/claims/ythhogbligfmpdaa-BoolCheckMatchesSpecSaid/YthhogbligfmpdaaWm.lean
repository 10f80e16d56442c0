/- The walk from a node that is not finished yet. -/
import Derived.Test.YthhogbligfmpdaaWl
set_option linter.unusedVariables false
set_option linter.unusedSimpArgs false
namespace Go.Proofs.Ythhogbligfmpdaa
open Go.RowKit Bd

theorem DG.reads {w : World} {M : ML} {ns : List Nd} {dn : List (Nd × Int)} {D : DL} {L : List Int} {O : List Nd} {rt : Int} (h : DG w M ns dn D L O rt) {gm mcap i : Nat} (hv : M.v = .slice (some ⟨gm, 0, none⟩) ns.length mcap) (hi : i < ns.length) :
    w.cell? ⟨D.bn, 0, none⟩ = some (.map (some D.bm)) ∧
    w.cell? ⟨D.bw, 0, none⟩ = some (.func (.func 88) #[] #[.pointer (some ⟨D.bn, 0, none⟩), .pointer (some ⟨D.bw, 0, none⟩), .pointer (some ⟨D.bv, 0, none⟩), .pointer (some ⟨D.bo, 0, none⟩)]) ∧
    w.cell? ⟨D.bv, 0, none⟩ = some (.pointer (some ⟨M.b, 0, none⟩)) ∧ w.cell? ⟨M.b, 0, none⟩ = some (.slice (some ⟨gm, 0, none⟩) ns.length mcap) ∧
    w.cell? ⟨gm, i * 3, none⟩ = some (.int .i64 (nd ns i).1) ∧ w.cell? ⟨gm, i * 3 + 1, none⟩ = some (.int .i64 (lo ns i)) ∧ w.cell? ⟨gm, i * 3 + 2, none⟩ = some (.int .i64 (Bd.hi ns i)) := by
  obtain ⟨g', c', hv', m0, m1, m2⟩ := h.mgr.at hi
  rw [hv] at hv'
  simp only [Value.slice.injEq, Option.some.injEq, Addr.mk.injEq, and_true, true_and] at hv'
  obtain ⟨rfl, rfl⟩ := hv'
  have hmc := h.mgr.c0
  rw [hv] at hmc
  exact ⟨by simp [World.cell?, h.cn], by simp [World.cell?, h.cw], by simp [World.cell?, h.cv], hmc, m0, m1, m2⟩

theorem add_le_of {a p q : Nat} (h : a + (p + p) ≤ 1000000) (hq : q ≤ p) : a + q ≤ 1000000 := by omega
theorem add_le_of2 {a c p q : Nat} (h : a + (p + p) ≤ 1000000) (hq : q ≤ p) (hc : c + 1 ≤ a + p) : c + q ≤ 1000000 := by omega
theorem add_le_of3 {a c d p : Nat} (h : a + (p + p) ≤ 1000000) (hc : c + 1 ≤ a + p) (hd : d + 1 ≤ c + p) : d + 1 ≤ 1000000 := by omega
theorem lens2 {ns : List Nd} {L L1 : List Int} {N : Nat} (o : Ord ns) (hN : 16 ≤ N) {r a : Int} (hr : Ref ns a) (h1 : lev ns a < lev ns r) (e : L1.map (key ns) = dfs N (tb ns N a) (L.map (key ns))) : L1.length + 1 ≤ L.length + 2 ^ (lev ns r - 1) := by
  have hle := dfs_len (lev ns a) (tb ns (lev ns a) a) (L.map (key ns))
  rw [← dfs_at o hr _ (Nat.le_trans (lev_le o hr) hN), ← e] at hle
  simp only [List.length_map] at hle
  have := pow_mono (show lev ns a ≤ lev ns r - 1 by omega)
  omega
theorem num_look {w : World} {b : Nat} {L2 : List Int} {i m : Nat} (h : mapIs inV w b (numL L2 ++ [((i : Int), (m : Int))])) (hm : m = L2.length) (hn : (i : Int) ∉ L2) :
    (Instr.lookup 109 (.map (some b)) (.int .i64 (i : Int)) false).run Try.prog w = .ok (.int .i64 ((L2.length : Nat) : Int)) w := by
  have := h.look1 key3 Try.underlying109 (i : Int)
  rw [List.lookup_append, look_numL, if_neg hn] at this
  subst hm
  simpa [inV] using this
theorem lens {ns : List Nd} {L L1 : List Int} {N : Nat} (o : Ord ns) (hN : 16 ≤ N) {r a : Int} (hr : Ref ns a) (hl : L.length + 2 ^ lev ns r ≤ 1000000) (h1 : lev ns a < lev ns r) (e : L1.map (key ns) = dfs N (tb ns N a) (L.map (key ns))) : L1.length + 1 ≤ L.length + 2 ^ (lev ns r - 1) := by
  have hle := dfs_len (lev ns a) (tb ns (lev ns a) a) (L.map (key ns))
  rw [← dfs_at o hr _ (Nat.le_trans (lev_le o hr) hN), ← e] at hle
  simp only [List.length_map] at hle
  have := pow_mono (show lev ns a ≤ lev ns r - 1 by omega)
  omega

set_option maxRecDepth 100000 in
set_option maxHeartbeats 1000000 in
theorem walk_new {N : Nat} (hN : 16 ≤ N) {w : World} {M : ML} {ns : List Nd} {dn : List (Nd × Int)} {D : DL} {L : List Int} {O : List Nd} {rt : Int} (h : DG w M ns dn D L O rt) (g : Bd.Good ns) (ws : WS ns L O) (i : Nat) (hr : Ref ns i) (hm : (i : Int) ∉ L) (hlen : L.length + 2 ^ lev ns i ≤ 1000000) (hns : ns.length ≤ 9223372036854775807)
    (ih : ∀ (w : World) (D : DL) (L : List Int) (O : List Nd) (a : Int), a < i → Ref ns a → DG w M ns dn D L O rt → WS ns L O → L.length + 2 ^ lev ns a ≤ 1000000 →
      Calls Try.prog 88 #[.int .i64 a, .pointer (some ⟨D.bn, 0, none⟩), .pointer (some ⟨D.bw, 0, none⟩), .pointer (some ⟨D.bv, 0, none⟩), .pointer (some ⟨D.bo, 0, none⟩)] w (DPost N w M ns dn D L rt a)) :
    Calls Try.prog 88 #[.int .i64 i, .pointer (some ⟨D.bn, 0, none⟩), .pointer (some ⟨D.bw, 0, none⟩), .pointer (some ⟨D.bv, 0, none⟩), .pointer (some ⟨D.bo, 0, none⟩)] w (DPost N w M ns dn D L rt i) := by
  have hl : (Instr.lookup 109 (.map (some D.bm)) (.int .i64 i) true).run Try.prog w = .ok (.tuple #[.int .i64 0, .bool false]) w := by
    have := h.map.look key3 Try.underlying109 i
    rw [look_numL, if_neg hm] at this
    exact this
  have hi : i < ns.length := by have := hr.2; omega
  have IH := Lib.hid ih; clear ih
  obtain ⟨gm, mcap, hmv, _, _, _⟩ := h.mgr.at hi
  have HMV := Lib.hid hmv; clear hmv
  obtain ⟨c1, c2, c3, hmc, m0, m1, m2⟩ := h.reads HMV.out hi
  have hi0 : (0 : Int) ≤ (i : Int) := Int.natCast_nonneg _
  have hi1 : (i : Int) < (ns.length : Int) := by omega
  have H := Lib.hid h; clear h
  have HM := Lib.hid hm; clear hm
  have G := Lib.hid g; clear g
  have WS0 := Lib.hid ws; clear ws
  obtain ⟨hl1, hl2, hl3⟩ := G.out.ord.ref_lo hr hi0
  obtain ⟨hh1, hh2, hh3⟩ := G.out.ord.ref_hi hr hi0
  have tl := G.out.ord.top_lt hl1
  have th := G.out.ord.top_lt hh1
  have tr := G.out.ord.top_lt hr
  have ll : lev ns (lo ns i) < lev ns i := by unfold lev; omega
  have lh : lev ns (Bd.hi ns i) < lev ns i := by unfold lev; omega
  have epw : 2 ^ lev ns i = 2 ^ (lev ns i - 1) + 2 ^ (lev ns i - 1) := by rw [show lev ns i = (lev ns i - 1) + 1 from by omega, Nat.pow_succ]; simp; omega
  have pl := pow_mono (show lev ns (lo ns i) ≤ lev ns i - 1 by omega)
  have ph := pow_mono (show lev ns (Bd.hi ns i) ≤ lev ns i - 1 by omega)
  have b1 : L.length + 2 ^ lev ns (lo ns i) ≤ 1000000 := by rw [epw] at hlen; exact add_le_of hlen pl
  have LL := Lib.hid ll
  have LH := Lib.hid lh
  have EPW := Lib.hid epw
  have PH := Lib.hid ph
  have B1 := Lib.hid b1
  have HLE := Lib.hid hlen
  clear hlen hl3 hh3 tl th tr ll lh epw pl ph b1
  go_enter Try.func88, Try.ntmps88
  go_wp2_with fail
  go_still_tail 9, (by kernel_rfl)
  go_wp2_with fail
  refine (IH.out w.drew D L O _ hl2 hl1 H.out.drew WS0.out B1.out).mono ?_
  rintro e w1 ⟨v1, L1, O1, rfl, dg1, ws1, ek1, fs1⟩
  obtain ⟨x1, x2, x3, xmc, y0, y1, y2⟩ := dg1.reads HMV.out hi
  have DG1 := Lib.hid dg1; clear dg1
  have WS1 := Lib.hid ws1; clear ws1
  have EK1 := Lib.hid ek1; clear ek1
  have FS1 := Lib.hid fs1; clear fs1
  have B2 : Hid (L1.length + 2 ^ lev ns (Bd.hi ns i) ≤ 1000000) := by
    have h1 := HLE.out
    rw [EPW.out] at h1
    exact add_le_of2 h1 PH.out (lens G.out.ord hN hl1 HLE.out LL.out EK1.out)
  clear c1 c2 c3 hmc m0 m1 m2 hl
  go_wp2_with fail
  go_still_tail 9, (by kernel_rfl)
  go_wp2_with fail
  refine (IH.out w1.drew { D with v := v1 } L1 O1 _ hh2 hh1 DG1.out.drew WS1.out B2.out).mono ?_
  rintro e w2 ⟨v2, L2, O2, rfl, dg2, ws2, ek2, fs2⟩
  obtain ⟨z1, z2, z3, zmc, u0, u1, u2⟩ := dg2.reads HMV.out hi
  have DG2 := Lib.hid dg2; clear dg2
  have WS2 := Lib.hid ws2; clear ws2
  have EK2 := Lib.hid ek2; clear ek2
  have FS2 := Lib.hid fs2; clear fs2
  clear x1 x2 x3 xmc y0 y1 y2
  obtain ⟨i0, hi0', hz0, hz1, hz2⟩ := info_parts info77
  obtain ⟨av, cpv, hv2⟩ := DG2.out.sl
  have co2 : w2.cell? ⟨D.bo, 0, none⟩ = some (.slice av O2.length cpv) := by simp [World.cell?, DG2.out.co]; exact hv2
  have HV2 : Hid (v2 = .slice av O2.length cpv) := hv2
  clear hv2
  have lt1 := lt_of_some DG2.out.co
  have lt2 := lt_of_cell u0
  have lt3 := lt_of_cell z3
  have lt4 := lt_of_cell zmc
  have PU := Lib.hid (WS.push hN G.out hr hi0 HM.out WS0.out.refs WS0.out.closed WS1.out EK1.out WS2.out EK2.out)
  have NM := Lib.hid PU.out.1
  have OLL := Lib.hid WS2.out.len
  have OL : Hid (O2.length + 1 ≤ 1000000) := by
    show _ ≤ _
    rw [OLL.out]
    have h1 := HLE.out
    rw [EPW.out] at h1
    exact add_le_of3 h1 (lens G.out.ord hN hl1 HLE.out LL.out EK1.out) (lens2 G.out.ord hN hh1 LH.out EK2.out)
  have row2 : Hid (w2.ownsRow 0 77 3 (.slice av O2.length cpv) O2.length (nsC O2)) := by rw [← HV2.out]; exact DG2.out.row
  generalize rf (L1.map (key ns)) N (tb ns N (lo ns i)) = r1 at *
  generalize rf (L2.map (key ns)) N (tb ns N (Bd.hi ns i)) = r2 at *
  generalize (nd ns i).1 = vr at *
  go_wp2_with fail
  go_region_law (refine step_append_lies _ (by rfl) _ _ _ (by rfl) 0 77 i0 _ 3 24 Try.underlying25 hi0' hz0 hz1 hz2 rfl (by omega) (.slice av O2.length cpv) O2.length (nsC O2) (by rfl) ((row2.out.alloc _).drew) ⟨w2.heap.size, 0, none⟩ 1 1 [.int .i64 vr, .int .i64 r1, .int .i64 r2] (by rfl) (by rfl) (World.news_of_block (cs := #[.int .i64 vr, .int .i64 r1, .int .i64 r2]) (t := 77) (fr := (0, 0)) (heap_alloc_new w2 _)) (by simp [Value.oneCell']) (by omega) (by have := OL.out; unfold maxLen; omega) (by have := OL.out; omega) (by simp) (w2.heap.size + 1) (by simp) ?_; intro gg cap1 w3 hown3 hgrow3 hat3 hlt3; have hco3 := Lib.hid (DG2.out.co_grown (by rw [show ({ D with v := v2 } : DL).v = v2 from rfl, HV2.out]; exact hgrow3)); have cb3 : w3.cell? ⟨D.bo, 0, none⟩ = some v2 := (by simp [World.cell?, hco3.out]); have fb3 : w3.frozen? ⟨D.bo, 0, none⟩ = false := (by simp [World.frozen?, hco3.out]))
  all_goals
    have hp := dg_pushed (x := (vr, r1, r2)) DG2.out (by rw [show ({ D with v := v2 } : DL).v = v2 from rfl, HV2.out]; exact hgrow3) hown3 (by rw [show ({ D with v := v2 } : DL).v = v2 from rfl, HV2.out]; exact hat3)
    obtain ⟨dg4, fs4⟩ := hp
    have e1 : (w3.setCell ⟨D.bo, 0, none⟩ (.slice (some ⟨gg, 0, none⟩) (O2.length + 1) cap1)).cell? ⟨D.bn, 0, none⟩ = some (.map (some D.bm)) := by simp only [World.cell?, dg4.cn]; simp
    have e2 : (w3.setCell ⟨D.bo, 0, none⟩ (.slice (some ⟨gg, 0, none⟩) (O2.length + 1) cap1)).cell? ⟨D.bo, 0, none⟩ = some (.slice (some ⟨gg, 0, none⟩) (O2.length + 1) cap1) := by simp only [World.cell?, dg4.co]; simp
    have DG4 := Lib.hid dg4; clear dg4
    have FS4 := Lib.hid fs4; clear fs4
    clear hown3 hgrow3 hat3 hlt3 hco3 cb3 fb3
    have ol := OL.out
    generalize w3.setCell ⟨D.bo, 0, none⟩ (.slice (some ⟨gg, 0, none⟩) (O2.length + 1) cap1) = w4 at *
    go_wp2_with (at_mapUpdate; refine wpList_mapIs_store key3 Try.underlying109 _ rfl _ _ _ rfl D.bm (numL L2) i O2.length rfl rfl rfl DG4.out.map (by rw [look_numL, if_neg NM.out]) ?_; intro ob hmi; have hlk := num_look hmi OLL.out NM.out; have e3 : (ChangeMaps.setBlock w4 D.bm ob).cell? ⟨D.bn, 0, none⟩ = some (.map (some D.bm)) := (World.cell?_of_block (a := ⟨D.bn, 0, none⟩) (setBlock_other (Ne.symm DG4.out.apart.2.2.2.2.2.2.2.2.1))).trans e1; have HMI := Lib.hid hmi; clear hmi)
    go_ret
    refine ⟨.slice (some ⟨gg, 0, none⟩) (O2.length + 1) cap1, L2 ++ [(i : Int)], O2 ++ [(vr, r1, r2)], ?_, ?_, ?_, ?_, ?_⟩
    · rw [PU.out.2.2.2]; rfl
    · exact (dg_numbered (D := { D with v := .slice (some ⟨gg, 0, none⟩) (O2.length + 1) cap1 }) DG4.out (by rw [numL_push, ← OLL.out]; exact HMI.out)).1
    · exact PU.out.2.1
    · exact PU.out.2.2.1
    · exact (((FS.drew _ _ _).trans FS1.out).trans ((FS.drew _ _ _).trans FS2.out)).trans (FS4.out.trans (dg_numbered (D := { D with v := .slice (some ⟨gg, 0, none⟩) (O2.length + 1) cap1 }) (L' := L2 ++ [(i : Int)]) DG4.out (by rw [numL_push, ← OLL.out]; exact HMI.out)).2)

theorem walk_any {N : Nat} (hN : 16 ≤ N) {M : ML} {ns : List Nd} {dn : List (Nd × Int)} {rt : Int} (g : Bd.Good ns) (hns : ns.length ≤ 9223372036854775807) (k : Nat) : ∀ (w : World) (D : DL) (L : List Int) (O : List Nd) (a : Int), a < k → Ref ns a → DG w M ns dn D L O rt → WS ns L O → L.length + 2 ^ lev ns a ≤ 1000000 →
      Calls Try.prog 88 #[.int .i64 a, .pointer (some ⟨D.bn, 0, none⟩), .pointer (some ⟨D.bw, 0, none⟩), .pointer (some ⟨D.bv, 0, none⟩), .pointer (some ⟨D.bo, 0, none⟩)] w (DPost N w M ns dn D L rt a) := by
  induction k with
  | zero =>
    intro w D L O a ha hr h ws hl
    have hd := dfs_neg hN g.ord hr (by omega : a < 0) (L.map (key ns))
    refine (walk_neg a _ _ _ _ w (by omega)).mono fun e w' ⟨h1, h2⟩ => ?_
    subst h1; subst h2
    exact ⟨D.v, L, O, by rw [hd.2], h, ws, hd.1.symm, FS.refl _ _ _⟩
  | succ k ih =>
    intro w D L O a ha hr h ws hl
    by_cases h0 : a < 0
    · have hd := dfs_neg hN g.ord hr h0 (L.map (key ns))
      refine (walk_neg a _ _ _ _ w h0).mono fun e w' ⟨h1, h2⟩ => ?_
      subst h1; subst h2
      exact ⟨D.v, L, O, by rw [hd.2], h, ws, hd.1.symm, FS.refl _ _ _⟩
    · by_cases hm : a ∈ L
      · refine (walk_known h a (by omega) hm).mono fun e w' ⟨h1, h2⟩ => ?_
        subst h1; subst h2
        exact ⟨D.v, L, O, by rw [rf_node hN g hr (by omega), idx_key g hr L ws.refs], h, ws, (dfs_known hN g hr (by omega) _ ((mem_key g ws.refs hr).2 hm)).symm, FS.refl _ _ _⟩
      · obtain ⟨i, rfl⟩ := Int.eq_ofNat_of_zero_le (by omega : 0 ≤ a)
        exact walk_new hN h g ws i hr hm hl hns fun w D L O a ha' => ih w D L O a (by omega)

end Go.Proofs.Ythhogbligfmpdaa
