/- Apply. -/
import Derived.Test.YthhogbligfmpdaaXh
set_option linter.unusedVariables false
set_option linter.unusedSimpArgs false
namespace Go.Proofs.Ythhogbligfmpdaa
open Go.RowKit Bd

def opB (op : Int) (p q : Bool) : Bool := if op = 4 then p && q else if op = 5 then p || q else p != q
def opT (op : Int) (s t : List Bool) : List Bool := tl fun x => opB op (fnT s x) (fnT t x)
noncomputable def apPre (op : Int) (da : List Nd) (ra : Int) (db : List Nd) (rb : Int) : Int := if op ≠ 4 ∧ op ≠ 5 ∧ op ≠ 6 then 7 else if chk da ra ≠ 0 then chk da ra else chk db rb

theorem apPre_op {op : Int} {da db : List Nd} {ra rb : Int} (h : op ≠ 4 ∧ op ≠ 5 ∧ op ≠ 6) : apPre op da ra db rb = 7 := by unfold apPre; rw [if_pos h]
theorem apPre_a {op : Int} {da db : List Nd} {ra rb : Int} (h : ¬ (op ≠ 4 ∧ op ≠ 5 ∧ op ≠ 6)) (h1 : chk da ra ≠ 0) : apPre op da ra db rb = chk da ra := by unfold apPre; rw [if_neg h, if_pos h1]
theorem apPre_b {op : Int} {da db : List Nd} {ra rb : Int} (h : ¬ (op ≠ 4 ∧ op ≠ 5 ∧ op ≠ 6)) (h1 : chk da ra = 0) : apPre op da ra db rb = chk db rb := by unfold apPre; rw [if_neg h, if_neg (by simpa using h1)]

/-- The loop over both diagrams. -/
def ApL (da : List Nd) (ra : Int) (db : List Nd) (rb : Int) (W : World) (cv : Value) (wr : World) : Prop :=
  (cv = .int .i64 0 ∨ cv = .int .i64 1 ∧ chk da ra = 0 ∨ cv = .int .i64 2 ∧ chk da ra = 0 ∧ chk db rb = 0) ∧ Below W.heap.size W wr

theorem cells4 {w : World} {b : Nat} {x y z u : Value} {t : TypeId} {fr : Nat × Nat} (h : w.heap[b]? = some (.cells #[x, y, z, u] t fr)) : w.cell? ⟨b, 0, none⟩ = some x ∧ w.cell? ⟨b, 1, none⟩ = some y ∧ w.cell? ⟨b, 2, none⟩ = some z ∧ w.cell? ⟨b, 3, none⟩ = some u := by simp [World.cell?, h]

theorem four_new (w : World) (o1 o2 o3 o4 : Obj) : ∀ W, W = (((w.alloc o1).alloc o2).alloc o3).alloc o4 → W.heap[w.heap.size]? = some o1 ∧ W.heap[w.heap.size + 1]? = some o2 ∧ W.heap[w.heap.size + 1 + 1]? = some o3 ∧ W.heap[w.heap.size + 1 + 1 + 1]? = some o4 ∧ W.heap.size = w.heap.size + 4 ∧ Below w.heap.size w W := by
  rintro W rfl
  obtain ⟨x1, x2, x3, x4, x5⟩ := three_new w o1 o2 o3 _ rfl
  have n4 := heap_alloc_new (((w.alloc o1).alloc o2).alloc o3) o4
  rw [x4] at n4
  refine ⟨?_, ?_, ?_, n4, by simp, x5.alloc (by omega) _⟩
  · rw [Below.heap_alloc _ _ _ (by omega)]; exact x1
  · rw [Below.heap_alloc _ _ _ (by omega)]; exact x2
  · rw [Below.heap_alloc _ _ _ (by omega)]; exact x3

set_option maxRecDepth 100000 in
set_option maxHeartbeats 400000 in
theorem apply_op {w : World} {op : Int} {va vb : Value} {aa ab : Option Addr} {n m ca cb : Nat} {ra rb : Int} (h4 : (op != 4) = true) (h5 : (op != 5) = true) (h6 : (op != 6) = true) :
    Calls Try.prog 20 #[.int .i64 op, .agg #[.slice aa n ca, .int .i64 ra], .agg #[.slice ab m cb, .int .i64 rb]] w (DEPost w [] 0 7) := by
  obtain ⟨x1, x2, x3, x4, x5⟩ := three_new w (.cells #[.slice aa n ca, .int .i64 ra] 27) (.cells #[.slice ab m cb, .int .i64 rb] 27) (.cells #[.slice none 0 0, .int .i64 0] 27) _ rfl
  have X4 := Lib.hid x4; clear x4
  have X5 := Lib.hid x5; clear x5
  have X3 := Lib.hid x3
  obtain ⟨z0, z1, z2, z3⟩ := cells2 x3
  clear x1 x2 x3 z0 z1 z2 z3
  have PO := Lib.hid (fun (W : World) (h : Below w.heap.size w W) => (⟨none, 0, rfl, dNew_nil _ _ _, h⟩ : DEPost w [] 0 7 (.returned (.tuple #[.agg #[.slice none 0 0, .int .i64 0], .int .i64 7])) W))
  go_enter Try.func20, Try.ntmps20
  go_wp2_with fail
  refine bodyPost_ret (v := .tuple #[.agg #[.slice none 0 0, .int .i64 0], .int .i64 7]) (by simp [results, Try.results20, go_sem]) rfl (PO.out _ ?_)
  exact ((((Below.refl _ _).alloc (Nat.le_refl _) _).alloc (by simp) _).alloc (by simp; omega) _)

set_option maxRecDepth 100000 in
set_option maxHeartbeats 1500000 in
theorem apply_and {w : World} {da db : List Nd} {aa ab : Option Addr} {n m ca cb : Nat} {ra rb : Int} (hda : DAt w da aa) (hdb : DAt w db ab) (hn : da.length = n) (hm : db.length = m) (hl : n ≤ 9223372036854775807) (hl2 : m ≤ 9223372036854775807) :
    Calls Try.prog 20 #[.int .i64 4, .agg #[.slice aa n ca, .int .i64 ra], .agg #[.slice ab m cb, .int .i64 rb]] w (DePost w (apPre 4 da ra db rb) (opT 4 (tb da 16 ra) (tb db 16 rb))) := by
  obtain ⟨x1, x2, x3, x4, x5, x6⟩ := four_new w (.cells #[.slice aa n ca, .int .i64 ra] 27) (.cells #[.slice ab m cb, .int .i64 rb] 27) (.cells #[.slice none 0 0, .int .i64 0] 27) (.cells #[.slice aa n ca, .int .i64 ra, .slice ab m cb, .int .i64 rb] 27) _ rfl
  have X1 := Lib.hid x1; clear x1
  have X2 := Lib.hid x2; clear x2
  have X3 := Lib.hid x3; clear x3
  have X4 := Lib.hid x4; clear x4
  have X5 := Lib.hid x5; clear x5
  have X6 := Lib.hid x6; clear x6
  have HA := Lib.hid hda; clear hda
  have HB := Lib.hid hdb; clear hdb
  have HN := Lib.hid hn; clear hn
  have HM := Lib.hid hm; clear hm
  have NO : Hid (¬ ((4 : Int) ≠ 4 ∧ (4 : Int) ≠ 5 ∧ (4 : Int) ≠ 6)) := by show ¬ _; omega
  go_enter Try.func20, Try.ntmps20
  go_wp2_with fail
  generalize (((w.alloc (.cells #[.slice aa n ca, .int .i64 ra] 27)).alloc (.cells #[.slice ab m cb, .int .i64 rb] 27)).alloc (.cells #[.slice none 0 0, .int .i64 0] 27)).alloc (.cells #[.slice aa n ca, .int .i64 ra, .slice ab m cb, .int .i64 rb] 27) = w1 at *
  have s1 : w1.heap.size = w.heap.size + 4 := X5.out
  have S1 := Lib.hid s1; clear s1
  go_loopw [29] (fun cv wr => ApL da ra db rb w1 cv wr) (fun cv _ => 2 - (intOf cv).toNat)
  case atStart => exact ⟨Or.inl rfl, Below.refl _ _⟩
  case round =>
    obtain ⟨hcv, hbl⟩ := hrel
    have BL := Lib.hid hbl
    have hsz : w.heap.size + 4 ≤ wr.heap.size := by have := hbl.size; rw [S1.out] at this; exact this
    clear hbl
    have b4 := Lib.hid ((BL.out.block (w.heap.size + 1 + 1 + 1) (by rw [S1.out]; omega)).trans X4.out)
    have b3 := Lib.hid ((BL.out.block (w.heap.size + 1 + 1) (by rw [S1.out]; omega)).trans X3.out)
    have BW := Lib.hid (Below.over X6.out X6.out.size BL.out)
    obtain ⟨y0, y1, y2, y3⟩ := cells4 b4.out
    rcases hcv with rfl | ⟨rfl, hca⟩ | ⟨rfl, hca, hcb⟩
    · have B5 : Hid (Below wr.heap.size wr (wr.alloc (.cells #[.slice aa n ca, .int .i64 ra] 27))) := (Below.refl _ _).alloc (Nat.le_refl _) _
      have C := Lib.hid (check_any (cap := ca) (root := ra) ((HA.out.below BW.out).below B5.out) HN.out hl)
      go_wp2_with fail
      generalize wr.alloc (.cells #[.slice aa n ca, .int .i64 ra] 27) = wa at *
      refine C.out.mono ?_
      clear C
      rintro e w2 ⟨rfl, hb⟩
      have B2 := Lib.hid (Below.over B5.out B5.out.size hb)
      have BL2 := Lib.hid (Below.over BL.out BL.out.size B2.out)
      have BW2 := Lib.hid (Below.over BW.out BW.out.size B2.out)
      have hl6 : w.heap.size + 1 + 1 < w2.heap.size := by have := B2.out.size; omega
      have bb3 := Lib.hid ((B2.out.block (w.heap.size + 1 + 1) (by omega)).trans b3.out)
      clear hb y0 y1 y2 y3
      obtain ⟨ck, hck⟩ : ∃ ck, chk da ra = ck := ⟨_, rfl⟩
      rw [hck]
      have CK := Lib.hid hck; clear hck
      by_cases hc : ck = 0
      · subst hc
        go_wp2_with fail
        go_roundw
        case rel => exact ⟨Or.inr (Or.inl ⟨rfl, CK.out⟩), BL2.out⟩
        case measure => simp [intOf]
      · have hcb : (ck != 0) = true := by simpa using hc
        have EP := Lib.hid ((apPre_a (da := da) (ra := ra) (db := db) (rb := rb) NO.out (by rw [CK.out]; exact hc)).trans CK.out)
        have E := Lib.hid (de_no EP.out hc (opT 4 (tb da 16 ra) (tb db 16 rb)))
        have HC := Lib.hid hc; clear hc
        obtain ⟨z0, z1, z2, z3⟩ := cells2 bb3.out
        have FN := Lib.hid (out_fin (x := .slice none 0 0) (y := .int .i64 0) (dNew_nil (w.heap.size + 3) w2 none) (show w.heap.size ≤ w.heap.size + 1 + 1 by omega) (by omega) BW2.out)
        go_wp2_with fail
        refine bodyPost_ret (v := .tuple #[.agg #[.slice none 0 0, .int .i64 0], .int .i64 ck]) (by simp [results, Try.results20, go_sem, z0, z1]) rfl ⟨none, 0, ?_, ?_, ?_⟩
        · rw [E.out.1, E.out.2.1, E.out.2.2]; rfl
        · rw [E.out.1]; exact dNew_nil _ _ _
        · exact FN.out.2
    · have HCA := Lib.hid hca; clear hca
      have B5 : Hid (Below wr.heap.size wr (wr.alloc (.cells #[.slice ab m cb, .int .i64 rb] 27))) := (Below.refl _ _).alloc (Nat.le_refl _) _
      have C := Lib.hid (check_any (cap := cb) (root := rb) ((HB.out.below BW.out).below B5.out) HM.out hl2)
      go_wp2_with fail
      generalize wr.alloc (.cells #[.slice ab m cb, .int .i64 rb] 27) = wa at *
      refine C.out.mono ?_
      clear C
      rintro e w2 ⟨rfl, hb⟩
      have B2 := Lib.hid (Below.over B5.out B5.out.size hb)
      have BL2 := Lib.hid (Below.over BL.out BL.out.size B2.out)
      have BW2 := Lib.hid (Below.over BW.out BW.out.size B2.out)
      have hl6 : w.heap.size + 1 + 1 < w2.heap.size := by have := B2.out.size; omega
      have bb3 := Lib.hid ((B2.out.block (w.heap.size + 1 + 1) (by omega)).trans b3.out)
      clear hb y0 y1 y2 y3
      obtain ⟨ck, hck⟩ : ∃ ck, chk db rb = ck := ⟨_, rfl⟩
      rw [hck]
      have CK := Lib.hid hck; clear hck
      by_cases hc : ck = 0
      · subst hc
        go_wp2_with fail
        go_roundw
        case rel => exact ⟨Or.inr (Or.inr ⟨rfl, HCA.out, CK.out⟩), BL2.out⟩
        case measure => simp [intOf]
      · have hcb : (ck != 0) = true := by simpa using hc
        have EP := Lib.hid ((apPre_b (da := da) (ra := ra) (db := db) (rb := rb) NO.out HCA.out).trans CK.out)
        have E := Lib.hid (de_no EP.out hc (opT 4 (tb da 16 ra) (tb db 16 rb)))
        have HC := Lib.hid hc; clear hc
        obtain ⟨z0, z1, z2, z3⟩ := cells2 bb3.out
        have FN := Lib.hid (out_fin (x := .slice none 0 0) (y := .int .i64 0) (dNew_nil (w.heap.size + 3) w2 none) (show w.heap.size ≤ w.heap.size + 1 + 1 by omega) (by omega) BW2.out)
        go_wp2_with fail
        refine bodyPost_ret (v := .tuple #[.agg #[.slice none 0 0, .int .i64 0], .int .i64 ck]) (by simp [results, Try.results20, go_sem, z0, z1]) rfl ⟨none, 0, ?_, ?_, ?_⟩
        · rw [E.out.1, E.out.2.1, E.out.2.2]; rfl
        · rw [E.out.1]; exact dNew_nil _ _ _
        · exact FN.out.2
    · have EP := Lib.hid ((apPre_b (da := da) (ra := ra) (db := db) (rb := rb) NO.out hca).trans hcb)
      obtain ⟨q1, q2, q3, q4, q5⟩ := chk_zero hca
      have ODA := Lib.hid q2
      have hn2 : n ≤ 2000 := by rw [HN.out] at q1; exact q1
      have RFA := Lib.hid q3
      clear q1 q2 q3 q4 q5
      obtain ⟨q1, q2, q3, q4, q5⟩ := chk_zero hcb
      have ODB := Lib.hid q2
      have hm2 : m ≤ 2000 := by rw [HM.out] at q1; exact q1
      have RFB := Lib.hid q3
      clear q1 q2 q3 q4 q5 hca hcb y0 y1 y2 y3
      have b1 := Lib.hid ((BL.out.block w.heap.size (by rw [S1.out]; omega)).trans X1.out)
      have b2 := Lib.hid ((BL.out.block (w.heap.size + 1) (by rw [S1.out]; omega)).trans X2.out)
      go_wp2_with fail
      refine (new_any wr).mono ?_
      rintro e w3 ⟨M, rfl, st3, bl3, ft3⟩
      have ST3 := Lib.hid st3; clear st3
      have M3 : Hid (Mid wr w3 M) := ⟨bl3, ft3⟩
      clear bl3 ft3
      have DA3 := Lib.hid (HA.out.below BW.out)
      have DB3 := Lib.hid (HB.out.below BW.out)
      obtain ⟨y0, y1, _⟩ := cells2 ((M3.out.bel.block _ (by omega)).trans b1.out)
      obtain ⟨y2, y3, _⟩ := cells2 ((M3.out.bel.block _ (by omega)).trans b2.out)
      go_upto_region 11 with fail
      have STD : Hid (St w3.drew M [] []) := ST3.out.of_step fun _ _ => rfl
      have MD : Hid (Mid wr w3.drew M) := ⟨M3.out.bel.drew, M3.out.ft⟩
      have CA := Lib.hid (add_any (cap := ca) (root := ra) STD.out (DA3.out.below MD.out.bel) (DA3.out.far MD.out (Nat.le_refl _)) ODA.out RFA.out HN.out hn2 (by simp))
      have CB : Hid (∀ (W : World) (M' : ML) (ns : List Nd) (dn : List (Nd × Int)), M'.b = M.b → St W M' ns dn → Mid wr W M' → ns.length ≤ 2000 → Calls Try.prog 51 #[.pointer (some ⟨M.b, 0, none⟩), .agg #[.slice ab m cb, .int .i64 rb]] W (RPost W M' ns (fnT (tb db 16 rb)) 2000)) := by
        intro W M' ns dn eM st md hln
        rw [← eM]
        exact add_any (cap := cb) (root := rb) st (DB3.out.below md.bel) (DB3.out.far md (Nat.le_refl _)) ODB.out RFB.out HM.out hm2 (by omega)
      go_region_held3 (fun W => W.cell? ⟨w.heap.size, 0, none⟩ = some (.slice aa n ca) ∧ W.cell? ⟨w.heap.size, 1, none⟩ = some (.int .i64 ra) ∧ W.cell? ⟨w.heap.size + 1, 0, none⟩ = some (.slice ab m cb) ∧ W.cell? ⟨w.heap.size + 1, 1, none⟩ = some (.int .i64 rb))
        (first
          | exact ⟨y0, y1, y2, y3⟩
          | exact ⟨s0, s1, s2, s3⟩
          | exact ⟨t0, t1, t2, t3⟩
          | go_keep)
        (first
          | (go_at_call_of 51 (Value.int .i64 ra); refine CA.out.mono ?_; rintro e w4 ⟨ns4, r4, dn4, v4, rfl, ext4, rf4, tb4, st4, sp4⟩; have M4 := Lib.hid (MD.out.step sp4); have L4 : ns4.length ≤ 2000 := (by obtain ⟨ms, e1, e2⟩ := ext4; rw [e1]; simpa using e2); have ST4 := Lib.hid st4; have TB4 := Lib.hid tb4; clear ext4 sp4 st4 tb4; obtain ⟨s0, s1, _⟩ := cells2 ((M4.out.bel.block _ (by omega)).trans b1.out); obtain ⟨s2, s3, _⟩ := cells2 ((M4.out.bel.block _ (by omega)).trans b2.out))
          | (go_at_call_of 51 (Value.int .i64 rb); refine (CB.out w4 { M with v := v4 } ns4 dn4 rfl ST4.out M4.out L4).mono ?_; rintro e w5 ⟨ns5, r5, dn5, v5, rfl, ext5, rf5, tb5, st5, sp5⟩; have M5 := Lib.hid (M4.out.step sp5); have EX5 := Lib.hid ext5; have ST5 := Lib.hid st5; have TB5 := Lib.hid tb5; clear ext5 sp5 st5 tb5; obtain ⟨t0, t1, _⟩ := cells2 ((M5.out.bel.block _ (by omega)).trans b1.out); obtain ⟨t2, t3, _⟩ := cells2 ((M5.out.bel.block _ (by omega)).trans b2.out)))
      clear y0 y1 y2 y3 s0 s1 s2 s3 t0 t1 t2 t3 CA CB
      have L5 : ns5.length ≤ 4000 := by
        obtain ⟨ms, e1, e2⟩ := EX5.out
        rw [e1]; simp; omega
      have rf4' : Ref ns5 r4 := by
        obtain ⟨ms, e1, e2⟩ := EX5.out
        rw [e1]; exact rf4.app ms
      have TB4' : Hid (Tab ns5 r4 (fnT (tb da 16 ra))) := by
        obtain ⟨ms, e1, e2⟩ := EX5.out
        rw [e1]; exact TB4.out.app ST4.out.good.ord rf4
      go_wp2_with fail
      refine (and_any ST5.out rf4' rf5 TB4'.out TB5.out (by omega)).mono ?_
      rintro e w6 ⟨ns6, r6, dn6, v6, rfl, ext6, rf6, tb6, st6, sp6⟩
      have M6 := Lib.hid (M5.out.step sp6)
      have L6 : ns6.length ≤ 1000000000000 := by
        obtain ⟨ms, e1, e2⟩ := ext6
        rw [e1]; simp; omega
      have ST6 := Lib.hid st6
      have TB6 : Hid (tb ns6 16 r6 = opT 4 (tb da 16 ra) (tb db 16 rb)) := tb6
      clear ext6 sp6 st6 tb6
      go_wp2_with fail
      refine (result_any ST6.out.mgr ST6.out.good L6 rf6 TB6.out).mono ?_
      rintro e w7 ⟨a7, cap7, rfl, dn7, hb7⟩
      have B7 := Lib.hid (Below.over BW.out BW.out.size (Below.over M6.out.bel M6.out.bel.size hb7))
      have DN7 := Lib.hid (dn7.le M6.out.bel.size)
      obtain ⟨z0, z1, z2, z3⟩ := cells2 (((Below.over M6.out.bel M6.out.bel.size hb7).block (w.heap.size + 1 + 1) (by omega)).trans b3.out)
      clear dn7 hb7
      have E := Lib.hid (de_ok EP.out (opT 4 (tb da 16 ra) (tb db 16 rb)))
      generalize outNodes (opT 4 (tb da 16 ra) (tb db 16 rb)) = O at *
      generalize outRoot (opT 4 (tb da 16 ra) (tb db 16 rb)) = rt at *
      generalize outErr (opT 4 (tb da 16 ra) (tb db 16 rb)) = er at *
      have l7 : w.heap.size + 1 + 1 < w7.heap.size := lt_of_cell z0
      have FN := Lib.hid (out_fin (x := .slice a7 O.length cap7) (y := .int .i64 rt) DN7.out (show w.heap.size ≤ w.heap.size + 1 + 1 by omega) (by omega) B7.out)
      go_wp2_with fail
      refine bodyPost_ret (v := .tuple #[.agg #[.slice a7 O.length cap7, .int .i64 rt], .int .i64 er]) (by simp [results, Try.results20, go_sem, z0, z1]) rfl ⟨a7, cap7, ?_, ?_, ?_⟩
      · rw [E.out.1, E.out.2.1, E.out.2.2]
      · rw [E.out.1]; exact FN.out.1
      · exact FN.out.2

set_option maxRecDepth 100000 in
set_option maxHeartbeats 1500000 in
theorem apply_or {w : World} {da db : List Nd} {aa ab : Option Addr} {n m ca cb : Nat} {ra rb : Int} (hda : DAt w da aa) (hdb : DAt w db ab) (hn : da.length = n) (hm : db.length = m) (hl : n ≤ 9223372036854775807) (hl2 : m ≤ 9223372036854775807) :
    Calls Try.prog 20 #[.int .i64 5, .agg #[.slice aa n ca, .int .i64 ra], .agg #[.slice ab m cb, .int .i64 rb]] w (DePost w (apPre 5 da ra db rb) (opT 5 (tb da 16 ra) (tb db 16 rb))) := by
  obtain ⟨x1, x2, x3, x4, x5, x6⟩ := four_new w (.cells #[.slice aa n ca, .int .i64 ra] 27) (.cells #[.slice ab m cb, .int .i64 rb] 27) (.cells #[.slice none 0 0, .int .i64 0] 27) (.cells #[.slice aa n ca, .int .i64 ra, .slice ab m cb, .int .i64 rb] 27) _ rfl
  have X1 := Lib.hid x1; clear x1
  have X2 := Lib.hid x2; clear x2
  have X3 := Lib.hid x3; clear x3
  have X4 := Lib.hid x4; clear x4
  have X5 := Lib.hid x5; clear x5
  have X6 := Lib.hid x6; clear x6
  have HA := Lib.hid hda; clear hda
  have HB := Lib.hid hdb; clear hdb
  have HN := Lib.hid hn; clear hn
  have HM := Lib.hid hm; clear hm
  have NO : Hid (¬ ((5 : Int) ≠ 4 ∧ (5 : Int) ≠ 5 ∧ (5 : Int) ≠ 6)) := by show ¬ _; omega
  go_enter Try.func20, Try.ntmps20
  go_wp2_with fail
  generalize (((w.alloc (.cells #[.slice aa n ca, .int .i64 ra] 27)).alloc (.cells #[.slice ab m cb, .int .i64 rb] 27)).alloc (.cells #[.slice none 0 0, .int .i64 0] 27)).alloc (.cells #[.slice aa n ca, .int .i64 ra, .slice ab m cb, .int .i64 rb] 27) = w1 at *
  have s1 : w1.heap.size = w.heap.size + 4 := X5.out
  have S1 := Lib.hid s1; clear s1
  go_loopw [29] (fun cv wr => ApL da ra db rb w1 cv wr) (fun cv _ => 2 - (intOf cv).toNat)
  case atStart => exact ⟨Or.inl rfl, Below.refl _ _⟩
  case round =>
    obtain ⟨hcv, hbl⟩ := hrel
    have BL := Lib.hid hbl
    have hsz : w.heap.size + 4 ≤ wr.heap.size := by have := hbl.size; rw [S1.out] at this; exact this
    clear hbl
    have b4 := Lib.hid ((BL.out.block (w.heap.size + 1 + 1 + 1) (by rw [S1.out]; omega)).trans X4.out)
    have b3 := Lib.hid ((BL.out.block (w.heap.size + 1 + 1) (by rw [S1.out]; omega)).trans X3.out)
    have BW := Lib.hid (Below.over X6.out X6.out.size BL.out)
    obtain ⟨y0, y1, y2, y3⟩ := cells4 b4.out
    rcases hcv with rfl | ⟨rfl, hca⟩ | ⟨rfl, hca, hcb⟩
    · have B5 : Hid (Below wr.heap.size wr (wr.alloc (.cells #[.slice aa n ca, .int .i64 ra] 27))) := (Below.refl _ _).alloc (Nat.le_refl _) _
      have C := Lib.hid (check_any (cap := ca) (root := ra) ((HA.out.below BW.out).below B5.out) HN.out hl)
      go_wp2_with fail
      generalize wr.alloc (.cells #[.slice aa n ca, .int .i64 ra] 27) = wa at *
      refine C.out.mono ?_
      clear C
      rintro e w2 ⟨rfl, hb⟩
      have B2 := Lib.hid (Below.over B5.out B5.out.size hb)
      have BL2 := Lib.hid (Below.over BL.out BL.out.size B2.out)
      have BW2 := Lib.hid (Below.over BW.out BW.out.size B2.out)
      have hl6 : w.heap.size + 1 + 1 < w2.heap.size := by have := B2.out.size; omega
      have bb3 := Lib.hid ((B2.out.block (w.heap.size + 1 + 1) (by omega)).trans b3.out)
      clear hb y0 y1 y2 y3
      obtain ⟨ck, hck⟩ : ∃ ck, chk da ra = ck := ⟨_, rfl⟩
      rw [hck]
      have CK := Lib.hid hck; clear hck
      by_cases hc : ck = 0
      · subst hc
        go_wp2_with fail
        go_roundw
        case rel => exact ⟨Or.inr (Or.inl ⟨rfl, CK.out⟩), BL2.out⟩
        case measure => simp [intOf]
      · have hcb : (ck != 0) = true := by simpa using hc
        have EP := Lib.hid ((apPre_a (da := da) (ra := ra) (db := db) (rb := rb) NO.out (by rw [CK.out]; exact hc)).trans CK.out)
        have E := Lib.hid (de_no EP.out hc (opT 5 (tb da 16 ra) (tb db 16 rb)))
        have HC := Lib.hid hc; clear hc
        obtain ⟨z0, z1, z2, z3⟩ := cells2 bb3.out
        have FN := Lib.hid (out_fin (x := .slice none 0 0) (y := .int .i64 0) (dNew_nil (w.heap.size + 3) w2 none) (show w.heap.size ≤ w.heap.size + 1 + 1 by omega) (by omega) BW2.out)
        go_wp2_with fail
        refine bodyPost_ret (v := .tuple #[.agg #[.slice none 0 0, .int .i64 0], .int .i64 ck]) (by simp [results, Try.results20, go_sem, z0, z1]) rfl ⟨none, 0, ?_, ?_, ?_⟩
        · rw [E.out.1, E.out.2.1, E.out.2.2]; rfl
        · rw [E.out.1]; exact dNew_nil _ _ _
        · exact FN.out.2
    · have HCA := Lib.hid hca; clear hca
      have B5 : Hid (Below wr.heap.size wr (wr.alloc (.cells #[.slice ab m cb, .int .i64 rb] 27))) := (Below.refl _ _).alloc (Nat.le_refl _) _
      have C := Lib.hid (check_any (cap := cb) (root := rb) ((HB.out.below BW.out).below B5.out) HM.out hl2)
      go_wp2_with fail
      generalize wr.alloc (.cells #[.slice ab m cb, .int .i64 rb] 27) = wa at *
      refine C.out.mono ?_
      clear C
      rintro e w2 ⟨rfl, hb⟩
      have B2 := Lib.hid (Below.over B5.out B5.out.size hb)
      have BL2 := Lib.hid (Below.over BL.out BL.out.size B2.out)
      have BW2 := Lib.hid (Below.over BW.out BW.out.size B2.out)
      have hl6 : w.heap.size + 1 + 1 < w2.heap.size := by have := B2.out.size; omega
      have bb3 := Lib.hid ((B2.out.block (w.heap.size + 1 + 1) (by omega)).trans b3.out)
      clear hb y0 y1 y2 y3
      obtain ⟨ck, hck⟩ : ∃ ck, chk db rb = ck := ⟨_, rfl⟩
      rw [hck]
      have CK := Lib.hid hck; clear hck
      by_cases hc : ck = 0
      · subst hc
        go_wp2_with fail
        go_roundw
        case rel => exact ⟨Or.inr (Or.inr ⟨rfl, HCA.out, CK.out⟩), BL2.out⟩
        case measure => simp [intOf]
      · have hcb : (ck != 0) = true := by simpa using hc
        have EP := Lib.hid ((apPre_b (da := da) (ra := ra) (db := db) (rb := rb) NO.out HCA.out).trans CK.out)
        have E := Lib.hid (de_no EP.out hc (opT 5 (tb da 16 ra) (tb db 16 rb)))
        have HC := Lib.hid hc; clear hc
        obtain ⟨z0, z1, z2, z3⟩ := cells2 bb3.out
        have FN := Lib.hid (out_fin (x := .slice none 0 0) (y := .int .i64 0) (dNew_nil (w.heap.size + 3) w2 none) (show w.heap.size ≤ w.heap.size + 1 + 1 by omega) (by omega) BW2.out)
        go_wp2_with fail
        refine bodyPost_ret (v := .tuple #[.agg #[.slice none 0 0, .int .i64 0], .int .i64 ck]) (by simp [results, Try.results20, go_sem, z0, z1]) rfl ⟨none, 0, ?_, ?_, ?_⟩
        · rw [E.out.1, E.out.2.1, E.out.2.2]; rfl
        · rw [E.out.1]; exact dNew_nil _ _ _
        · exact FN.out.2
    · have EP := Lib.hid ((apPre_b (da := da) (ra := ra) (db := db) (rb := rb) NO.out hca).trans hcb)
      obtain ⟨q1, q2, q3, q4, q5⟩ := chk_zero hca
      have ODA := Lib.hid q2
      have hn2 : n ≤ 2000 := by rw [HN.out] at q1; exact q1
      have RFA := Lib.hid q3
      clear q1 q2 q3 q4 q5
      obtain ⟨q1, q2, q3, q4, q5⟩ := chk_zero hcb
      have ODB := Lib.hid q2
      have hm2 : m ≤ 2000 := by rw [HM.out] at q1; exact q1
      have RFB := Lib.hid q3
      clear q1 q2 q3 q4 q5 hca hcb y0 y1 y2 y3
      have b1 := Lib.hid ((BL.out.block w.heap.size (by rw [S1.out]; omega)).trans X1.out)
      have b2 := Lib.hid ((BL.out.block (w.heap.size + 1) (by rw [S1.out]; omega)).trans X2.out)
      go_wp2_with fail
      refine (new_any wr).mono ?_
      rintro e w3 ⟨M, rfl, st3, bl3, ft3⟩
      have ST3 := Lib.hid st3; clear st3
      have M3 : Hid (Mid wr w3 M) := ⟨bl3, ft3⟩
      clear bl3 ft3
      have DA3 := Lib.hid (HA.out.below BW.out)
      have DB3 := Lib.hid (HB.out.below BW.out)
      obtain ⟨y0, y1, _⟩ := cells2 ((M3.out.bel.block _ (by omega)).trans b1.out)
      obtain ⟨y2, y3, _⟩ := cells2 ((M3.out.bel.block _ (by omega)).trans b2.out)
      go_upto_region 11 with fail
      have STD : Hid (St w3.drew M [] []) := ST3.out.of_step fun _ _ => rfl
      have MD : Hid (Mid wr w3.drew M) := ⟨M3.out.bel.drew, M3.out.ft⟩
      have CA := Lib.hid (add_any (cap := ca) (root := ra) STD.out (DA3.out.below MD.out.bel) (DA3.out.far MD.out (Nat.le_refl _)) ODA.out RFA.out HN.out hn2 (by simp))
      have CB : Hid (∀ (W : World) (M' : ML) (ns : List Nd) (dn : List (Nd × Int)), M'.b = M.b → St W M' ns dn → Mid wr W M' → ns.length ≤ 2000 → Calls Try.prog 51 #[.pointer (some ⟨M.b, 0, none⟩), .agg #[.slice ab m cb, .int .i64 rb]] W (RPost W M' ns (fnT (tb db 16 rb)) 2000)) := by
        intro W M' ns dn eM st md hln
        rw [← eM]
        exact add_any (cap := cb) (root := rb) st (DB3.out.below md.bel) (DB3.out.far md (Nat.le_refl _)) ODB.out RFB.out HM.out hm2 (by omega)
      go_region_held3 (fun W => W.cell? ⟨w.heap.size, 0, none⟩ = some (.slice aa n ca) ∧ W.cell? ⟨w.heap.size, 1, none⟩ = some (.int .i64 ra) ∧ W.cell? ⟨w.heap.size + 1, 0, none⟩ = some (.slice ab m cb) ∧ W.cell? ⟨w.heap.size + 1, 1, none⟩ = some (.int .i64 rb))
        (first
          | exact ⟨y0, y1, y2, y3⟩
          | exact ⟨s0, s1, s2, s3⟩
          | exact ⟨t0, t1, t2, t3⟩
          | go_keep)
        (first
          | (go_at_call_of 51 (Value.int .i64 ra); refine CA.out.mono ?_; rintro e w4 ⟨ns4, r4, dn4, v4, rfl, ext4, rf4, tb4, st4, sp4⟩; have M4 := Lib.hid (MD.out.step sp4); have L4 : ns4.length ≤ 2000 := (by obtain ⟨ms, e1, e2⟩ := ext4; rw [e1]; simpa using e2); have ST4 := Lib.hid st4; have TB4 := Lib.hid tb4; clear ext4 sp4 st4 tb4; obtain ⟨s0, s1, _⟩ := cells2 ((M4.out.bel.block _ (by omega)).trans b1.out); obtain ⟨s2, s3, _⟩ := cells2 ((M4.out.bel.block _ (by omega)).trans b2.out))
          | (go_at_call_of 51 (Value.int .i64 rb); refine (CB.out w4 { M with v := v4 } ns4 dn4 rfl ST4.out M4.out L4).mono ?_; rintro e w5 ⟨ns5, r5, dn5, v5, rfl, ext5, rf5, tb5, st5, sp5⟩; have M5 := Lib.hid (M4.out.step sp5); have EX5 := Lib.hid ext5; have ST5 := Lib.hid st5; have TB5 := Lib.hid tb5; clear ext5 sp5 st5 tb5; obtain ⟨t0, t1, _⟩ := cells2 ((M5.out.bel.block _ (by omega)).trans b1.out); obtain ⟨t2, t3, _⟩ := cells2 ((M5.out.bel.block _ (by omega)).trans b2.out)))
      clear y0 y1 y2 y3 s0 s1 s2 s3 t0 t1 t2 t3 CA CB
      have L5 : ns5.length ≤ 4000 := by
        obtain ⟨ms, e1, e2⟩ := EX5.out
        rw [e1]; simp; omega
      have rf4' : Ref ns5 r4 := by
        obtain ⟨ms, e1, e2⟩ := EX5.out
        rw [e1]; exact rf4.app ms
      have TB4' : Hid (Tab ns5 r4 (fnT (tb da 16 ra))) := by
        obtain ⟨ms, e1, e2⟩ := EX5.out
        rw [e1]; exact TB4.out.app ST4.out.good.ord rf4
      go_wp2_with fail
      refine (or_any ST5.out rf4' rf5 TB4'.out TB5.out (by omega)).mono ?_
      rintro e w6 ⟨ns6, r6, dn6, v6, rfl, ext6, rf6, tb6, st6, sp6⟩
      have M6 := Lib.hid (M5.out.step sp6)
      have L6 : ns6.length ≤ 1000000000000 := by
        obtain ⟨ms, e1, e2⟩ := ext6
        rw [e1]; simp; omega
      have ST6 := Lib.hid st6
      have TB6 : Hid (tb ns6 16 r6 = opT 5 (tb da 16 ra) (tb db 16 rb)) := tb6
      clear ext6 sp6 st6 tb6
      go_wp2_with fail
      refine (result_any ST6.out.mgr ST6.out.good L6 rf6 TB6.out).mono ?_
      rintro e w7 ⟨a7, cap7, rfl, dn7, hb7⟩
      have B7 := Lib.hid (Below.over BW.out BW.out.size (Below.over M6.out.bel M6.out.bel.size hb7))
      have DN7 := Lib.hid (dn7.le M6.out.bel.size)
      obtain ⟨z0, z1, z2, z3⟩ := cells2 (((Below.over M6.out.bel M6.out.bel.size hb7).block (w.heap.size + 1 + 1) (by omega)).trans b3.out)
      clear dn7 hb7
      have E := Lib.hid (de_ok EP.out (opT 5 (tb da 16 ra) (tb db 16 rb)))
      generalize outNodes (opT 5 (tb da 16 ra) (tb db 16 rb)) = O at *
      generalize outRoot (opT 5 (tb da 16 ra) (tb db 16 rb)) = rt at *
      generalize outErr (opT 5 (tb da 16 ra) (tb db 16 rb)) = er at *
      have l7 : w.heap.size + 1 + 1 < w7.heap.size := lt_of_cell z0
      have FN := Lib.hid (out_fin (x := .slice a7 O.length cap7) (y := .int .i64 rt) DN7.out (show w.heap.size ≤ w.heap.size + 1 + 1 by omega) (by omega) B7.out)
      go_wp2_with fail
      refine bodyPost_ret (v := .tuple #[.agg #[.slice a7 O.length cap7, .int .i64 rt], .int .i64 er]) (by simp [results, Try.results20, go_sem, z0, z1]) rfl ⟨a7, cap7, ?_, ?_, ?_⟩
      · rw [E.out.1, E.out.2.1, E.out.2.2]
      · rw [E.out.1]; exact FN.out.1
      · exact FN.out.2

set_option maxRecDepth 100000 in
set_option maxHeartbeats 1500000 in
theorem apply_xor {w : World} {da db : List Nd} {aa ab : Option Addr} {n m ca cb : Nat} {ra rb : Int} (hda : DAt w da aa) (hdb : DAt w db ab) (hn : da.length = n) (hm : db.length = m) (hl : n ≤ 9223372036854775807) (hl2 : m ≤ 9223372036854775807) :
    Calls Try.prog 20 #[.int .i64 6, .agg #[.slice aa n ca, .int .i64 ra], .agg #[.slice ab m cb, .int .i64 rb]] w (DePost w (apPre 6 da ra db rb) (opT 6 (tb da 16 ra) (tb db 16 rb))) := by
  obtain ⟨x1, x2, x3, x4, x5, x6⟩ := four_new w (.cells #[.slice aa n ca, .int .i64 ra] 27) (.cells #[.slice ab m cb, .int .i64 rb] 27) (.cells #[.slice none 0 0, .int .i64 0] 27) (.cells #[.slice aa n ca, .int .i64 ra, .slice ab m cb, .int .i64 rb] 27) _ rfl
  have X1 := Lib.hid x1; clear x1
  have X2 := Lib.hid x2; clear x2
  have X3 := Lib.hid x3; clear x3
  have X4 := Lib.hid x4; clear x4
  have X5 := Lib.hid x5; clear x5
  have X6 := Lib.hid x6; clear x6
  have HA := Lib.hid hda; clear hda
  have HB := Lib.hid hdb; clear hdb
  have HN := Lib.hid hn; clear hn
  have HM := Lib.hid hm; clear hm
  have NO : Hid (¬ ((6 : Int) ≠ 4 ∧ (6 : Int) ≠ 5 ∧ (6 : Int) ≠ 6)) := by show ¬ _; omega
  go_enter Try.func20, Try.ntmps20
  go_wp2_with fail
  generalize (((w.alloc (.cells #[.slice aa n ca, .int .i64 ra] 27)).alloc (.cells #[.slice ab m cb, .int .i64 rb] 27)).alloc (.cells #[.slice none 0 0, .int .i64 0] 27)).alloc (.cells #[.slice aa n ca, .int .i64 ra, .slice ab m cb, .int .i64 rb] 27) = w1 at *
  have s1 : w1.heap.size = w.heap.size + 4 := X5.out
  have S1 := Lib.hid s1; clear s1
  go_loopw [29] (fun cv wr => ApL da ra db rb w1 cv wr) (fun cv _ => 2 - (intOf cv).toNat)
  case atStart => exact ⟨Or.inl rfl, Below.refl _ _⟩
  case round =>
    obtain ⟨hcv, hbl⟩ := hrel
    have BL := Lib.hid hbl
    have hsz : w.heap.size + 4 ≤ wr.heap.size := by have := hbl.size; rw [S1.out] at this; exact this
    clear hbl
    have b4 := Lib.hid ((BL.out.block (w.heap.size + 1 + 1 + 1) (by rw [S1.out]; omega)).trans X4.out)
    have b3 := Lib.hid ((BL.out.block (w.heap.size + 1 + 1) (by rw [S1.out]; omega)).trans X3.out)
    have BW := Lib.hid (Below.over X6.out X6.out.size BL.out)
    obtain ⟨y0, y1, y2, y3⟩ := cells4 b4.out
    rcases hcv with rfl | ⟨rfl, hca⟩ | ⟨rfl, hca, hcb⟩
    · have B5 : Hid (Below wr.heap.size wr (wr.alloc (.cells #[.slice aa n ca, .int .i64 ra] 27))) := (Below.refl _ _).alloc (Nat.le_refl _) _
      have C := Lib.hid (check_any (cap := ca) (root := ra) ((HA.out.below BW.out).below B5.out) HN.out hl)
      go_wp2_with fail
      generalize wr.alloc (.cells #[.slice aa n ca, .int .i64 ra] 27) = wa at *
      refine C.out.mono ?_
      clear C
      rintro e w2 ⟨rfl, hb⟩
      have B2 := Lib.hid (Below.over B5.out B5.out.size hb)
      have BL2 := Lib.hid (Below.over BL.out BL.out.size B2.out)
      have BW2 := Lib.hid (Below.over BW.out BW.out.size B2.out)
      have hl6 : w.heap.size + 1 + 1 < w2.heap.size := by have := B2.out.size; omega
      have bb3 := Lib.hid ((B2.out.block (w.heap.size + 1 + 1) (by omega)).trans b3.out)
      clear hb y0 y1 y2 y3
      obtain ⟨ck, hck⟩ : ∃ ck, chk da ra = ck := ⟨_, rfl⟩
      rw [hck]
      have CK := Lib.hid hck; clear hck
      by_cases hc : ck = 0
      · subst hc
        go_wp2_with fail
        go_roundw
        case rel => exact ⟨Or.inr (Or.inl ⟨rfl, CK.out⟩), BL2.out⟩
        case measure => simp [intOf]
      · have hcb : (ck != 0) = true := by simpa using hc
        have EP := Lib.hid ((apPre_a (da := da) (ra := ra) (db := db) (rb := rb) NO.out (by rw [CK.out]; exact hc)).trans CK.out)
        have E := Lib.hid (de_no EP.out hc (opT 6 (tb da 16 ra) (tb db 16 rb)))
        have HC := Lib.hid hc; clear hc
        obtain ⟨z0, z1, z2, z3⟩ := cells2 bb3.out
        have FN := Lib.hid (out_fin (x := .slice none 0 0) (y := .int .i64 0) (dNew_nil (w.heap.size + 3) w2 none) (show w.heap.size ≤ w.heap.size + 1 + 1 by omega) (by omega) BW2.out)
        go_wp2_with fail
        refine bodyPost_ret (v := .tuple #[.agg #[.slice none 0 0, .int .i64 0], .int .i64 ck]) (by simp [results, Try.results20, go_sem, z0, z1]) rfl ⟨none, 0, ?_, ?_, ?_⟩
        · rw [E.out.1, E.out.2.1, E.out.2.2]; rfl
        · rw [E.out.1]; exact dNew_nil _ _ _
        · exact FN.out.2
    · have HCA := Lib.hid hca; clear hca
      have B5 : Hid (Below wr.heap.size wr (wr.alloc (.cells #[.slice ab m cb, .int .i64 rb] 27))) := (Below.refl _ _).alloc (Nat.le_refl _) _
      have C := Lib.hid (check_any (cap := cb) (root := rb) ((HB.out.below BW.out).below B5.out) HM.out hl2)
      go_wp2_with fail
      generalize wr.alloc (.cells #[.slice ab m cb, .int .i64 rb] 27) = wa at *
      refine C.out.mono ?_
      clear C
      rintro e w2 ⟨rfl, hb⟩
      have B2 := Lib.hid (Below.over B5.out B5.out.size hb)
      have BL2 := Lib.hid (Below.over BL.out BL.out.size B2.out)
      have BW2 := Lib.hid (Below.over BW.out BW.out.size B2.out)
      have hl6 : w.heap.size + 1 + 1 < w2.heap.size := by have := B2.out.size; omega
      have bb3 := Lib.hid ((B2.out.block (w.heap.size + 1 + 1) (by omega)).trans b3.out)
      clear hb y0 y1 y2 y3
      obtain ⟨ck, hck⟩ : ∃ ck, chk db rb = ck := ⟨_, rfl⟩
      rw [hck]
      have CK := Lib.hid hck; clear hck
      by_cases hc : ck = 0
      · subst hc
        go_wp2_with fail
        go_roundw
        case rel => exact ⟨Or.inr (Or.inr ⟨rfl, HCA.out, CK.out⟩), BL2.out⟩
        case measure => simp [intOf]
      · have hcb : (ck != 0) = true := by simpa using hc
        have EP := Lib.hid ((apPre_b (da := da) (ra := ra) (db := db) (rb := rb) NO.out HCA.out).trans CK.out)
        have E := Lib.hid (de_no EP.out hc (opT 6 (tb da 16 ra) (tb db 16 rb)))
        have HC := Lib.hid hc; clear hc
        obtain ⟨z0, z1, z2, z3⟩ := cells2 bb3.out
        have FN := Lib.hid (out_fin (x := .slice none 0 0) (y := .int .i64 0) (dNew_nil (w.heap.size + 3) w2 none) (show w.heap.size ≤ w.heap.size + 1 + 1 by omega) (by omega) BW2.out)
        go_wp2_with fail
        refine bodyPost_ret (v := .tuple #[.agg #[.slice none 0 0, .int .i64 0], .int .i64 ck]) (by simp [results, Try.results20, go_sem, z0, z1]) rfl ⟨none, 0, ?_, ?_, ?_⟩
        · rw [E.out.1, E.out.2.1, E.out.2.2]; rfl
        · rw [E.out.1]; exact dNew_nil _ _ _
        · exact FN.out.2
    · have EP := Lib.hid ((apPre_b (da := da) (ra := ra) (db := db) (rb := rb) NO.out hca).trans hcb)
      obtain ⟨q1, q2, q3, q4, q5⟩ := chk_zero hca
      have ODA := Lib.hid q2
      have hn2 : n ≤ 2000 := by rw [HN.out] at q1; exact q1
      have RFA := Lib.hid q3
      clear q1 q2 q3 q4 q5
      obtain ⟨q1, q2, q3, q4, q5⟩ := chk_zero hcb
      have ODB := Lib.hid q2
      have hm2 : m ≤ 2000 := by rw [HM.out] at q1; exact q1
      have RFB := Lib.hid q3
      clear q1 q2 q3 q4 q5 hca hcb y0 y1 y2 y3
      have b1 := Lib.hid ((BL.out.block w.heap.size (by rw [S1.out]; omega)).trans X1.out)
      have b2 := Lib.hid ((BL.out.block (w.heap.size + 1) (by rw [S1.out]; omega)).trans X2.out)
      go_wp2_with fail
      refine (new_any wr).mono ?_
      rintro e w3 ⟨M, rfl, st3, bl3, ft3⟩
      have ST3 := Lib.hid st3; clear st3
      have M3 : Hid (Mid wr w3 M) := ⟨bl3, ft3⟩
      clear bl3 ft3
      have DA3 := Lib.hid (HA.out.below BW.out)
      have DB3 := Lib.hid (HB.out.below BW.out)
      obtain ⟨y0, y1, _⟩ := cells2 ((M3.out.bel.block _ (by omega)).trans b1.out)
      obtain ⟨y2, y3, _⟩ := cells2 ((M3.out.bel.block _ (by omega)).trans b2.out)
      go_upto_region 11 with fail
      have STD : Hid (St w3.drew M [] []) := ST3.out.of_step fun _ _ => rfl
      have MD : Hid (Mid wr w3.drew M) := ⟨M3.out.bel.drew, M3.out.ft⟩
      have CA := Lib.hid (add_any (cap := ca) (root := ra) STD.out (DA3.out.below MD.out.bel) (DA3.out.far MD.out (Nat.le_refl _)) ODA.out RFA.out HN.out hn2 (by simp))
      have CB : Hid (∀ (W : World) (M' : ML) (ns : List Nd) (dn : List (Nd × Int)), M'.b = M.b → St W M' ns dn → Mid wr W M' → ns.length ≤ 2000 → Calls Try.prog 51 #[.pointer (some ⟨M.b, 0, none⟩), .agg #[.slice ab m cb, .int .i64 rb]] W (RPost W M' ns (fnT (tb db 16 rb)) 2000)) := by
        intro W M' ns dn eM st md hln
        rw [← eM]
        exact add_any (cap := cb) (root := rb) st (DB3.out.below md.bel) (DB3.out.far md (Nat.le_refl _)) ODB.out RFB.out HM.out hm2 (by omega)
      go_region_held3 (fun W => W.cell? ⟨w.heap.size, 0, none⟩ = some (.slice aa n ca) ∧ W.cell? ⟨w.heap.size, 1, none⟩ = some (.int .i64 ra) ∧ W.cell? ⟨w.heap.size + 1, 0, none⟩ = some (.slice ab m cb) ∧ W.cell? ⟨w.heap.size + 1, 1, none⟩ = some (.int .i64 rb))
        (first
          | exact ⟨y0, y1, y2, y3⟩
          | exact ⟨s0, s1, s2, s3⟩
          | exact ⟨t0, t1, t2, t3⟩
          | go_keep)
        (first
          | (go_at_call_of 51 (Value.int .i64 ra); refine CA.out.mono ?_; rintro e w4 ⟨ns4, r4, dn4, v4, rfl, ext4, rf4, tb4, st4, sp4⟩; have M4 := Lib.hid (MD.out.step sp4); have L4 : ns4.length ≤ 2000 := (by obtain ⟨ms, e1, e2⟩ := ext4; rw [e1]; simpa using e2); have ST4 := Lib.hid st4; have TB4 := Lib.hid tb4; clear ext4 sp4 st4 tb4; obtain ⟨s0, s1, _⟩ := cells2 ((M4.out.bel.block _ (by omega)).trans b1.out); obtain ⟨s2, s3, _⟩ := cells2 ((M4.out.bel.block _ (by omega)).trans b2.out))
          | (go_at_call_of 51 (Value.int .i64 rb); refine (CB.out w4 { M with v := v4 } ns4 dn4 rfl ST4.out M4.out L4).mono ?_; rintro e w5 ⟨ns5, r5, dn5, v5, rfl, ext5, rf5, tb5, st5, sp5⟩; have M5 := Lib.hid (M4.out.step sp5); have EX5 := Lib.hid ext5; have ST5 := Lib.hid st5; have TB5 := Lib.hid tb5; clear ext5 sp5 st5 tb5; obtain ⟨t0, t1, _⟩ := cells2 ((M5.out.bel.block _ (by omega)).trans b1.out); obtain ⟨t2, t3, _⟩ := cells2 ((M5.out.bel.block _ (by omega)).trans b2.out)))
      clear y0 y1 y2 y3 s0 s1 s2 s3 t0 t1 t2 t3 CA CB
      have L5 : ns5.length ≤ 4000 := by
        obtain ⟨ms, e1, e2⟩ := EX5.out
        rw [e1]; simp; omega
      have rf4' : Ref ns5 r4 := by
        obtain ⟨ms, e1, e2⟩ := EX5.out
        rw [e1]; exact rf4.app ms
      have TB4' : Hid (Tab ns5 r4 (fnT (tb da 16 ra))) := by
        obtain ⟨ms, e1, e2⟩ := EX5.out
        rw [e1]; exact TB4.out.app ST4.out.good.ord rf4
      go_wp2_with fail
      refine (xor_any ST5.out rf4' rf5 TB4'.out TB5.out (by omega)).mono ?_
      rintro e w6 ⟨ns6, r6, dn6, v6, rfl, ext6, rf6, tb6, st6, sp6⟩
      have M6 := Lib.hid (M5.out.step sp6)
      have L6 : ns6.length ≤ 1000000000000 := by
        obtain ⟨ms, e1, e2⟩ := ext6
        rw [e1]; simp; omega
      have ST6 := Lib.hid st6
      have TB6 : Hid (tb ns6 16 r6 = opT 6 (tb da 16 ra) (tb db 16 rb)) := tb6
      clear ext6 sp6 st6 tb6
      go_wp2_with fail
      refine (result_any ST6.out.mgr ST6.out.good L6 rf6 TB6.out).mono ?_
      rintro e w7 ⟨a7, cap7, rfl, dn7, hb7⟩
      have B7 := Lib.hid (Below.over BW.out BW.out.size (Below.over M6.out.bel M6.out.bel.size hb7))
      have DN7 := Lib.hid (dn7.le M6.out.bel.size)
      obtain ⟨z0, z1, z2, z3⟩ := cells2 (((Below.over M6.out.bel M6.out.bel.size hb7).block (w.heap.size + 1 + 1) (by omega)).trans b3.out)
      clear dn7 hb7
      have E := Lib.hid (de_ok EP.out (opT 6 (tb da 16 ra) (tb db 16 rb)))
      generalize outNodes (opT 6 (tb da 16 ra) (tb db 16 rb)) = O at *
      generalize outRoot (opT 6 (tb da 16 ra) (tb db 16 rb)) = rt at *
      generalize outErr (opT 6 (tb da 16 ra) (tb db 16 rb)) = er at *
      have l7 : w.heap.size + 1 + 1 < w7.heap.size := lt_of_cell z0
      have FN := Lib.hid (out_fin (x := .slice a7 O.length cap7) (y := .int .i64 rt) DN7.out (show w.heap.size ≤ w.heap.size + 1 + 1 by omega) (by omega) B7.out)
      go_wp2_with fail
      refine bodyPost_ret (v := .tuple #[.agg #[.slice a7 O.length cap7, .int .i64 rt], .int .i64 er]) (by simp [results, Try.results20, go_sem, z0, z1]) rfl ⟨a7, cap7, ?_, ?_, ?_⟩
      · rw [E.out.1, E.out.2.1, E.out.2.2]
      · rw [E.out.1]; exact FN.out.1
      · exact FN.out.2

theorem apply_any {w : World} {op : Int} {da db : List Nd} {aa ab : Option Addr} {n m ca cb : Nat} {ra rb : Int} (hda : DAt w da aa) (hdb : DAt w db ab) (hn : da.length = n) (hm : db.length = m) (hl : n ≤ 9223372036854775807) (hl2 : m ≤ 9223372036854775807) :
    Calls Try.prog 20 #[.int .i64 op, .agg #[.slice aa n ca, .int .i64 ra], .agg #[.slice ab m cb, .int .i64 rb]] w (DePost w (apPre op da ra db rb) (opT op (tb da 16 ra) (tb db 16 rb))) := by
  by_cases h4 : op = 4
  · subst h4; exact apply_and hda hdb hn hm hl hl2
  · by_cases h5 : op = 5
    · subst h5; exact apply_or hda hdb hn hm hl hl2
    · by_cases h6 : op = 6
      · subst h6; exact apply_xor hda hdb hn hm hl hl2
      · have e := apPre_op (da := da) (ra := ra) (db := db) (rb := rb) ⟨h4, h5, h6⟩
        have := de_no e (by omega) (opT op (tb da 16 ra) (tb db 16 rb))
        unfold DePost
        rw [this.1, this.2.1, this.2.2]
        exact apply_op (va := .nilFunc) (vb := .nilFunc) (by simpa using h4) (by simpa using h5) (by simpa using h6)

end Go.Proofs.Ythhogbligfmpdaa
