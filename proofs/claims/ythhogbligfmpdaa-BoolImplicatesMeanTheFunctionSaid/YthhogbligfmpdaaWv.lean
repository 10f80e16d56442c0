/- OfTable. -/
import Derived.Test.YthhogbligfmpdaaWt
import Derived.Test.YthhogbligfmpdaaPf
set_option linter.unusedVariables false
set_option linter.unusedSimpArgs false
namespace Go.Proofs.Ythhogbligfmpdaa
open Go.RowKit Bd

def OwPost (w : World) (T : List Bool) (e : Ending) (w' : World) : Prop :=
  ∃ a n cap a2 n2 cap2 lg r, e = .returned (.tuple #[.agg #[.slice a n cap, .slice a2 n2 cap2, .bool lg], .int .i64 r]) ∧ Below w.heap.size w w' ∧
    ((cnNodes T).length ≤ 2000 → lg = false ∧ n = (cnNodes T).length ∧ r = cnRoot T ∧ DNew w.heap.size w' (cnNodes T) a) ∧ (2000 < (cnNodes T).length → lg = true)

theorem ow_any {w : World} {t : List Bool} {tb n cap : Nat} (hn : t.length = n) (h16 : n = 2 ^ 16) (hcap : n ≤ cap) (hlt : tb < w.heap.size) (ht : TAt w t tb 0) :
    Calls Try.prog 48 #[.agg #[.slice none 0 0, .slice none 0 0, .bool false], .slice (some ⟨tb, 0, none⟩) n cap, .int .i64 0] w (OwPost w t) := by
  obtain ⟨k, hk⟩ : ∃ k, k = 16 := ⟨_, rfl⟩
  have hm : MD w tb (.slice none 0 0) (.slice none 0 0) [] [] [] := ⟨rfl, rfl, fun i hi => by simp at hi, World.ownsRow_nil _ _ _ _, World.ownsRow_nil _ _ _ _, fun i hi => by simp at hi, by simp [Value.ownBlock], by simp [Value.ownBlock], hlt⟩
  have hp : WkPre k t [] [] false := ⟨by rw [hk, hn, h16], by omega, by simp, fun _ k hk => by simp at hk, fun _ => rfl⟩
  have C := wk_any tb k w 0 cap k t _ _ [] [] [] false (Nat.le_refl _) (by rw [hk, ← h16]; exact hcap) hm ht hp
  rw [show 2 ^ k = n by rw [hk, h16], show (16 - (k : Int)) = 0 by omega] at C
  refine C.mono ?_
  rintro e w' ⟨v1, v2, acc', N', S', lg', r, rfl, md, le, fs, res⟩
  obtain ⟨a1, c1, hv1⟩ := md.sl1
  obtain ⟨a2, c2, hv2⟩ := md.sl2
  subst hv1
  subst hv2
  have hcn : (cnNodes t).length = (dfs k t []).length := by subst hk; simp [cnNodes, cnAcc]
  refine ⟨a1, _, c1, a2, _, c2, lg', r, rfl, ⟨fs.os, fs.tape, fs.output, fs.size, fun j hj => fs.keep j hj (by simp [Value.ownBlock]) (by simp [Value.ownBlock])⟩, fun hl => ?_, fun hl => ?_⟩
  · rw [hcn] at hl
    obtain ⟨e1, e2, e3, e4⟩ := (res.2 rfl).1 hl
    have hN : N' = cnNodes t := by rw [e4]; subst hk; rfl
    have hd : DNew w.heap.size w' N' a1 := dNew_of_row (cap := c1) (by have := md.row1; rw [← md.len] at this; exact this) (fun g hg => by
      rcases fs.loc1 g (by rw [md.len] at hg; exact hg) with e | e
      · simp [Value.ownBlock] at e
      · exact e)
    refine ⟨e1, by rw [hcn, e2], by rw [e3]; subst hk; rfl, by rw [← hN]; exact hd⟩
  · rw [hcn] at hl
    exact (res.2 rfl).2 hl

set_option maxRecDepth 100000 in
set_option maxHeartbeats 400000 in
theorem ofTable_any {w : World} {t : List Bool} {tb n cap : Nat} (hn : t.length = n) (h16 : n = 2 ^ 16) (hcap : n ≤ cap) (hlt : tb < w.heap.size) (ht : TAt w t tb 0) :
    Calls Try.prog 16 #[.slice (some ⟨tb, 0, none⟩) n cap] w (DEPost w (outNodes t) (outRoot t) (outErr t)) := by
  have B1 : Hid (Below w.heap.size w (w.alloc (.cells #[.slice none 0 0, .int .i64 0] 27))) := (Below.refl _ _).alloc (Nat.le_refl _) _
  have C := Lib.hid (ow_any (w := w.alloc (.cells #[.slice none 0 0, .int .i64 0] 27)) hn h16 hcap (by simp; omega) (ht.block (B1.out.block tb hlt)))
  have S1 : Hid ((w.alloc (.cells #[.slice none 0 0, .int .i64 0] 27)).heap.size = w.heap.size + 1) := by show _ = _; simp
  have X : Hid ((w.alloc (.cells #[.slice none 0 0, .int .i64 0] 27)).heap[w.heap.size]? = some (.cells #[.slice none 0 0, .int .i64 0] 27 (0, 0))) := heap_alloc_new w _
  clear hn h16 ht
  go_enter Try.func16, Try.ntmps16
  go_wp2_with fail
  generalize w.alloc (.cells #[.slice none 0 0, .int .i64 0] 27) = w1 at *
  refine C.out.mono ?_
  clear C
  rintro e w2 ⟨a, m, c, a2, m2, c2, lg, r, rfl, hb, hs, hl⟩
  have XX : Hid (w2.heap[w.heap.size]? = some (.cells #[.slice none 0 0, .int .i64 0] 27 (0, 0))) := (hb.block _ (by rw [S1.out]; omega)).trans X.out
  have BB := Lib.hid (Below.over B1.out (by rw [S1.out]; omega) hb)
  have SZ : w.heap.size < w2.heap.size := by have := hb.size; rw [S1.out] at this; omega
  clear hb
  obtain ⟨c0, c1⟩ := cells2 XX.out
  have f0 : w2.frozen? ⟨w.heap.size, 0, none⟩ = false := by simp [World.frozen?, XX.out]
  have f1 : w2.frozen? ⟨w.heap.size, 1, none⟩ = false := by simp [World.frozen?, XX.out]
  by_cases hsz : (cnNodes t).length ≤ 2000
  · have e1 : Hid (outNodes t = cnNodes t ∧ outRoot t = cnRoot t ∧ outErr t = 0) := ⟨by simp [outNodes, hsz], by simp [outRoot, hsz], by simp [outErr, hsz]⟩
    obtain ⟨rfl, h2, h3, h4⟩ := hs hsz
    have H2 := Lib.hid h2
    have H3 := Lib.hid h3
    have H4 := Lib.hid h4
    clear h2 h3 h4 hl hs
    go_wp2_with fail
    refine bodyPost_ret (v := .tuple #[.agg #[.slice a m c, .int .i64 r], .int .i64 0]) (by simp [results, Try.results16, go_sem, c0, c1, SZ]) rfl ⟨a, c, ?_, ?_, ?_⟩
    · rw [e1.out.1, e1.out.2.1, e1.out.2.2, H2.out, H3.out]
    · rw [e1.out.1]
      have := H4.out
      rw [S1.out] at this
      refine (this.of_blocks (w' := _) fun b hb hl => ?_).le (Nat.le_succ _)
      rw [Below.heap_alloc _ _ _ (by simp [World.setCell]; exact hl), Below.heap_setCell _ _ _ _ (by show b ≠ w.heap.size; omega), Below.heap_setCell _ _ _ _ (by show b ≠ w.heap.size; omega)]
    · exact ((BB.out.setCell (Nat.le_refl _) _).setCell (Nat.le_refl _) _).alloc (by simp [World.setCell]; omega) _
  · have e1 : Hid (outNodes t = [] ∧ outRoot t = 0 ∧ outErr t = 3) := ⟨by simp [outNodes, hsz], by simp [outRoot, hsz], by simp [outErr, hsz]⟩
    obtain rfl := hl (by omega)
    clear hs hl
    go_wp2_with fail
    refine bodyPost_ret (v := .tuple #[.agg #[.slice none 0 0, .int .i64 0], .int .i64 3]) (by simp [results, Try.results16, go_sem, c0, c1, SZ]) rfl ⟨none, 0, ?_, ?_, ?_⟩
    · rw [e1.out.1, e1.out.2.1, e1.out.2.2]; rfl
    · rw [e1.out.1]; exact dNew_nil _ _ _
    · exact ((BB.out.setCell (Nat.le_refl _) _).setCell (Nat.le_refl _) _).alloc (by simp [World.setCell]; omega) _

end Go.Proofs.Ythhogbligfmpdaa

/- SameDiagram. -/
namespace Go.Proofs.Ythhogbligfmpdaa
open Go.RowKit Bd

theorem nd_ext {O1 O2 : List Nd} (hl : O1.length = O2.length) (h : ∀ i : Nat, i < O1.length → nd O1 i = nd O2 i) : O1 = O2 := by
  refine List.ext_getElem hl fun i h1 h2 => ?_
  have := h i h1
  unfold nd at this
  simp only [Int.toNat_natCast] at this
  rw [List.getD_eq_getElem?_getD, List.getD_eq_getElem?_getD, List.getElem?_eq_getElem h1, List.getElem?_eq_getElem h2] at this
  exact this

@[go_sem] theorem eqg77 : Try.prog.eqGuardType Try.prog.depth 77 = false := by kernel_rfl
def SdR (O1 O2 : List Nd) (w : World) (iv : Value) (wr : World) : Prop :=
  ∃ i : Nat, iv = .int .i64 i ∧ i ≤ O1.length ∧ (∀ j : Nat, j < i → nd O1 j = nd O2 j) ∧ Qt w wr

def SdPost (w : World) (b : Bool) (e : Ending) (w' : World) : Prop := e = .returned (.bool b) ∧ Below w.heap.size w w'

set_option maxRecDepth 100000 in
set_option maxHeartbeats 1000000 in
theorem same_eq {w : World} {O1 O2 : List Nd} {a1 a2 : Option Addr} {n c1 c2 : Nat} {r : Int} (h1 : DAt w O1 a1) (h2 : DAt w O2 a2) (l1 : n ≤ 1000000) (e1 : O1.length = n) (e2 : O2.length = n) :
    Calls Try.prog 18 #[.agg #[.slice a1 n c1, .int .i64 r], .agg #[.slice a2 n c2, .int .i64 r]] w (SdPost w (decide (O1 = O2))) := by
  obtain ⟨x1, x2, x3, x4⟩ := two_new w (.cells #[.slice a1 n c1, .int .i64 r] 27) (.cells #[.slice a2 n c2, .int .i64 r] 27) _ rfl
  have X1 := Lib.hid x1; clear x1
  have X2 := Lib.hid x2; clear x2
  have X3 := Lib.hid x3; clear x3
  have X4 := Lib.hid x4; clear x4
  have H1 := Lib.hid (h1.below X4.out)
  have H2 := Lib.hid (h2.below X4.out)
  clear h1 h2
  have E1 := Lib.hid e1; clear e1
  have E2 := Lib.hid e2; clear e2
  go_enter Try.func18, Try.ntmps18
  go_wp2_with fail
  generalize (w.alloc (.cells #[.slice a1 n c1, .int .i64 r] 27)).alloc (.cells #[.slice a2 n c2, .int .i64 r] 27) = w1 at *
  go_loopw [5] (fun iv wr => SdR O1 O2 w1 iv wr) (fun iv _ => n - (intOf iv).toNat)
  case atStart => exact ⟨0, rfl, by omega, fun j hj => absurd hj (by omega), ⟨0, rfl⟩⟩
  case round =>
    obtain ⟨i, rfl, f1, f2, f3⟩ := hrel
    have F2 := Lib.hid f2; clear f2
    have F3 := Lib.hid f3; clear f3
    rw [E1.out] at f1
    obtain ⟨y0, y1, _⟩ := cells2 (F3.out.block.trans X1.out)
    obtain ⟨z0, z1, _⟩ := cells2 (F3.out.block.trans X2.out)
    by_cases hi : i < n
    · have i1 : (i : Int) < (n : Int) := by omega
      have hi1 : i < O1.length := by rw [E1.out]; exact hi
      have hi2 : i < O2.length := by rw [E2.out]; exact hi
      obtain ⟨b1, o1, rfl, d1⟩ := H1.out (by intro e; rw [e] at hi1; simp at hi1)
      obtain ⟨b2, o2, rfl, d2⟩ := H2.out (by intro e; rw [e] at hi2; simp at hi2)
      obtain ⟨p1, p2, p3⟩ := kid_cells F3.out.below (d1 i hi1)
      obtain ⟨q1, q2, q3⟩ := kid_cells F3.out.below (d2 i hi2)
      clear d1 d2 hi1 hi2
      obtain ⟨⟨v1, s1, t1⟩, hn1⟩ : ∃ x, nd O1 i = x := ⟨_, rfl⟩
      obtain ⟨⟨v2, s2, t2⟩, hn2⟩ : ∃ x, nd O2 i = x := ⟨_, rfl⟩
      rw [hn1] at p1 p2 p3
      rw [hn2] at q1 q2 q3
      have HN1 := Lib.hid hn1; clear hn1
      have HN2 := Lib.hid hn2; clear hn2
      simp only at p1 p2 p3 q1 q2 q3
      by_cases hn : nd O1 i = nd O2 i
      · have he : (v1, s1, t1) = (v2, s2, t2) := by rw [← HN1.out, ← HN2.out, hn]
        injection he with g1 g2
        injection g2 with g2 g3
        subst g1
        subst g2
        subst g3
        have HN := Lib.hid hn
        clear hn
        go_wp2_with fail
        go_quiet (fail)
        go_wp2_with fail
        go_roundw
        case rel => exact ⟨i + 1, by go_num, by rw [E1.out]; omega, fun j hj => by
          rcases Nat.lt_succ_iff_lt_or_eq.1 hj with h | h
          · exact F2.out j h
          · rw [h]; exact HN.out, F3.out.drewN _⟩
        case measure => simp [intOf]; omega
      · have he : ¬ ((v1, s1, t1) = (v2, s2, t2)) := by rw [← HN1.out, ← HN2.out]; exact hn
        have HN := Lib.hid hn
        clear hn
        have PO : ∀ k, Hid (SdPost w (decide (O1 = O2)) (.returned (.bool false)) (wr.drewN k)) := by
          intro k
          refine ⟨?_, X4.out.trans ((F3.out.drewN _).below.mono X4.out.size)⟩
          rw [decide_eq_false]
          intro e; exact HN.out (by rw [e])
        have PO := Lib.hid PO
        by_cases g1 : v1 = v2
        · subst g1
          by_cases g2 : s1 = s2
          · subst g2
            have g3 : ¬ t1 = t2 := fun e => he (by rw [e])
            clear he
            go_wp2_with fail
            go_quiet (fail)
            go_wp2_with fail
            go_ret
            exact (PO.out _).out
          · clear he
            go_wp2_with fail
            go_quiet (fail)
            go_wp2_with fail
            go_ret
            exact (PO.out _).out
        · clear he
          go_wp2_with fail
          go_quiet (fail)
          go_wp2_with fail
          go_ret
          exact (PO.out _).out
    · go_wp2_with fail
      go_ret
      refine ⟨?_, X4.out.trans (F3.out.below.mono X4.out.size)⟩
      rw [decide_eq_true (nd_ext (by rw [E1.out, E2.out]) fun j hj => F2.out j (by rw [E1.out] at hj; omega))]
      rfl

set_option maxRecDepth 100000 in
set_option maxHeartbeats 1000000 in
theorem same_ne {w : World} {a1 a2 : Option Addr} {n1 n2 c1 c2 : Nat} {r1 r2 : Int} (hne : n1 ≠ n2 ∨ r1 ≠ r2) (l1 : n1 ≤ 1000000) (l2 : n2 ≤ 1000000) :
    Calls Try.prog 18 #[.agg #[.slice a1 n1 c1, .int .i64 r1], .agg #[.slice a2 n2 c2, .int .i64 r2]] w (SdPost w false) := by
  obtain ⟨x1, x2, x3, x4⟩ := two_new w (.cells #[.slice a1 n1 c1, .int .i64 r1] 27) (.cells #[.slice a2 n2 c2, .int .i64 r2] 27) _ rfl
  have X4 := Lib.hid x4
  clear x1 x2 x3 x4
  by_cases hn : n1 = n2
  · subst hn
    have hr : (r1 != r2) = true := by simpa using hne
    clear hne
    go_enter Try.func18, Try.ntmps18
    go_wp2_with fail
    go_ret
    exact ⟨rfl, X4.out⟩
  · have hi : ¬ ((n1 : Int) = (n2 : Int)) := by omega
    clear hne
    go_enter Try.func18, Try.ntmps18
    go_wp2_with fail
    go_ret
    exact ⟨rfl, X4.out⟩

/-- SameDiagram. -/
theorem same_any {w : World} {O1 O2 : List Nd} {a1 a2 : Option Addr} {c1 c2 : Nat} {r1 r2 : Int} (h1 : DAt w O1 a1) (h2 : DAt w O2 a2) (l1 : O1.length ≤ 1000000) (l2 : O2.length ≤ 1000000) :
    Calls Try.prog 18 #[.agg #[.slice a1 O1.length c1, .int .i64 r1], .agg #[.slice a2 O2.length c2, .int .i64 r2]] w (SdPost w (decide (O1 = O2 ∧ r1 = r2))) := by
  by_cases h : O1.length ≠ O2.length ∨ r1 ≠ r2
  · have : decide (O1 = O2 ∧ r1 = r2) = false := by
      rw [decide_eq_false]
      rintro ⟨rfl, rfl⟩
      simp at h
    rw [this]
    exact same_ne h l1 l2
  · have hl : O1.length = O2.length := by omega
    have hr : r1 = r2 := by omega
    have e : decide (O1 = O2 ∧ r1 = r2) = decide (O1 = O2) := by simp [hr]
    rw [e, hr, ← hl]
    exact same_eq h1 h2 l1 rfl hl.symm

end Go.Proofs.Ythhogbligfmpdaa

/- slices.Equal of nodes. -/
namespace Go.Proofs.Ythhogbligfmpdaa
open Go.RowKit Bd

theorem lt_succ {j i : Nat} (h : j < i + 1) : j < i ∨ j = i := by omega

set_option maxRecDepth 100000 in
set_option maxHeartbeats 1000000 in
theorem equal_eq {w : World} {O1 O2 : List Nd} {a1 a2 : Option Addr} {n c1 c2 : Nat} (h1 : DAt w O1 a1) (h2 : DAt w O2 a2) (l1 : n ≤ 1000000) (e1 : O1.length = n) (e2 : O2.length = n) :
    Calls Try.prog 64 #[.slice a1 n c1, .slice a2 n c2] w fun e w' => e = .returned (.bool (decide (O1 = O2))) ∧ ∃ q, w' = w.drewN q := by
  have H1 := Lib.hid h1
  have H2 := Lib.hid h2
  clear h1 h2
  have E1 := Lib.hid e1; clear e1
  have E2 := Lib.hid e2; clear e2
  go_enter Try.func64, Try.ntmps64
  go_wp2_with fail
  go_loopw [13] (fun iv wr => SdR O1 O2 w iv wr) (fun iv _ => n - (intOf iv).toNat)
  case atStart => exact ⟨0, rfl, by omega, fun j hj => absurd hj (by omega), ⟨0, rfl⟩⟩
  case round =>
    obtain ⟨i, rfl, f1, f2, f3⟩ := hrel
    have F2 := Lib.hid f2; clear f2
    have F3 := Lib.hid f3; clear f3
    rw [E1.out] at f1
    by_cases hi : i < n
    · have i1 : (i : Int) < (n : Int) := by omega
      have hi1 : i < O1.length := by rw [E1.out]; exact hi
      have hi2 : i < O2.length := by rw [E2.out]; exact hi
      obtain ⟨b1, o1, rfl, d1⟩ := H1.out (by intro e; rw [e] at hi1; simp at hi1)
      obtain ⟨b2, o2, rfl, d2⟩ := H2.out (by intro e; rw [e] at hi2; simp at hi2)
      obtain ⟨p1, p2, p3⟩ := kid_cells F3.out.below (d1 i hi1)
      obtain ⟨q1, q2, q3⟩ := kid_cells F3.out.below (d2 i hi2)
      clear d1 d2 hi1 hi2
      obtain ⟨⟨v1, s1, t1⟩, hn1⟩ : ∃ x, nd O1 i = x := ⟨_, rfl⟩
      obtain ⟨⟨v2, s2, t2⟩, hn2⟩ : ∃ x, nd O2 i = x := ⟨_, rfl⟩
      rw [hn1] at p1 p2 p3
      rw [hn2] at q1 q2 q3
      have HN1 := Lib.hid hn1; clear hn1
      have HN2 := Lib.hid hn2; clear hn2
      simp only at p1 p2 p3 q1 q2 q3
      by_cases hn : nd O1 i = nd O2 i
      · have he : (v1, s1, t1) = (v2, s2, t2) := by rw [← HN1.out, ← HN2.out, hn]
        injection he with g1 g2
        injection g2 with g2 g3
        subst g1
        subst g2
        subst g3
        have HN := Lib.hid hn
        clear hn
        go_wp2_with fail
        go_quiet (fail)
        go_wp2_with fail
        go_roundw
        case rel => exact ⟨i + 1, by go_num, by rw [E1.out]; omega, fun j hj => by
          rcases lt_succ hj with h | h
          · exact F2.out j h
          · rw [h]; exact HN.out, F3.out.drewN _⟩
        case measure => simp [intOf]; omega
      · have he : ¬ ((v1, s1, t1) = (v2, s2, t2)) := by rw [← HN1.out, ← HN2.out]; exact hn
        have HN := Lib.hid hn
        clear hn
        have PO : ∀ k, Hid ((Ending.returned (.bool false) = .returned (.bool (decide (O1 = O2)))) ∧ ∃ q, wr.drewN k = w.drewN q) := by
          intro k
          refine ⟨?_, F3.out.drewN k⟩
          rw [decide_eq_false]
          intro e; exact HN.out (by rw [e])
        have PO := Lib.hid PO
        by_cases g1 : v1 = v2
        · subst g1
          by_cases g2 : s1 = s2
          · subst g2
            have g3 : ¬ t1 = t2 := fun e => he (by rw [e])
            clear he
            go_wp2_with fail
            go_quiet (fail)
            go_wp2_with fail
            go_ret
            exact (PO.out _).out
          · clear he
            go_wp2_with fail
            go_quiet (fail)
            go_wp2_with fail
            go_ret
            exact (PO.out _).out
        · clear he
          go_wp2_with fail
          go_quiet (fail)
          go_wp2_with fail
          go_ret
          exact (PO.out _).out
    · go_wp2_with fail
      go_ret
      refine ⟨?_, F3.out⟩
      rw [decide_eq_true (nd_ext (by rw [E1.out, E2.out]) fun j hj => F2.out j (by rw [E1.out] at hj; omega))]
      rfl

set_option maxRecDepth 100000 in
set_option maxHeartbeats 1000000 in
theorem equal_ne {w : World} {a1 a2 : Option Addr} {n1 n2 c1 c2 : Nat} (hn : n1 ≠ n2) (l1 : n1 ≤ 1000000) (l2 : n2 ≤ 1000000) :
    Calls Try.prog 64 #[.slice a1 n1 c1, .slice a2 n2 c2] w fun e w' => e = .returned (.bool false) ∧ ∃ q, w' = w.drewN q := by
  have hi : ¬ ((n1 : Int) = (n2 : Int)) := by omega
  clear hn
  go_enter Try.func64, Try.ntmps64
  go_wp2_with fail
  go_ret
  exact ⟨rfl, 0, rfl⟩

theorem equal_any {w : World} {O1 O2 : List Nd} {a1 a2 : Option Addr} {c1 c2 : Nat} (h1 : DAt w O1 a1) (h2 : DAt w O2 a2) (l1 : O1.length ≤ 1000000) (l2 : O2.length ≤ 1000000) :
    Calls Try.prog 64 #[.slice a1 O1.length c1, .slice a2 O2.length c2] w fun e w' => e = .returned (.bool (decide (O1 = O2))) ∧ ∃ q, w' = w.drewN q := by
  by_cases h : O1.length = O2.length
  · rw [← h]
    exact equal_eq h1 h2 l1 rfl h.symm
  · have : decide (O1 = O2) = false := by
      rw [decide_eq_false]
      rintro rfl
      exact h rfl
    rw [this]
    exact equal_ne h l1 l2

end Go.Proofs.Ythhogbligfmpdaa

/- The method add. -/
namespace Go.Proofs.Ythhogbligfmpdaa
open Go.RowKit Bd

set_option maxRecDepth 100000 in
set_option maxHeartbeats 400000 in
/-- The closure of add: a constant is itself, a node is where it has gone. -/
theorem at_any {w : World} {b g n cap : Nat} {at' : Nat → Int} {r : Int} (hb : w.cell? ⟨b, 0, none⟩ = some (.slice (some ⟨g, 0, none⟩) n cap)) (hr : r < (n : Int)) (ha : 0 ≤ r → w.cell? ⟨g, r.toNat, none⟩ = some (.int .i64 (at' r.toNat))) :
    Calls Try.prog 84 #[.int .i64 r, .pointer (some ⟨b, 0, none⟩)] w fun e w' => e = .returned (.int .i64 (mp at' r)) ∧ w = w' := by
  by_cases h0 : r < 0
  · have e : mp at' r = r := by simp [mp, h0]
    rw [e]
    go_enter Try.func84, Try.ntmps84
    go_wp2_with fail
    go_ret
    exact ⟨rfl, rfl⟩
  · obtain ⟨i, rfl⟩ := Int.eq_ofNat_of_zero_le (by omega : 0 ≤ r)
    have e : mp at' (i : Int) = at' i := by unfold mp; rw [if_neg (by omega)]; simp
    rw [e]
    have c := ha (by omega)
    simp only [Int.toNat_natCast] at c
    clear ha
    generalize at' i = x at *
    have h1 : ¬ ((i : Int) < 0) := by omega
    go_enter Try.func84, Try.ntmps84
    go_wp2_with fail
    go_ret
    exact ⟨rfl, rfl⟩

/-- The state of the loop of add: k nodes have gone over; the array lies in block b + 1. -/
structure AddR (W : World) (M : ML) (ns ds : List Nd) (b n k : Nat) (wr : World) (at' : Nat → Int) (ns' : List Nd) (dn' : List (Nd × Int)) (v' : Value) : Prop where
  st : St wr { M with v := v' } ns' dn'
  ext : ∃ ms, ns' = ns ++ ms ∧ ms.length ≤ k
  ai : AI ds ns' at' k
  os : wr.os = W.os
  tape : wr.tape = W.tape
  output : wr.output = W.output
  size : W.heap.size ≤ wr.heap.size
  keep : ∀ j, j < W.heap.size → ¬ M.foot j → j ≠ b + 1 → wr.heap[j]? = W.heap[j]?
  loc : ∀ g, v'.ownBlock = some g → M.v.ownBlock = some g ∨ W.heap.size ≤ g
  arr : ∀ j, j < k → wr.cell? ⟨b + 1, j, none⟩ = some (.int .i64 (at' j))
  has : ∀ j, j < n → ∃ u, wr.cell? ⟨b + 1, j, none⟩ = some u
  fz : ∀ j, wr.frozen? ⟨b + 1, j, none⟩ = false

/-- No block of the manager is among the new ones. -/
theorem AddR.far {W wr : World} {M : ML} {ns ds ns' : List Nd} {dn' : List (Nd × Int)} {b n k : Nat} {at' : Nat → Int} {v' : Value} (h : AddR W M ns ds b n k wr at' ns' dn' v') (hf : ∀ j, M.foot j → j < b) {j : Nat} (hj : b ≤ j) (hW : j < W.heap.size) : ¬ ({ M with v := v' } : ML).foot j := by
  rintro (e | e | e | e)
  · have := hf j (Or.inl e); omega
  · have := hf j (Or.inr (Or.inl e)); omega
  · have := hf j (Or.inr (Or.inr (Or.inl e))); omega
  · rcases h.loc j e with e' | e'
    · have := hf j (Or.inr (Or.inr (Or.inr e'))); omega
    · omega

theorem AddR.push {W wr w2 : World} {M : ML} {ns ds ns' : List Nd} {dn' : List (Nd × Int)} {b n k : Nat} {at' : Nat → Int} {v' v2 : Value} {ob : Obj} (h : AddR W M ns ds b n k wr at' ns' dn' v') (o : Ord ds) (hf : ∀ j, M.foot j → j < b) (hb : b + 1 < W.heap.size) (hk : k < ds.length) (hkn : k < n)
    (mg : Mgr w2 { M with v := v2 } (nodeS ns' (nd ds k).1 (Bd.mp at' (lo ds k)) (Bd.mp at' (Bd.hi ds k))).1 dn') (sp : Step (wr.alloc ob).drew { M with v := v' } w2 { M with v := v2 }) :
    AddR W M ns ds b n (k + 1) (w2.setCell ⟨b + 1, k, none⟩ (.int .i64 (nodeS ns' (nd ds k).1 (Bd.mp at' (lo ds k)) (Bd.mp at' (Bd.hi ds k))).2)) (fun j => if j = k then (nodeS ns' (nd ds k).1 (Bd.mp at' (lo ds k)) (Bd.mp at' (Bd.hi ds k))).2 else at' j) (nodeS ns' (nd ds k).1 (Bd.mp at' (lo ds k)) (Bd.mp at' (Bd.hi ds k))).1 dn' v2 := by
  have NR := h.ai.step o h.st.good hk
  have PU := h.ai.push o h.st.good hk NR
  generalize (nodeS ns' (nd ds k).1 (Bd.mp at' (lo ds k)) (Bd.mp at' (Bd.hi ds k))).1 = ns2 at *
  generalize (nodeS ns' (nd ds k).1 (Bd.mp at' (lo ds k)) (Bd.mp at' (Bd.hi ds k))).2 = r at *
  have hsz := sp.size
  simp at hsz
  have hwz := h.size
  obtain ⟨ms, e1, e2⟩ := h.ext
  obtain ⟨ms2, e3, e4⟩ := NR.ext
  have nf : ¬ ({ M with v := v' } : ML).foot (b + 1) := h.far hf (by omega) hb
  have keep2 : ∀ j, j < wr.heap.size → ¬ ({ M with v := v' } : ML).foot j → w2.heap[j]? = wr.heap[j]? := fun j hj hfj => (sp.keep j (by simp; omega) hfj).trans (Below.heap_alloc wr ob j hj)
  have blk : w2.heap[b + 1]? = wr.heap[b + 1]? := keep2 _ (by omega) nf
  have cel : ∀ j, w2.cell? ⟨b + 1, j, none⟩ = wr.cell? ⟨b + 1, j, none⟩ := fun j => World.cell?_of_block (a := ⟨b + 1, j, none⟩) blk
  have oth : ∀ j, j ≠ b + 1 → (w2.setCell ⟨b + 1, k, none⟩ (.int .i64 r)).heap[j]? = w2.heap[j]? := fun j hj => Below.heap_setCell _ _ _ _ hj
  have loc2 : ∀ g, v2.ownBlock = some g → M.v.ownBlock = some g ∨ W.heap.size ≤ g := by
    intro g hg
    rcases sp.loc g hg with e | e
    · exact h.loc g e
    · right; simp at e; omega
  have nf2 : ∀ j, ({ M with v := v2 } : ML).foot j → j ≠ b + 1 := by
    rintro j (e | e | e | e) rfl
    · have := hf _ (Or.inl e); omega
    · have := hf _ (Or.inr (Or.inl e)); omega
    · have := hf _ (Or.inr (Or.inr (Or.inl e))); omega
    · rcases loc2 _ e with e' | e'
      · have := hf _ (Or.inr (Or.inr (Or.inr e'))); omega
      · omega
  refine ⟨⟨mg.of_blocks fun j hj => oth j (nf2 j hj), NR.good, ?_⟩, ⟨ms ++ ms2, by rw [e3, e1, List.append_assoc], by rw [List.length_append]; omega⟩, PU, ?_, ?_, ?_, ?_, ?_, loc2, ?_, ?_, ?_⟩
  · rw [e3]; exact h.st.don.app h.st.good.ord ms2
  · exact sp.os.trans h.os
  · exact sp.tape.trans h.tape
  · exact sp.output.trans h.output
  · simp [World.setCell]; omega
  · intro j hj hfj hne
    rw [oth j hne, keep2 j (by omega) ?_, h.keep j hj hfj hne]
    rintro (e | e | e | e)
    · exact hfj (Or.inl e)
    · exact hfj (Or.inr (Or.inl e))
    · exact hfj (Or.inr (Or.inr (Or.inl e)))
    · rcases h.loc j e with e' | e'
      · exact hfj (Or.inr (Or.inr (Or.inr e')))
      · omega
  · intro j hj
    by_cases e : j = k
    · subst e
      simp only [if_true]
      obtain ⟨u, hu⟩ := h.has j hkn
      exact World.cell?_setCell_same _ _ _ ((cel j).trans hu)
    · simp only [if_neg e]
      rw [World.cell?_setCell_other _ _ _ _ (by intro e2; exact e (congrArg Addr.off e2).symm), cel j]
      exact h.arr j (by omega)
  · intro j hj
    by_cases e : j = k
    · subst e
      obtain ⟨u, hu⟩ := h.has j hkn
      exact ⟨_, World.cell?_setCell_same _ _ _ ((cel j).trans hu)⟩
    · obtain ⟨u, hu⟩ := h.has j hj
      exact ⟨u, by rw [World.cell?_setCell_other _ _ _ _ (by intro e2; exact e (congrArg Addr.off e2).symm), cel j]; exact hu⟩
  · intro j
    rw [World.frozen?_setCell]
    have : w2.frozen? ⟨b + 1, j, none⟩ = wr.frozen? ⟨b + 1, j, none⟩ := by simp only [World.frozen?, blk]
    rw [this]; exact h.fz j

end Go.Proofs.Ythhogbligfmpdaa

/- The method add: the walk. -/
namespace Go.Proofs.Ythhogbligfmpdaa
open Go.RowKit Bd

/-- A table as a function. -/
def fnT (T : List Bool) (x : Nat) : Bool := T.getD x false
theorem tl_fnT {T : List Bool} (h : T.length = 65536) : tl (fnT T) = T := by
  refine List.ext_getElem (by rw [tl_length, h]) fun i h1 h2 => ?_
  have := tl_get (fnT T) (x := i) (by rw [tl_length] at h1; exact h1)
  rw [List.getElem?_eq_getElem h1] at this
  simp only [Option.some.injEq] at this
  rw [this]
  unfold fnT
  rw [List.getD_eq_getElem?_getD, List.getElem?_eq_getElem h2]
  rfl

theorem cell_far {w : World} {a b : Addr} {v u : Value} (h : a.block ≠ b.block) (hc : w.cell? b = some u) : (w.setCell a v).cell? b = some u := by
  rw [World.cell?_setCell_other _ _ _ _ (by intro e; exact h (congrArg Addr.block e))]; exact hc

/-- The three blocks that add lays. -/
theorem add_start {w W : World} {M : ML} {ns ds : List Nd} {dn : List (Nd × Int)} {n cap : Nat} {a : Option Addr} {root : Int} {xs : List Value} {w1 : World} (h : St w M ns dn)
    (ho : w1.ownsRow 0 3 1 (.slice (some ⟨w.heap.size + 1, 0, none⟩) n n) n xs) (hg : (w.alloc (.cells #[.slice a n cap, .int .i64 root] 27)).grownBy w1 none) (hW : W = w1.alloc (.cells #[.slice (some ⟨w.heap.size + 1, 0, none⟩) n n] 53)) :
    AddR W M ns ds w.heap.size n 0 W (fun _ => 0) ns dn M.v ∧ W.heap.size = w1.heap.size + 1 ∧ w.heap.size + 1 < w1.heap.size ∧ W.heap[w.heap.size]? = some (.cells #[.slice a n cap, .int .i64 root] 27 (0, 0)) ∧ W.heap[w1.heap.size]? = some (.cells #[.slice (some ⟨w.heap.size + 1, 0, none⟩) n n] 53 (0, 0)) ∧ Below w.heap.size w W ∧ (∀ j, M.foot j → j < w.heap.size) := by
  have hf : ∀ j, M.foot j → j < w.heap.size := fun j hj => h.mgr.lt hj
  have hz : w.heap.size + 1 < w1.heap.size := (ho.lt _ rfl).2
  have hb : Below w.heap.size w w1 := ⟨hg.os, hg.tape, hg.output, by omega, fun k hk => by rw [hg.block k (by simp; omega) (by simp)]; exact Below.heap_alloc w _ k hk⟩
  have hbW : Below w.heap.size w W := by rw [hW]; exact hb.alloc (by omega) _
  have hsz : W.heap.size = w1.heap.size + 1 := by rw [hW]; simp
  have hrow := ho.alloc (.cells #[.slice (some ⟨w.heap.size + 1, 0, none⟩) n n] 53)
  rw [← hW] at hrow
  refine ⟨⟨⟨h.mgr.of_blocks fun k hk => hbW.block k (hf k hk), h.good, h.don⟩, ⟨[], by simp, by simp⟩, fun i hi => by omega, rfl, rfl, rfl, Nat.le_refl _, fun _ _ _ _ => rfl, fun g hg => Or.inl hg, fun j hj => by omega, fun j hj => ?_, fun j => hrow.frozenAt j⟩, hsz, hz, ?_, ?_, hbW, hf⟩
  · have hl := hrow.1
    rw [hrow.cellAt j (by omega), List.getElem?_eq_getElem (by omega)]
    exact ⟨_, rfl⟩
  · rw [hW, Below.heap_alloc _ _ _ (by omega), hg.block _ (by simp) (by simp)]
    exact heap_alloc_new w _
  · rw [hW]
    exact heap_alloc_new w1 _

def AddL (W : World) (M : ML) (ns ds : List Nd) (b n : Nat) (iv : Value) (wr : World) : Prop :=
  ∃ k at' ns' dn' v', k ≤ n ∧ iv = .int .i64 (k : Nat) ∧ AddR W M ns ds b n k wr at' ns' dn' v'

set_option maxRecDepth 100000 in
set_option maxHeartbeats 1000000 in
theorem add_any {w : World} {M : ML} {ns ds : List Nd} {dn : List (Nd × Int)} (h : St w M ns dn) {a : Option Addr} {n cap : Nat} {root : Int} (hd : DAt w ds a) (hfar : ds ≠ [] → ∀ b o, a = some ⟨b, o, none⟩ → ¬ M.foot b) (o : Ord ds) (hroot : Ref ds root) (hn : ds.length = n) (hl : n ≤ 2000) (hns : ns.length + 2000 ≤ 1000000000000) :
    Calls Try.prog 51 #[.pointer (some ⟨M.b, 0, none⟩), .agg #[.slice a n cap, .int .i64 root]] w (RPost w M ns (fnT (tb ds 16 root)) 2000) := by
  have H := Lib.hid h; clear h
  have HD := Lib.hid hd; clear hd
  have FAR := Lib.hid hfar; clear hfar
  have OD := Lib.hid o; clear o
  have HN := Lib.hid hn; clear hn
  have HR := Lib.hid hroot
  have hr2 : root < (n : Int) := by have := hroot.2; rw [HN.out] at this; exact this
  have hr1 := hroot.1
  clear hroot
  obtain ⟨i0, hi0, hz0, hz1, hz2⟩ := info_parts info3
  have S1 : Hid ((w.alloc (.cells #[.slice a n cap, .int .i64 root] 27)).heap.size = w.heap.size + 1) := by show _ = _; simp
  go_enter Try.func51, Try.ntmps51
  go_upto_region 2 with (at_make; refine wpList_make_full _ rfl _ _ 53 rfl 0 3 i0 (.int .i64 0) 1 Try.underlying53 hi0 hz0 hz1 .i64 .i64 (n : Int) (n : Int) n rfl rfl rfl rfl (by rw [hz2]; omega) (by unfold maxLen; omega) (Nat.zero_le _) ?_; intro w1 hown1 hg1; have OW := Lib.hid hown1; have GR := Lib.hid hg1; clear hown1 hg1)
  have OW1 : Hid (w1.ownsRow 0 3 1 (.slice (some ⟨w.heap.size + 1, 0, none⟩) n n) n (madeCells (Value.int .i64 0).cells (n * 1)).toList) := by
    have := OW.out
    rw [S1.out] at this
    exact this
  obtain ⟨x1, x2, x3, x4, x5, x6, x7⟩ := add_start (ds := ds) (root := root) H.out OW1.out GR.out rfl
  clear OW OW1 GR S1
  have X1 := Lib.hid x1; clear x1
  have X2 := Lib.hid x2; clear x2
  have X4 := Lib.hid x4; clear x4
  have X5 := Lib.hid x5; clear x5
  have X6 := Lib.hid x6; clear x6
  have X7 := Lib.hid x7; clear x7
  generalize w1.alloc (.cells #[.slice (some ⟨w.heap.size + 1, 0, none⟩) n n] 53) = W at *
  generalize w1.heap.size = bt at *
  obtain ⟨y0, y1, _⟩ := cells2 X4.out
  go_wp2_with fail
  go_loopw [17] (fun iv wr => AddL W M ns ds w.heap.size n iv wr) (fun iv _ => n - (intOf iv).toNat)
  case atStart => exact ⟨0, _, _, _, _, by omega, rfl, X1.out⟩
  case round =>
    clear y0 y1
    obtain ⟨k, at', ns', dn', v', hk, rfl, hr⟩ := hrel
    have HRR := Lib.hid hr
    have hsz := hr.size
    clear hr
    have b1 : Hid (wr.heap[w.heap.size]? = some (.cells #[.slice a n cap, .int .i64 root] 27 (0, 0))) := (HRR.out.keep _ (by rw [X2.out]; omega) (fun e => absurd (X7.out _ e) (by omega)) (by omega)).trans X4.out
    have b2 : Hid (wr.heap[bt]? = some (.cells #[.slice (some ⟨w.heap.size + 1, 0, none⟩) n n] 53 (0, 0))) := (HRR.out.keep _ (by rw [X2.out]; omega) (fun e => absurd (X7.out _ e) (by omega)) (by omega)).trans X5.out
    have t0 : wr.cell? ⟨bt, 0, none⟩ = some (.slice (some ⟨w.heap.size + 1, 0, none⟩) n n) := by simp [World.cell?, b2.out]
    obtain ⟨y0, y1, _⟩ := cells2 b1.out
    by_cases hkn : k < n
    · have i1 : (k : Int) < (n : Int) := by omega
      have hkd : k < ds.length := by rw [HN.out]; exact hkn
      obtain ⟨bd, od, rfl, d1⟩ := HD.out (by intro e; rw [e] at hkd; simp at hkd)
      have bdl : bd < w.heap.size := lt_of_cell (d1 k hkd).1
      have bk : Hid (wr.heap[bd]? = w.heap[bd]?) := (HRR.out.keep bd (by rw [X2.out]; omega) (FAR.out (by intro e; rw [e] at hkd; simp at hkd) _ _ rfl) (by omega)).trans (X6.out.block bd bdl)
      obtain ⟨p1, p2, p3⟩ := d1 k hkd
      have p1 := (World.cell?_of_block (a := ⟨bd, od + k * 3, none⟩) bk.out).trans p1
      have p2 := (World.cell?_of_block (a := ⟨bd, od + k * 3 + 1, none⟩) bk.out).trans p2
      have p3 := (World.cell?_of_block (a := ⟨bd, od + k * 3 + 2, none⟩) bk.out).trans p3
      clear d1
      obtain ⟨o1, o2, o3, o4, o5, o6⟩ := OD.out k hkd
      have el : lo ds k = (nd ds k).2.1 := rfl
      have eh : Bd.hi ds k = (nd ds k).2.2 := rfl
      rw [el] at o3 
      rw [eh] at o4
      clear o5 o6 el eh
      have PU := fun (w2 : World) (v2 : Value) (ob : Obj) => HRR.out.push (w2 := w2) (v2 := v2) (ob := ob) OD.out X7.out (by rw [X2.out]; omega) hkd hkn
      obtain ⟨⟨vv, l0, h0⟩, hnd⟩ : ∃ x, nd ds k = x := ⟨_, rfl⟩
      simp only [lo, Bd.hi, hnd] at PU p1 p2 p3 o1 o2 o3 o4
      have PUH := Lib.hid PU; clear PU
      have HND := Lib.hid hnd; clear hnd
      have LNS : ns'.length + 1 ≤ 1000000000000 := by
        obtain ⟨ms, e1, e2⟩ := HRR.out.ext
        rw [e1, List.length_append]; omega
      have wb : w.heap.size + 1 < wr.heap.size := by have := X2.out; omega
      have wt : bt < wr.heap.size := by have := X2.out; omega
      have ST := Lib.hid (HRR.out.st.mgr.alloc (.cells #[.int .i64 vv, .int .i64 l0, .int .i64 h0] 77)).drew
      have A0 := Lib.hid HRR.out.arr
      have CL : Hid (∀ r : Int, r < k → (wr.alloc (.cells #[.int .i64 vv, .int .i64 l0, .int .i64 h0] 77)).drew.cell? ⟨bt, 0, none⟩ = some (.slice (some ⟨w.heap.size + 1, 0, none⟩) n n) →
          Calls Try.prog 84 #[.int .i64 r, .pointer (some ⟨bt, 0, none⟩)] (wr.alloc (.cells #[.int .i64 vv, .int .i64 l0, .int .i64 h0] 77)).drew fun e w' => e = .returned (.int .i64 (mp at' r)) ∧ (wr.alloc (.cells #[.int .i64 vv, .int .i64 l0, .int .i64 h0] 77)).drew = w') := by
        intro r hr hc
        exact at_any hc (by omega) fun h0' => (World.cell?_of_block (a := ⟨w.heap.size + 1, r.toNat, none⟩) (Below.heap_alloc wr _ _ wb)).trans (A0.out r.toNat (by omega))
      obtain ⟨u, hu⟩ := HRR.out.has k hkn
      have fz := HRR.out.fz k
      have NF := Lib.hid (fun (j : Nat) (h1 : w.heap.size ≤ j) (h2 : j < bt + 1) => HRR.out.far X7.out h1 (by rw [X2.out]; exact h2))
      have NG : Hid (¬ ({ M with v := v' } : ML).foot wr.heap.size) := fun e => absurd (HRR.out.st.mgr.lt e) (by omega)
      go_upto_region 6 with fail
      have q0 : (wr.alloc (.cells #[.int .i64 vv, .int .i64 l0, .int .i64 h0] 77)).heap[wr.heap.size]? = some (.cells #[.int .i64 vv, .int .i64 l0, .int .i64 h0] 77 (0, 0)) := heap_alloc_new wr _
      have q1 : (wr.alloc (.cells #[.int .i64 vv, .int .i64 l0, .int .i64 h0] 77)).heap[bt]? = wr.heap[bt]? := Below.heap_alloc wr _ _ wt
      have q2 : (wr.alloc (.cells #[.int .i64 vv, .int .i64 l0, .int .i64 h0] 77)).heap[w.heap.size + 1]? = wr.heap[w.heap.size + 1]? := Below.heap_alloc wr _ _ wb
      have q3 : (wr.alloc (.cells #[.int .i64 vv, .int .i64 l0, .int .i64 h0] 77)).heap.size = wr.heap.size + 1 := by simp
      have P2 := Lib.hid (fun (w2 : World) (v2 : Value) => PUH.out w2 v2 (.cells #[.int .i64 vv, .int .i64 l0, .int .i64 h0] 77))
      clear PUH
      generalize wr.alloc (.cells #[.int .i64 vv, .int .i64 l0, .int .i64 h0] 77) = wa at *
      have Q0 := Lib.hid q0; clear q0
      have Q1 := Lib.hid q1; clear q1
      have Q2 := Lib.hid q2; clear q2
      have Q3 := Lib.hid q3; clear q3
      obtain ⟨c0, c1, c2⟩ := cells3 Q0.out
      have t1 : wa.cell? ⟨bt, 0, none⟩ = some (.slice (some ⟨w.heap.size + 1, 0, none⟩) n n) := (World.cell?_of_block (a := ⟨bt, 0, none⟩) Q1.out).trans t0
      go_region_held3 (fun W => W.cell? ⟨bt, 0, none⟩ = some (.slice (some ⟨w.heap.size + 1, 0, none⟩) n n) ∧ W.cell? ⟨wr.heap.size, 0, none⟩ = some (.int .i64 vv) ∧ W.cell? ⟨wr.heap.size, 1, none⟩ = some (.int .i64 l0) ∧ W.cell? ⟨wr.heap.size, 2, none⟩ = some (.int .i64 h0))
        (first
          | exact ⟨t1, c0, c1, c2⟩
          | exact ⟨s1, s2, s3, s4⟩
          | exact ⟨cell_far (by simp; omega) s1, cell_far (by simp; omega) s2, cell_far (by simp; omega) s3, cell_far (by simp; omega) s4⟩
          | go_keep)
        (first
          | (go_at_call_of 84 (Value.int .i64 l0); refine (CL.out l0 o3.2 t1).mono ?_; rintro e w2 ⟨rfl, rfl⟩)
          | (go_at_call_of 84 (Value.int .i64 h0); refine (CL.out h0 o4.2 t1).mono ?_; rintro e w2 ⟨rfl, rfl⟩)
          | (go_at_call 80; refine (node_any ST.out vv (mp at' l0) (mp at' h0) LNS).mono ?_; rintro e w2 ⟨rfl, v2, mg2, sp2⟩; have s1 := (World.cell?_of_block (a := ⟨bt, 0, none⟩) (sp2.keep bt (by show _ < wa.heap.size; rw [Q3.out]; omega) (NF.out bt (by omega) (by omega)))).trans t1; have s2 := (World.cell?_of_block (a := ⟨wr.heap.size, 0, none⟩) (sp2.keep wr.heap.size (by show _ < wa.heap.size; rw [Q3.out]; omega) NG.out)).trans c0; have s3 := (World.cell?_of_block (a := ⟨wr.heap.size, 1, none⟩) (sp2.keep wr.heap.size (by show _ < wa.heap.size; rw [Q3.out]; omega) NG.out)).trans c1; have s4 := (World.cell?_of_block (a := ⟨wr.heap.size, 2, none⟩) (sp2.keep wr.heap.size (by show _ < wa.heap.size; rw [Q3.out]; omega) NG.out)).trans c2; have kb := (sp2.keep (w.heap.size + 1) (by show _ < wa.heap.size; rw [Q3.out]; omega) (NF.out _ (by omega) (by omega))).trans Q2.out; have hu2 := (World.cell?_of_block (a := ⟨w.heap.size + 1, k, none⟩) kb).trans hu; have fz2 : w2.frozen? ⟨w.heap.size + 1, k, none⟩ = false := (by have : w2.frozen? ⟨w.heap.size + 1, k, none⟩ = wr.frozen? ⟨w.heap.size + 1, k, none⟩ := (by simp only [World.frozen?, kb]); rw [this]; exact fz); have PP := Lib.hid (P2.out w2 v2 mg2 sp2); clear mg2 sp2 kb))
      go_wp2_with fail
      go_roundw
      case rel => exact ⟨k + 1, _, _, dn', v2, by omega, by go_num, PP.out⟩
      case measure => simp [intOf]; omega
    · obtain rfl : k = n := by omega
      go_wp2_with fail
      refine (at_any (at' := at') t0 hr2 (fun h0 => HRR.out.arr root.toNat (by omega))).mono ?_
      rintro e w2 ⟨rfl, rfl⟩
      go_wp2_with fail
      go_ret
      obtain ⟨ms, e1, e2⟩ := HRR.out.ext
      have sm := HRR.out.ai.mp hr1 hr2
      refine ⟨ns', mp at' root, dn', v', rfl, ⟨ms, e1, by omega⟩, sm.1, ?_, HRR.out.st, ?_⟩
      · have hT := sm.2.2 16 (Nat.le_refl _) (by have := (OD.out.top_lt HR.out).1; omega)
        show tb ns' 16 (mp at' root) = tl (fnT (tb ds 16 root))
        rw [hT, tl_fnT (by rw [tb_length, two16])]
      · refine ⟨rfl, rfl, rfl, HRR.out.os.trans X6.out.os, HRR.out.tape.trans X6.out.tape, HRR.out.output.trans X6.out.output, Nat.le_trans X6.out.size hsz, fun j hj hfj => ?_, fun g hg => ?_⟩
        · rw [HRR.out.keep j (by have := X6.out.size; omega) hfj (by omega)]
          exact X6.out.block j hj
        · rcases HRR.out.loc g hg with e | e
          · exact Or.inl e
          · right; have := X6.out.size; omega

end Go.Proofs.Ythhogbligfmpdaa
