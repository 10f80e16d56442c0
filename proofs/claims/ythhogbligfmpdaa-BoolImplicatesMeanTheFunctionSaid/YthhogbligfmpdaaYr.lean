/- The law BoolSplits: its walk. -/
import Derived.Test.YthhogbligfmpdaaPr
import Derived.Test.YthhogbligfmpdaaYf
import Derived.Test.YthhogbligfmpdaaYn
import Derived.Test.YthhogbligfmpdaaXe
set_option linter.unusedVariables false
set_option linter.unusedSimpArgs false
namespace Go.Proofs.Ythhogbligfmpdaa
open Go.RowKit Bd

theorem de_post0 (w : World) (T : List Bool) : DePost w 0 T = DEPost w (outNodes T) (outRoot T) (outErr T) := by
  unfold DePost; rw [(de_zero T).1, (de_zero T).2.1, (de_zero T).2.2]
theorem opT_len (op : Int) (s t : List Bool) : (opT op s t).length = 65536 := tl_length _
theorem ap_dg {op : Int} (hop : ¬ (op ≠ 4 ∧ op ≠ 5 ∧ op ≠ 6)) {S1 S2 : List Bool} (h1 : S1.length = 65536) (h2 : S2.length = 65536) (e1 : outErr S1 = 0) (e2 : outErr S2 = 0) {W : World} {a1 a2 : Option Addr} {c1 c2 : Nat} (d1 : DAt W (outNodes S1) a1) (d2 : DAt W (outNodes S2) a2) :
    Calls Try.prog 20 #[.int .i64 op, .agg #[.slice a1 (outNodes S1).length c1, .int .i64 (outRoot S1)], .agg #[.slice a2 (outNodes S2).length c2, .int .i64 (outRoot S2)]] W (DEPost W (outNodes (opT op S1 S2)) (outRoot (opT op S1 S2)) (outErr (opT op S1 S2))) := by
  obtain ⟨k1, t1⟩ := out_dg h1 e1
  obtain ⟨k2, t2⟩ := out_dg h2 e2
  have := apply_any (op := op) (ca := c1) (cb := c2) (ra := outRoot S1) (rb := outRoot S2) d1 d2 rfl rfl (Nat.le_trans (out_len S1) (by omega)) (Nat.le_trans (out_len S2) (by omega))
  rw [(apPre_b hop k1).trans k2, t1, t2, de_post0] at this
  exact this

def SpEnd (da : List Nd) (ra v : Int) (O1 O2 O5 O6 : List Nd) (r1 r2 r5 r6 : Int) : Prop :=
  da.length ≤ 2000 ∧
  (∀ (W : World) (a1 a2 : Option Addr) (c1 c2 : Nat), DAt W O5 a1 → DAt W O6 a2 → Calls Try.prog 20 #[.int .i64 5, .agg #[.slice a1 O5.length c1, .int .i64 r5], .agg #[.slice a2 O6.length c2, .int .i64 r6]] W (DEPost W da ra 0)) ∧
  ∃ (O8 : List Nd) (r8 e8 : Int), O8.length ≤ 1000000 ∧
    (∀ (W : World) (a va : Option Addr) (cap vc : Nat), DAt W da a → IAt W [v] va → Calls Try.prog 36 #[.agg #[.slice a da.length cap, .int .i64 ra], .slice va 1 vc] W (DEPost W O8 r8 e8)) ∧
    (∀ (W : World) (a1 a2 : Option Addr) (c1 c2 : Nat), DAt W O1 a1 → DAt W O2 a2 → Calls Try.prog 20 #[.int .i64 5, .agg #[.slice a1 O1.length c1, .int .i64 r1], .agg #[.slice a2 O2.length c2, .int .i64 r2]] W (DEPost W O8 r8 e8))
def SpTail (da : List Nd) (ra v : Int) (O1 O2 O3 : List Nd) (r1 r2 r3 : Int) : Prop :=
  ∃ (O4 O5 O6 : List Nd) (r4 r5 r6 e5 e6 : Int),
    (∀ (W : World) (a : Option Addr) (c : Nat), DAt W O3 a → Calls Try.prog 22 #[.agg #[.slice a O3.length c, .int .i64 r3]] W (DEPost W O4 r4 0)) ∧
    (∀ (W : World) (a1 a2 : Option Addr) (c1 c2 : Nat), DAt W O4 a1 → DAt W O1 a2 → Calls Try.prog 20 #[.int .i64 4, .agg #[.slice a1 O4.length c1, .int .i64 r4], .agg #[.slice a2 O1.length c2, .int .i64 r1]] W (DEPost W O5 r5 e5)) ∧
    (∀ (W : World) (a1 a2 : Option Addr) (c1 c2 : Nat), DAt W O3 a1 → DAt W O2 a2 → Calls Try.prog 20 #[.int .i64 4, .agg #[.slice a1 O3.length c1, .int .i64 r3], .agg #[.slice a2 O2.length c2, .int .i64 r2]] W (DEPost W O6 r6 e6)) ∧
    (e5 = 3 ∨ (e5 = 0 ∧ e6 = 3) ∨ (e5 = 0 ∧ e6 = 0 ∧ SpEnd da ra v O1 O2 O5 O6 r1 r2 r5 r6))

theorem sp_tail {da : List Nd} {ra v : Int} (hc : chk da ra = 0) (h0 : 0 ≤ v) (h : v < 16)
    (e1 : outErr (tl fun x => fnT (tb da 16 ra) (setb (kO v) false x)) = 0) (e2 : outErr (tl fun x => fnT (tb da 16 ra) (setb (kO v) true x)) = 0) (e3 : bldErr (.mk 1 v []) = 0) :
    SpTail da ra v (outNodes (tl fun x => fnT (tb da 16 ra) (setb (kO v) false x))) (outNodes (tl fun x => fnT (tb da 16 ra) (setb (kO v) true x))) (bldNodes (.mk 1 v [])) (outRoot (tl fun x => fnT (tb da 16 ra) (setb (kO v) false x))) (outRoot (tl fun x => fnT (tb da 16 ra) (setb (kO v) true x))) (bldRoot (.mk 1 v [])) := by
  have hT : (tb da 16 ra).length = 65536 := by rw [tb_length, two16]
  have SB := split_back hT h0 h
  have SX := split_ex (tb da 16 ra) v
  have SN := split_not (v := v)
  have EN : outErr (tl fun x => !fnT (tl (evF (.mk 1 v []))) x) = 0 := by
    rw [SN]; unfold outErr; rw [if_pos (ng_len h0 h)]
  have B0 := (bldErr_zero e3).1
  have E3 : outErr (tl (evF (.mk 1 v []))) = 0 := by unfold bldErr at e3; rw [if_pos B0] at e3; exact e3
  have N3 : bldNodes (.mk 1 v []) = outNodes (tl (evF (.mk 1 v []))) := by simp [bldNodes, B0]
  have R3 : bldRoot (.mk 1 v []) = outRoot (tl (evF (.mk 1 v []))) := by simp [bldRoot, B0]
  obtain ⟨n1, n2, n3⟩ := dg_out hc
  have ld : da.length ≤ 2000 := (chk_zero hc).1
  rw [N3, R3]
  obtain ⟨k3, t3⟩ := out_dg (tl_length _) E3
  have L1 := tl_length fun x => fnT (tb da 16 ra) (setb (kO v) false x)
  have L2 := tl_length fun x => fnT (tb da 16 ra) (setb (kO v) true x)
  have L3 := tl_length (evF (.mk 1 v []))
  have L4 := tl_length fun x => !fnT (tl (evF (.mk 1 v []))) x
  have C22 : ∀ (W : World) (a : Option Addr) (c : Nat), DAt W (outNodes (tl (evF (.mk 1 v [])))) a → Calls Try.prog 22 #[.agg #[.slice a (outNodes (tl (evF (.mk 1 v [])))).length c, .int .i64 (outRoot (tl (evF (.mk 1 v []))))]] W (DEPost W (outNodes (tl fun x => !fnT (tl (evF (.mk 1 v []))) x)) (outRoot (tl fun x => !fnT (tl (evF (.mk 1 v []))) x)) 0) := by
    intro W a c d
    have := Not_any (cap := c) (root := outRoot (tl (evF (.mk 1 v [])))) d rfl (Nat.le_trans (out_len _) (by omega))
    rw [k3, t3, de_post0, EN] at this
    exact this
  have C36 : ∀ (W : World) (a va : Option Addr) (cap vc : Nat), DAt W da a → IAt W [v] va → Calls Try.prog 36 #[.agg #[.slice a da.length cap, .int .i64 ra], .slice va 1 vc] W (DEPost W (outNodes (tl (exV [v] (fnT (tb da 16 ra))))) (outRoot (tl (exV [v] (fnT (tb da 16 ra))))) (outErr (tl (exV [v] (fnT (tb da 16 ra)))))) := by
    intro W a va cap vc d i
    have := exists_any (cap := cap) (root := ra) (vc := vc) d rfl (by omega) i rfl (by simp)
    rw [hc, exErr_ok (by simp; exact ⟨h0, h⟩), de_post0] at this
    exact this
  have no4 : ¬ ((4 : Int) ≠ 4 ∧ (4 : Int) ≠ 5 ∧ (4 : Int) ≠ 6) := by omega
  have no5 : ¬ ((5 : Int) ≠ 4 ∧ (5 : Int) ≠ 5 ∧ (5 : Int) ≠ 6) := by omega
  rw [SX] at C36
  generalize (tl fun x => !fnT (tl (evF (.mk 1 v []))) x) = TN at *
  generalize (tl (evF (.mk 1 v []))) = TX at *
  generalize (tl fun x => fnT (tb da 16 ra) (setb (kO v) false x)) = TL at *
  generalize (tl fun x => fnT (tb da 16 ra) (setb (kO v) true x)) = TH at *
  refine ⟨_, _, _, _, _, _, _, _, C22, fun W a1 a2 c1 c2 d1 d2 => ap_dg no4 L4 L1 EN e1 d1 d2, fun W a1 a2 c1 c2 d1 d2 => ap_dg no4 L3 L2 E3 e2 d1 d2, ?_⟩
  rcases out_err (opT 4 TN TL) with q1 | q1
  · rcases out_err (opT 4 TX TH) with q2 | q2
    · refine Or.inr (Or.inr ⟨q1, q2, ld, fun W a1 a2 c1 c2 d1 d2 => ?_, _, _, _, out_len _, C36, fun W a1 a2 c1 c2 d1 d2 => ap_dg no5 L1 L2 e1 e2 d1 d2⟩)
      have := ap_dg (c1 := c1) (c2 := c2) no5 (opT_len _ _ _) (opT_len _ _ _) q1 q2 d1 d2
      rw [SB, n1, n2, n3] at this
      exact this
    · exact Or.inr (Or.inl ⟨q1, q2⟩)
  · exact Or.inl q1

theorem st_two {w : World} {O : List Nd} {a1 a2 : Option Addr} {n c1 c2 : Nat} {r : Int} (h1 : DAt w O a1) (h2 : DAt w O a2) (hn : O.length = n) (l : O.length ≤ 2000) :
    Calls Try.prog 18 #[.agg #[.slice a1 O.length c1, .int .i64 r], .agg #[.slice a2 n c2, .int .i64 r]] w fun e w' => e = .returned (.bool true) ∧ Below w.heap.size w w' := by
  subst hn; exact same_true h1 h2 rfl (by omega)

theorem splits_both (da : List Nd) (ra v : Int) : ∃ (O1 O2 O3 : List Nd) (r1 r2 r3 e1 e2 e3 : Int),
    (∀ (W : World) (a : Option Addr) (n cap : Nat), DAt W da a → da.length = n → n ≤ 9223372036854775807 → Calls Try.prog 34 #[.agg #[.slice a n cap, .int .i64 ra], .int .i64 v, .int .i64 0] W (DEPost W O1 r1 e1)) ∧
    (∀ (W : World) (a : Option Addr) (n cap : Nat), DAt W da a → da.length = n → n ≤ 9223372036854775807 → Calls Try.prog 34 #[.agg #[.slice a n cap, .int .i64 ra], .int .i64 v, .int .i64 1] W (DEPost W O2 r2 e2)) ∧
    (∀ (W : World), Calls Try.prog 13 #[.agg #[.int .i64 1, .int .i64 v, .slice none 0 0]] W (DEPost W O3 r3 e3)) ∧
    (e1 ≠ 0 ∨ (e1 = 0 ∧ e2 ≠ 0) ∨ (e1 = 0 ∧ e2 = 0 ∧ e3 ≠ 0) ∨ (e1 = 0 ∧ e2 = 0 ∧ e3 = 0 ∧ SpTail da ra v O1 O2 O3 r1 r2 r3)) := by
  have CB : ∀ (W : World), Calls Try.prog 13 #[.agg #[.int .i64 1, .int .i64 v, .slice none 0 0]] W (DEPost W (bldNodes (.mk 1 v [])) (bldRoot (.mk 1 v [])) (bldErr (.mk 1 v []))) :=
    fun W => Build_any (F := .mk 1 v []) (a := none) (fmAt_leaf W 1 v none) 0 W (Below.refl _ _)
  by_cases hc : chk da ra = 0
  · by_cases hv : 0 ≤ v ∧ v < 16
    · obtain ⟨kx, kl⟩ := kO_is hv.1 hv.2
      refine ⟨outNodes (tl fun x => fnT (tb da 16 ra) (setb (kO v) false x)), outNodes (tl fun x => fnT (tb da 16 ra) (setb (kO v) true x)), _, outRoot (tl fun x => fnT (tb da 16 ra) (setb (kO v) false x)), outRoot (tl fun x => fnT (tb da 16 ra) (setb (kO v) true x)), _, outErr (tl fun x => fnT (tb da 16 ra) (setb (kO v) false x)), outErr (tl fun x => fnT (tb da 16 ra) (setb (kO v) true x)), _, fun W a n cap hd hn hl => ?_, fun W a n cap hd hn hl => ?_, CB, ?_⟩
      · have := restrict0 (cap := cap) (root := ra) hd hn hl kx kl
        rw [hc, de_post0] at this
        exact this
      · have := restrict1 (cap := cap) (root := ra) hd hn hl kx kl
        rw [hc, de_post0] at this
        exact this
      · by_cases q1 : outErr (tl fun x => fnT (tb da 16 ra) (setb (kO v) false x)) = 0
        · by_cases q2 : outErr (tl fun x => fnT (tb da 16 ra) (setb (kO v) true x)) = 0
          · by_cases q3 : bldErr (.mk 1 v []) = 0
            · exact Or.inr (Or.inr (Or.inr ⟨q1, q2, q3, sp_tail hc hv.1 hv.2 q1 q2 q3⟩))
            · exact Or.inr (Or.inr (Or.inl ⟨q1, q2, q3⟩))
          · exact Or.inr (Or.inl ⟨q1, q2⟩)
        · exact Or.inl q1
    · have hv2 : v < 0 ∨ 16 ≤ v ∨ ((0 : Int) ≠ 0 ∧ (0 : Int) ≠ 1) := by omega
      have hv3 : v < 0 ∨ 16 ≤ v ∨ ((1 : Int) ≠ 0 ∧ (1 : Int) ≠ 1) := by omega
      exact ⟨_, _, _, _, _, _, _, _, _, fun W a n cap hd hn hl => restrict_arg (T := []) hd hn hl hc hv2, fun W a n cap hd hn hl => restrict_arg (T := []) hd hn hl hc hv3, CB, Or.inl (by simp [deE])⟩
  · exact ⟨_, _, _, _, _, _, _, _, _, fun W a n cap hd hn hl => restrict_bad (T := []) hd hn hl hc, fun W a n cap hd hn hl => restrict_bad (T := []) hd hn hl hc, CB, Or.inl (by simp [deE, hc])⟩

set_option maxRecDepth 100000 in
set_option maxHeartbeats 1000000 in
theorem law10_any {w : World} {da : List Nd} {aa : Option Addr} {n ca : Nat} {ra v : Int} (hda : DAt w da aa) (hn : da.length = n) (hl : n ≤ 9223372036854775807) :
    Calls Try.prog 10 #[.agg #[.slice aa n ca, .int .i64 ra], .int .i64 v] w fun e w' => e = .returned (.bool true) ∧ Below w.heap.size w w' := by
  have BB1 : Hid (Below w.heap.size w (w.alloc (.cells #[.slice aa n ca, .int .i64 ra] 27))) := (Below.refl _ _).alloc (Nat.le_refl _) _
  have SS0 : Hid ((w.alloc (.cells #[.slice aa n ca, .int .i64 ra] 27)).heap.size = w.heap.size + 1) := by show _ = _; simp
  have Pa_1 := Lib.hid (heap_alloc_new w (.cells #[.slice aa n ca, .int .i64 ra] 27))
  obtain ⟨O1, O2, O3, r1, r2, r3, e1, e2, e3, c1, c2, c3, cs⟩ := splits_both da ra v
  have HN := Lib.hid hn
  have HDA := Lib.hid hda
  have C1 := Lib.hid (fun (W : World) (h : Below w.heap.size w W) => c1 W aa n ca (hda.below h) hn hl); clear c1
  have C2 := Lib.hid (fun (W : World) (h : Below w.heap.size w W) => c2 W aa n ca (hda.below h) hn hl); clear c2
  have C3 := Lib.hid c3; clear c3
  have CS := Lib.hid cs; clear cs
  clear hda hn
  have FIN := Lib.hid (fun (W : World) (h : Below w.heap.size w W) => (built_any W).mono fun e W' (x : e = .returned (.bool true) ∧ Below W.heap.size W W') => (⟨x.1, Below.over h h.size x.2⟩ : e = .returned (.bool true) ∧ Below w.heap.size w W'))
  go_enter Try.func10, Try.ntmps10
  go_wp2_with fail
  generalize w.alloc (.cells #[.slice aa n ca, .int .i64 ra] 27) = w1 at *
  have sz1 : w1.heap.size = w.heap.size + 1 := SS0.out
  refine (C1.out w1 BB1.out).mono ?_
  rintro e v1 ⟨a1, k1, rfl, dn1, bl1⟩
  have F1 := Lib.hid dn1.dAt; clear dn1
  have V1 := Lib.hid bl1; clear bl1
  have vz1 : w1.heap.size ≤ v1.heap.size := V1.out.size
  have A1 : Hid (Below v1.heap.size v1 (v1.alloc (.cells #[.slice a1 O1.length k1, .int .i64 r1] 27))) := (Below.refl _ _).alloc (Nat.le_refl _) _
  have W1 := Lib.hid (Below.over V1.out V1.out.size A1.out)
  have BB2 := Lib.hid (Below.over BB1.out BB1.out.size W1.out)
  have SS1 : Hid ((v1.alloc (.cells #[.slice a1 O1.length k1, .int .i64 r1] 27)).heap.size = v1.heap.size + 1) := by show _ = _; simp
  have la_1v : w.heap.size < v1.heap.size := by omega
  have Pa_1v := Lib.hid ((V1.out.block (w.heap.size) (by omega)).trans Pa_1.out)
  have Pa_2 := Lib.hid ((A1.out.block (w.heap.size) (by omega)).trans Pa_1v.out)
  have Px_2 := Lib.hid (heap_alloc_new v1 (.cells #[.slice a1 O1.length k1, .int .i64 r1] 27))
  have Dx_2 := Lib.hid (F1.out.below A1.out)
  obtain ⟨y0a, y0b, _⟩ := cells2 Pa_1v.out
  go_wp2_with fail
  clear y0a y0b la_1v
  generalize v1.alloc (.cells #[.slice a1 O1.length k1, .int .i64 r1] 27) = w2 at *
  have sz2 : w2.heap.size = v1.heap.size + 1 := SS1.out
  clear Pa_1v Pa_1 A1 SS1 F1
  refine (C2.out w2 BB2.out).mono ?_
  rintro e v2 ⟨a2, k2, rfl, dn2, bl2⟩
  have F2 := Lib.hid dn2.dAt; clear dn2
  have V2 := Lib.hid bl2; clear bl2
  have vz2 : w2.heap.size ≤ v2.heap.size := V2.out.size
  have A2 : Hid (Below v2.heap.size v2 (v2.alloc (.cells #[.slice a2 O2.length k2, .int .i64 r2] 27))) := (Below.refl _ _).alloc (Nat.le_refl _) _
  have W2 := Lib.hid (Below.over V2.out V2.out.size A2.out)
  have BB3 := Lib.hid (Below.over BB2.out BB2.out.size W2.out)
  have SS2 : Hid ((v2.alloc (.cells #[.slice a2 O2.length k2, .int .i64 r2] 27)).heap.size = v2.heap.size + 1) := by show _ = _; simp
  have la_2v : w.heap.size < v2.heap.size := by omega
  have Pa_2v := Lib.hid ((V2.out.block (w.heap.size) (by omega)).trans Pa_2.out)
  have Pa_3 := Lib.hid ((A2.out.block (w.heap.size) (by omega)).trans Pa_2v.out)
  have lx_2v : v1.heap.size < v2.heap.size := by omega
  have Px_2v := Lib.hid ((V2.out.block (v1.heap.size) (by omega)).trans Px_2.out)
  have Px_3 := Lib.hid ((A2.out.block (v1.heap.size) (by omega)).trans Px_2v.out)
  have Dx_3 := Lib.hid ((Dx_2.out.below V2.out).below A2.out)
  have Py_3 := Lib.hid (heap_alloc_new v2 (.cells #[.slice a2 O2.length k2, .int .i64 r2] 27))
  have Dy_3 := Lib.hid (F2.out.below A2.out)
  obtain ⟨y0a, y0b, _⟩ := cells2 Pa_2v.out
  go_wp2_with fail
  clear y0a y0b la_2v lx_2v
  generalize v2.alloc (.cells #[.slice a2 O2.length k2, .int .i64 r2] 27) = w3 at *
  have sz3 : w3.heap.size = v2.heap.size + 1 := SS2.out
  clear Pa_2v Pa_2 Px_2v Px_2 Dx_2 A2 SS2 F2
  refine (C3.out w3).mono ?_
  rintro e v3 ⟨a3, k3, rfl, dn3, bl3⟩
  have F3 := Lib.hid dn3.dAt; clear dn3
  have V3 := Lib.hid bl3; clear bl3
  have vz3 : w3.heap.size ≤ v3.heap.size := V3.out.size
  have A3 : Hid (Below v3.heap.size v3 (v3.alloc (.cells #[.slice a3 O3.length k3, .int .i64 r3] 27))) := (Below.refl _ _).alloc (Nat.le_refl _) _
  have W3 := Lib.hid (Below.over V3.out V3.out.size A3.out)
  have BB4 := Lib.hid (Below.over BB3.out BB3.out.size W3.out)
  have SS3 : Hid ((v3.alloc (.cells #[.slice a3 O3.length k3, .int .i64 r3] 27)).heap.size = v3.heap.size + 1) := by show _ = _; simp
  have la_3v : w.heap.size < v3.heap.size := by omega
  have Pa_3v := Lib.hid ((V3.out.block (w.heap.size) (by omega)).trans Pa_3.out)
  have Pa_4 := Lib.hid ((A3.out.block (w.heap.size) (by omega)).trans Pa_3v.out)
  have lx_3v : v1.heap.size < v3.heap.size := by omega
  have Px_3v := Lib.hid ((V3.out.block (v1.heap.size) (by omega)).trans Px_3.out)
  have Px_4 := Lib.hid ((A3.out.block (v1.heap.size) (by omega)).trans Px_3v.out)
  have Dx_4 := Lib.hid ((Dx_3.out.below V3.out).below A3.out)
  have ly_3v : v2.heap.size < v3.heap.size := by omega
  have Py_3v := Lib.hid ((V3.out.block (v2.heap.size) (by omega)).trans Py_3.out)
  have Py_4 := Lib.hid ((A3.out.block (v2.heap.size) (by omega)).trans Py_3v.out)
  have Dy_4 := Lib.hid ((Dy_3.out.below V3.out).below A3.out)
  have Pz_4 := Lib.hid (heap_alloc_new v3 (.cells #[.slice a3 O3.length k3, .int .i64 r3] 27))
  have Dz_4 := Lib.hid (F3.out.below A3.out)
  rcases CS.out with q | ⟨q1, q⟩ | ⟨q1, q2, q⟩ | ⟨q1, q2, q3, q⟩
  · have p : (e1 != 0) = true := by simpa using q
    clear q CS
    go_wp2_with fail
    refine (FIN.out _ BB4.out).mono ?_
    rintro e wz ⟨rfl, blz⟩
    have BZ := Lib.hid blz; clear blz
    go_wp2_with fail
    go_ret
    exact ⟨rfl, BZ.out⟩
  · subst q1
    have p : (e2 != 0) = true := by simpa using q
    clear q CS
    go_wp2_with fail
    refine (FIN.out _ BB4.out).mono ?_
    rintro e wz ⟨rfl, blz⟩
    have BZ := Lib.hid blz; clear blz
    go_wp2_with fail
    go_ret
    exact ⟨rfl, BZ.out⟩
  · subst q1 q2
    have p : (e3 != 0) = true := by simpa using q
    clear q CS
    go_wp2_with fail
    refine (FIN.out _ BB4.out).mono ?_
    rintro e wz ⟨rfl, blz⟩
    have BZ := Lib.hid blz; clear blz
    go_wp2_with fail
    go_ret
    exact ⟨rfl, BZ.out⟩
  subst q1 q2 q3
  obtain ⟨O4, O5, O6, r4, r5, r6, e5, e6, c4, c5, c6, ct⟩ := q
  have C4 := Lib.hid c4; clear c4
  have C5 := Lib.hid c5; clear c5
  have C6 := Lib.hid c6; clear c6
  have CT := Lib.hid ct; clear ct CS
  go_wp2_with fail
  clear la_3v lx_3v ly_3v
  generalize v3.alloc (.cells #[.slice a3 O3.length k3, .int .i64 r3] 27) = w4 at *
  have sz4 : w4.heap.size = v3.heap.size + 1 := SS3.out
  clear Pa_3v Pa_3 Px_3v Px_3 Dx_3 Py_3v Py_3 Dy_3 A3 SS3 F3
  refine (C4.out w4 a3 k3 Dz_4.out).mono ?_
  rintro e v4 ⟨a4, k4, rfl, dn4, bl4⟩
  have F4 := Lib.hid dn4.dAt; clear dn4
  have V4 := Lib.hid bl4; clear bl4
  have vz4 : w4.heap.size ≤ v4.heap.size := V4.out.size
  have A4 : Hid (Below v4.heap.size v4 (v4.alloc (.cells #[.slice a4 O4.length k4, .int .i64 r4] 27))) := (Below.refl _ _).alloc (Nat.le_refl _) _
  have W4 := Lib.hid (Below.over V4.out V4.out.size A4.out)
  have BB5 := Lib.hid (Below.over BB4.out BB4.out.size W4.out)
  have SS4 : Hid ((v4.alloc (.cells #[.slice a4 O4.length k4, .int .i64 r4] 27)).heap.size = v4.heap.size + 1) := by show _ = _; simp
  have la_4v : w.heap.size < v4.heap.size := by omega
  have Pa_4v := Lib.hid ((V4.out.block (w.heap.size) (by omega)).trans Pa_4.out)
  have Pa_5 := Lib.hid ((A4.out.block (w.heap.size) (by omega)).trans Pa_4v.out)
  have lx_4v : v1.heap.size < v4.heap.size := by omega
  have Px_4v := Lib.hid ((V4.out.block (v1.heap.size) (by omega)).trans Px_4.out)
  have Px_5 := Lib.hid ((A4.out.block (v1.heap.size) (by omega)).trans Px_4v.out)
  have Dx_5 := Lib.hid ((Dx_4.out.below V4.out).below A4.out)
  have ly_4v : v2.heap.size < v4.heap.size := by omega
  have Py_4v := Lib.hid ((V4.out.block (v2.heap.size) (by omega)).trans Py_4.out)
  have Py_5 := Lib.hid ((A4.out.block (v2.heap.size) (by omega)).trans Py_4v.out)
  have Dy_5 := Lib.hid ((Dy_4.out.below V4.out).below A4.out)
  have lz_4v : v3.heap.size < v4.heap.size := by omega
  have Pz_4v := Lib.hid ((V4.out.block (v3.heap.size) (by omega)).trans Pz_4.out)
  have Pz_5 := Lib.hid ((A4.out.block (v3.heap.size) (by omega)).trans Pz_4v.out)
  have Dz_5 := Lib.hid ((Dz_4.out.below V4.out).below A4.out)
  have Pu_5 := Lib.hid (heap_alloc_new v4 (.cells #[.slice a4 O4.length k4, .int .i64 r4] 27))
  have Du_5 := Lib.hid (F4.out.below A4.out)
  obtain ⟨y0a, y0b, _⟩ := cells2 Px_4v.out
  go_wp2_with fail
  clear y0a y0b la_4v lx_4v ly_4v lz_4v
  generalize v4.alloc (.cells #[.slice a4 O4.length k4, .int .i64 r4] 27) = w5 at *
  have sz5 : w5.heap.size = v4.heap.size + 1 := SS4.out
  clear Pa_4v Pa_4 Px_4v Px_4 Dx_4 Py_4v Py_4 Dy_4 Pz_4v Pz_4 Dz_4 A4 SS4 F4
  refine (C5.out w5 a4 a1 k4 k1 Du_5.out Dx_5.out).mono ?_
  rintro e v5 ⟨a5, k5, rfl, dn5, bl5⟩
  have F5 := Lib.hid dn5.dAt; clear dn5
  have V5 := Lib.hid bl5; clear bl5
  have vz5 : w5.heap.size ≤ v5.heap.size := V5.out.size
  have A5 : Hid (Below v5.heap.size v5 (v5.alloc (.cells #[.slice a5 O5.length k5, .int .i64 r5] 27))) := (Below.refl _ _).alloc (Nat.le_refl _) _
  have W5 := Lib.hid (Below.over V5.out V5.out.size A5.out)
  have BB6 := Lib.hid (Below.over BB5.out BB5.out.size W5.out)
  have SS5 : Hid ((v5.alloc (.cells #[.slice a5 O5.length k5, .int .i64 r5] 27)).heap.size = v5.heap.size + 1) := by show _ = _; simp
  have la_5v : w.heap.size < v5.heap.size := by omega
  have Pa_5v := Lib.hid ((V5.out.block (w.heap.size) (by omega)).trans Pa_5.out)
  have Pa_6 := Lib.hid ((A5.out.block (w.heap.size) (by omega)).trans Pa_5v.out)
  have lx_5v : v1.heap.size < v5.heap.size := by omega
  have Px_5v := Lib.hid ((V5.out.block (v1.heap.size) (by omega)).trans Px_5.out)
  have Px_6 := Lib.hid ((A5.out.block (v1.heap.size) (by omega)).trans Px_5v.out)
  have Dx_6 := Lib.hid ((Dx_5.out.below V5.out).below A5.out)
  have ly_5v : v2.heap.size < v5.heap.size := by omega
  have Py_5v := Lib.hid ((V5.out.block (v2.heap.size) (by omega)).trans Py_5.out)
  have Py_6 := Lib.hid ((A5.out.block (v2.heap.size) (by omega)).trans Py_5v.out)
  have Dy_6 := Lib.hid ((Dy_5.out.below V5.out).below A5.out)
  have lz_5v : v3.heap.size < v5.heap.size := by omega
  have Pz_5v := Lib.hid ((V5.out.block (v3.heap.size) (by omega)).trans Pz_5.out)
  have Pz_6 := Lib.hid ((A5.out.block (v3.heap.size) (by omega)).trans Pz_5v.out)
  have Dz_6 := Lib.hid ((Dz_5.out.below V5.out).below A5.out)
  have lu_5v : v4.heap.size < v5.heap.size := by omega
  have Pu_5v := Lib.hid ((V5.out.block (v4.heap.size) (by omega)).trans Pu_5.out)
  have Pu_6 := Lib.hid ((A5.out.block (v4.heap.size) (by omega)).trans Pu_5v.out)
  have Du_6 := Lib.hid ((Du_5.out.below V5.out).below A5.out)
  have Pl_6 := Lib.hid (heap_alloc_new v5 (.cells #[.slice a5 O5.length k5, .int .i64 r5] 27))
  have Dl_6 := Lib.hid (F5.out.below A5.out)
  obtain ⟨y0a, y0b, _⟩ := cells2 Pz_5v.out
  obtain ⟨y1a, y1b, _⟩ := cells2 Py_5v.out
  go_wp2_with fail
  clear y0a y0b y1a y1b la_5v lx_5v ly_5v lz_5v lu_5v
  generalize v5.alloc (.cells #[.slice a5 O5.length k5, .int .i64 r5] 27) = w6 at *
  have sz6 : w6.heap.size = v5.heap.size + 1 := SS5.out
  clear Pa_5v Pa_5 Px_5v Px_5 Dx_5 Py_5v Py_5 Dy_5 Pz_5v Pz_5 Dz_5 Pu_5v Pu_5 Du_5 A5 SS5 F5
  refine (C6.out w6 a3 a2 k3 k2 Dz_6.out Dy_6.out).mono ?_
  rintro e v6 ⟨a6, k6, rfl, dn6, bl6⟩
  have F6 := Lib.hid dn6.dAt; clear dn6
  have V6 := Lib.hid bl6; clear bl6
  have vz6 : w6.heap.size ≤ v6.heap.size := V6.out.size
  have A6 : Hid (Below v6.heap.size v6 (v6.alloc (.cells #[.slice a6 O6.length k6, .int .i64 r6] 27))) := (Below.refl _ _).alloc (Nat.le_refl _) _
  have W6 := Lib.hid (Below.over V6.out V6.out.size A6.out)
  have BB7 := Lib.hid (Below.over BB6.out BB6.out.size W6.out)
  have SS6 : Hid ((v6.alloc (.cells #[.slice a6 O6.length k6, .int .i64 r6] 27)).heap.size = v6.heap.size + 1) := by show _ = _; simp
  have la_6v : w.heap.size < v6.heap.size := by omega
  have Pa_6v := Lib.hid ((V6.out.block (w.heap.size) (by omega)).trans Pa_6.out)
  have Pa_7 := Lib.hid ((A6.out.block (w.heap.size) (by omega)).trans Pa_6v.out)
  have lx_6v : v1.heap.size < v6.heap.size := by omega
  have Px_6v := Lib.hid ((V6.out.block (v1.heap.size) (by omega)).trans Px_6.out)
  have Px_7 := Lib.hid ((A6.out.block (v1.heap.size) (by omega)).trans Px_6v.out)
  have Dx_7 := Lib.hid ((Dx_6.out.below V6.out).below A6.out)
  have ly_6v : v2.heap.size < v6.heap.size := by omega
  have Py_6v := Lib.hid ((V6.out.block (v2.heap.size) (by omega)).trans Py_6.out)
  have Py_7 := Lib.hid ((A6.out.block (v2.heap.size) (by omega)).trans Py_6v.out)
  have Dy_7 := Lib.hid ((Dy_6.out.below V6.out).below A6.out)
  have lz_6v : v3.heap.size < v6.heap.size := by omega
  have Pz_6v := Lib.hid ((V6.out.block (v3.heap.size) (by omega)).trans Pz_6.out)
  have Pz_7 := Lib.hid ((A6.out.block (v3.heap.size) (by omega)).trans Pz_6v.out)
  have Dz_7 := Lib.hid ((Dz_6.out.below V6.out).below A6.out)
  have lu_6v : v4.heap.size < v6.heap.size := by omega
  have Pu_6v := Lib.hid ((V6.out.block (v4.heap.size) (by omega)).trans Pu_6.out)
  have Pu_7 := Lib.hid ((A6.out.block (v4.heap.size) (by omega)).trans Pu_6v.out)
  have Du_7 := Lib.hid ((Du_6.out.below V6.out).below A6.out)
  have ll_6v : v5.heap.size < v6.heap.size := by omega
  have Pl_6v := Lib.hid ((V6.out.block (v5.heap.size) (by omega)).trans Pl_6.out)
  have Pl_7 := Lib.hid ((A6.out.block (v5.heap.size) (by omega)).trans Pl_6v.out)
  have Dl_7 := Lib.hid ((Dl_6.out.below V6.out).below A6.out)
  have Pr_7 := Lib.hid (heap_alloc_new v6 (.cells #[.slice a6 O6.length k6, .int .i64 r6] 27))
  have Dr_7 := Lib.hid (F6.out.below A6.out)
  rcases CT.out with q | ⟨q1, q⟩ | ⟨q1, q2, q⟩
  · subst q
    clear CT
    go_wp2_with fail
    refine (FIN.out _ BB7.out).mono ?_
    rintro e wz ⟨rfl, blz⟩
    have BZ := Lib.hid blz; clear blz
    go_wp2_with fail
    go_ret
    exact ⟨rfl, BZ.out⟩
  · subst q1 q
    clear CT
    go_wp2_with fail
    refine (FIN.out _ BB7.out).mono ?_
    rintro e wz ⟨rfl, blz⟩
    have BZ := Lib.hid blz; clear blz
    go_wp2_with fail
    go_ret
    exact ⟨rfl, BZ.out⟩
  subst q1 q2
  obtain ⟨ld, c7, O8, r8, e8, l8, c8, c9⟩ := q
  have LD := Lib.hid ld; clear ld
  have C7 := Lib.hid c7; clear c7
  have L8 := Lib.hid l8; clear l8
  have C8 := Lib.hid c8; clear c8
  have C9 := Lib.hid c9; clear c9 CT
  obtain ⟨y0a, y0b, _⟩ := cells2 Pl_6v.out
  go_wp2_with fail
  clear y0a y0b la_6v lx_6v ly_6v lz_6v lu_6v ll_6v
  generalize v6.alloc (.cells #[.slice a6 O6.length k6, .int .i64 r6] 27) = w7 at *
  have sz7 : w7.heap.size = v6.heap.size + 1 := SS6.out
  clear Pa_6v Pa_6 Px_6v Px_6 Dx_6 Py_6v Py_6 Dy_6 Pz_6v Pz_6 Dz_6 Pu_6v Pu_6 Du_6 Pl_6v Pl_6 Dl_6 A6 SS6 F6
  refine (C7.out w7 a5 a6 k5 k6 Dl_7.out Dr_7.out).mono ?_
  rintro e v7 ⟨a7, k7, rfl, dn7, bl7⟩
  have F7 := Lib.hid dn7.dAt; clear dn7
  have V7 := Lib.hid bl7; clear bl7
  have vz7 : w7.heap.size ≤ v7.heap.size := V7.out.size
  obtain ⟨xa7, xb7, xc7, xd7⟩ := two_new v7 (.cells #[.slice a7 da.length k7, .int .i64 ra] 27) (.cells #[.int .i64 v] 3) _ rfl
  have A7 : Hid (Below v7.heap.size v7 ((v7.alloc (.cells #[.slice a7 da.length k7, .int .i64 ra] 27)).alloc (.cells #[.int .i64 v] 3))) := xd7
  have W7 := Lib.hid (Below.over V7.out V7.out.size A7.out)
  have BB8 := Lib.hid (Below.over BB7.out BB7.out.size W7.out)
  have SS7 : Hid (((v7.alloc (.cells #[.slice a7 da.length k7, .int .i64 ra] 27)).alloc (.cells #[.int .i64 v] 3)).heap.size = v7.heap.size + 2) := by show _ = _; simp
  have la_7v : w.heap.size < v7.heap.size := by omega
  have Pa_7v := Lib.hid ((V7.out.block (w.heap.size) (by omega)).trans Pa_7.out)
  have Pa_8 := Lib.hid ((A7.out.block (w.heap.size) (by omega)).trans Pa_7v.out)
  have lx_7v : v1.heap.size < v7.heap.size := by omega
  have Px_7v := Lib.hid ((V7.out.block (v1.heap.size) (by omega)).trans Px_7.out)
  have Px_8 := Lib.hid ((A7.out.block (v1.heap.size) (by omega)).trans Px_7v.out)
  have Dx_8 := Lib.hid ((Dx_7.out.below V7.out).below A7.out)
  have ly_7v : v2.heap.size < v7.heap.size := by omega
  have Py_7v := Lib.hid ((V7.out.block (v2.heap.size) (by omega)).trans Py_7.out)
  have Py_8 := Lib.hid ((A7.out.block (v2.heap.size) (by omega)).trans Py_7v.out)
  have Dy_8 := Lib.hid ((Dy_7.out.below V7.out).below A7.out)
  have lz_7v : v3.heap.size < v7.heap.size := by omega
  have Pz_7v := Lib.hid ((V7.out.block (v3.heap.size) (by omega)).trans Pz_7.out)
  have Pz_8 := Lib.hid ((A7.out.block (v3.heap.size) (by omega)).trans Pz_7v.out)
  have Dz_8 := Lib.hid ((Dz_7.out.below V7.out).below A7.out)
  have lu_7v : v4.heap.size < v7.heap.size := by omega
  have Pu_7v := Lib.hid ((V7.out.block (v4.heap.size) (by omega)).trans Pu_7.out)
  have Pu_8 := Lib.hid ((A7.out.block (v4.heap.size) (by omega)).trans Pu_7v.out)
  have Du_8 := Lib.hid ((Du_7.out.below V7.out).below A7.out)
  have ll_7v : v5.heap.size < v7.heap.size := by omega
  have Pl_7v := Lib.hid ((V7.out.block (v5.heap.size) (by omega)).trans Pl_7.out)
  have Pl_8 := Lib.hid ((A7.out.block (v5.heap.size) (by omega)).trans Pl_7v.out)
  have Dl_8 := Lib.hid ((Dl_7.out.below V7.out).below A7.out)
  have lr_7v : v6.heap.size < v7.heap.size := by omega
  have Pr_7v := Lib.hid ((V7.out.block (v6.heap.size) (by omega)).trans Pr_7.out)
  have Pr_8 := Lib.hid ((A7.out.block (v6.heap.size) (by omega)).trans Pr_7v.out)
  have Dr_8 := Lib.hid ((Dr_7.out.below V7.out).below A7.out)
  have Pb_8 := Lib.hid xa7
  have EX7 := Lib.hid xb7
  clear xa7 xb7 xc7 xd7
  have Db_8 := Lib.hid (F7.out.below A7.out)
  obtain ⟨y0a, y0b, _⟩ := cells2 Pa_7v.out
  go_wp2_with fail
  clear y0a y0b la_7v lx_7v ly_7v lz_7v lu_7v ll_7v lr_7v
  generalize (v7.alloc (.cells #[.slice a7 da.length k7, .int .i64 ra] 27)).alloc (.cells #[.int .i64 v] 3) = w8 at *
  have sz8 : w8.heap.size = v7.heap.size + 2 := SS7.out
  clear Pa_7v Pa_7 Px_7v Px_7 Dx_7 Py_7v Py_7 Dy_7 Pz_7v Pz_7 Dz_7 Pu_7v Pu_7 Du_7 Pl_7v Pl_7 Dl_7 Pr_7v Pr_7 Dr_7 A7 SS7 F7
  have IV : Hid (IAt w8 [v] (some ⟨v7.heap.size + 1, 0, none⟩)) := fun _ => ⟨_, _, rfl, fun i hi => by
    have : i = 0 := by simp at hi; omega
    subst this
    simp [World.cell?, EX7.out]⟩
  have C8w := Lib.hid (C8.out w8 aa (some ⟨v7.heap.size + 1, 0, none⟩) ca 1 (HDA.out.below BB8.out) IV.out)
  rw [HN.out] at C8w
  refine (C8w.out).mono ?_
  rintro e v8 ⟨a8, k8, rfl, dn8, bl8⟩
  have F8 := Lib.hid dn8.dAt; clear dn8
  have V8 := Lib.hid bl8; clear bl8
  have vz8 : w8.heap.size ≤ v8.heap.size := V8.out.size
  have A8 : Hid (Below v8.heap.size v8 (v8.alloc (.cells #[.slice a8 O8.length k8, .int .i64 r8] 27))) := (Below.refl _ _).alloc (Nat.le_refl _) _
  have W8 := Lib.hid (Below.over V8.out V8.out.size A8.out)
  have BB9 := Lib.hid (Below.over BB8.out BB8.out.size W8.out)
  have SS8 : Hid ((v8.alloc (.cells #[.slice a8 O8.length k8, .int .i64 r8] 27)).heap.size = v8.heap.size + 1) := by show _ = _; simp
  have la_8v : w.heap.size < v8.heap.size := by omega
  have Pa_8v := Lib.hid ((V8.out.block (w.heap.size) (by omega)).trans Pa_8.out)
  have Pa_9 := Lib.hid ((A8.out.block (w.heap.size) (by omega)).trans Pa_8v.out)
  have lx_8v : v1.heap.size < v8.heap.size := by omega
  have Px_8v := Lib.hid ((V8.out.block (v1.heap.size) (by omega)).trans Px_8.out)
  have Px_9 := Lib.hid ((A8.out.block (v1.heap.size) (by omega)).trans Px_8v.out)
  have Dx_9 := Lib.hid ((Dx_8.out.below V8.out).below A8.out)
  have ly_8v : v2.heap.size < v8.heap.size := by omega
  have Py_8v := Lib.hid ((V8.out.block (v2.heap.size) (by omega)).trans Py_8.out)
  have Py_9 := Lib.hid ((A8.out.block (v2.heap.size) (by omega)).trans Py_8v.out)
  have Dy_9 := Lib.hid ((Dy_8.out.below V8.out).below A8.out)
  have lz_8v : v3.heap.size < v8.heap.size := by omega
  have Pz_8v := Lib.hid ((V8.out.block (v3.heap.size) (by omega)).trans Pz_8.out)
  have Pz_9 := Lib.hid ((A8.out.block (v3.heap.size) (by omega)).trans Pz_8v.out)
  have Dz_9 := Lib.hid ((Dz_8.out.below V8.out).below A8.out)
  have lu_8v : v4.heap.size < v8.heap.size := by omega
  have Pu_8v := Lib.hid ((V8.out.block (v4.heap.size) (by omega)).trans Pu_8.out)
  have Pu_9 := Lib.hid ((A8.out.block (v4.heap.size) (by omega)).trans Pu_8v.out)
  have Du_9 := Lib.hid ((Du_8.out.below V8.out).below A8.out)
  have ll_8v : v5.heap.size < v8.heap.size := by omega
  have Pl_8v := Lib.hid ((V8.out.block (v5.heap.size) (by omega)).trans Pl_8.out)
  have Pl_9 := Lib.hid ((A8.out.block (v5.heap.size) (by omega)).trans Pl_8v.out)
  have Dl_9 := Lib.hid ((Dl_8.out.below V8.out).below A8.out)
  have lr_8v : v6.heap.size < v8.heap.size := by omega
  have Pr_8v := Lib.hid ((V8.out.block (v6.heap.size) (by omega)).trans Pr_8.out)
  have Pr_9 := Lib.hid ((A8.out.block (v6.heap.size) (by omega)).trans Pr_8v.out)
  have Dr_9 := Lib.hid ((Dr_8.out.below V8.out).below A8.out)
  have lb_8v : v7.heap.size < v8.heap.size := by omega
  have Pb_8v := Lib.hid ((V8.out.block (v7.heap.size) (by omega)).trans Pb_8.out)
  have Pb_9 := Lib.hid ((A8.out.block (v7.heap.size) (by omega)).trans Pb_8v.out)
  have Db_9 := Lib.hid ((Db_8.out.below V8.out).below A8.out)
  have Ps_9 := Lib.hid (heap_alloc_new v8 (.cells #[.slice a8 O8.length k8, .int .i64 r8] 27))
  have Ds_9 := Lib.hid (F8.out.below A8.out)
  obtain ⟨y0a, y0b, _⟩ := cells2 Px_8v.out
  obtain ⟨y1a, y1b, _⟩ := cells2 Py_8v.out
  go_wp2_with fail
  clear y0a y0b y1a y1b la_8v lx_8v ly_8v lz_8v lu_8v ll_8v lr_8v lb_8v
  generalize v8.alloc (.cells #[.slice a8 O8.length k8, .int .i64 r8] 27) = w9 at *
  have sz9 : w9.heap.size = v8.heap.size + 1 := SS8.out
  clear Pa_8v Pa_8 Px_8v Px_8 Dx_8 Py_8v Py_8 Dy_8 Pz_8v Pz_8 Dz_8 Pu_8v Pu_8 Du_8 Pl_8v Pl_8 Dl_8 Pr_8v Pr_8 Dr_8 Pb_8v Pb_8 Db_8 A8 SS8 F8
  refine (C9.out w9 a1 a2 k1 k2 Dx_9.out Dy_9.out).mono ?_
  rintro e v9 ⟨a9, k9, rfl, dn9, bl9⟩
  have F9 := Lib.hid dn9.dAt; clear dn9
  have V9 := Lib.hid bl9; clear bl9
  have vz9 : w9.heap.size ≤ v9.heap.size := V9.out.size
  have A9 : Hid (Below v9.heap.size v9 (v9.alloc (.cells #[.slice a9 O8.length k9, .int .i64 r8] 27))) := (Below.refl _ _).alloc (Nat.le_refl _) _
  have W9 := Lib.hid (Below.over V9.out V9.out.size A9.out)
  have BB10 := Lib.hid (Below.over BB9.out BB9.out.size W9.out)
  have SS9 : Hid ((v9.alloc (.cells #[.slice a9 O8.length k9, .int .i64 r8] 27)).heap.size = v9.heap.size + 1) := by show _ = _; simp
  have la_9v : w.heap.size < v9.heap.size := by omega
  have Pa_9v := Lib.hid ((V9.out.block (w.heap.size) (by omega)).trans Pa_9.out)
  have Pa_10 := Lib.hid ((A9.out.block (w.heap.size) (by omega)).trans Pa_9v.out)
  have lx_9v : v1.heap.size < v9.heap.size := by omega
  have Px_9v := Lib.hid ((V9.out.block (v1.heap.size) (by omega)).trans Px_9.out)
  have Px_10 := Lib.hid ((A9.out.block (v1.heap.size) (by omega)).trans Px_9v.out)
  have Dx_10 := Lib.hid ((Dx_9.out.below V9.out).below A9.out)
  have ly_9v : v2.heap.size < v9.heap.size := by omega
  have Py_9v := Lib.hid ((V9.out.block (v2.heap.size) (by omega)).trans Py_9.out)
  have Py_10 := Lib.hid ((A9.out.block (v2.heap.size) (by omega)).trans Py_9v.out)
  have Dy_10 := Lib.hid ((Dy_9.out.below V9.out).below A9.out)
  have lz_9v : v3.heap.size < v9.heap.size := by omega
  have Pz_9v := Lib.hid ((V9.out.block (v3.heap.size) (by omega)).trans Pz_9.out)
  have Pz_10 := Lib.hid ((A9.out.block (v3.heap.size) (by omega)).trans Pz_9v.out)
  have Dz_10 := Lib.hid ((Dz_9.out.below V9.out).below A9.out)
  have lu_9v : v4.heap.size < v9.heap.size := by omega
  have Pu_9v := Lib.hid ((V9.out.block (v4.heap.size) (by omega)).trans Pu_9.out)
  have Pu_10 := Lib.hid ((A9.out.block (v4.heap.size) (by omega)).trans Pu_9v.out)
  have Du_10 := Lib.hid ((Du_9.out.below V9.out).below A9.out)
  have ll_9v : v5.heap.size < v9.heap.size := by omega
  have Pl_9v := Lib.hid ((V9.out.block (v5.heap.size) (by omega)).trans Pl_9.out)
  have Pl_10 := Lib.hid ((A9.out.block (v5.heap.size) (by omega)).trans Pl_9v.out)
  have Dl_10 := Lib.hid ((Dl_9.out.below V9.out).below A9.out)
  have lr_9v : v6.heap.size < v9.heap.size := by omega
  have Pr_9v := Lib.hid ((V9.out.block (v6.heap.size) (by omega)).trans Pr_9.out)
  have Pr_10 := Lib.hid ((A9.out.block (v6.heap.size) (by omega)).trans Pr_9v.out)
  have Dr_10 := Lib.hid ((Dr_9.out.below V9.out).below A9.out)
  have lb_9v : v7.heap.size < v9.heap.size := by omega
  have Pb_9v := Lib.hid ((V9.out.block (v7.heap.size) (by omega)).trans Pb_9.out)
  have Pb_10 := Lib.hid ((A9.out.block (v7.heap.size) (by omega)).trans Pb_9v.out)
  have Db_10 := Lib.hid ((Db_9.out.below V9.out).below A9.out)
  have ls_9v : v8.heap.size < v9.heap.size := by omega
  have Ps_9v := Lib.hid ((V9.out.block (v8.heap.size) (by omega)).trans Ps_9.out)
  have Ps_10 := Lib.hid ((A9.out.block (v8.heap.size) (by omega)).trans Ps_9v.out)
  have Ds_10 := Lib.hid ((Ds_9.out.below V9.out).below A9.out)
  have Po_10 := Lib.hid (heap_alloc_new v9 (.cells #[.slice a9 O8.length k9, .int .i64 r8] 27))
  have Do_10 := Lib.hid (F9.out.below A9.out)
  have ST1 := Lib.hid (st_two (c1 := k7) (c2 := ca) (r := ra) Db_10.out (HDA.out.below BB10.out) HN.out LD.out)
  have pe : (e8 == e8) = true := by simp
  obtain ⟨y0a, y0b, _⟩ := cells2 Pb_9v.out
  obtain ⟨y1a, y1b, _⟩ := cells2 Pa_9v.out
  go_wp2_with fail
  clear y0a y0b y1a y1b la_9v lx_9v ly_9v lz_9v lu_9v ll_9v lr_9v lb_9v ls_9v
  generalize v9.alloc (.cells #[.slice a9 O8.length k9, .int .i64 r8] 27) = w10 at *
  have sz10 : w10.heap.size = v9.heap.size + 1 := SS9.out
  clear Pa_9v Pa_9 Px_9v Px_9 Dx_9 Py_9v Py_9 Dy_9 Pz_9v Pz_9 Dz_9 Pu_9v Pu_9 Du_9 Pl_9v Pl_9 Dl_9 Pr_9v Pr_9 Dr_9 Pb_9v Pb_9 Db_9 Ps_9v Ps_9 Ds_9 A9 SS9 F9
  refine ST1.out.mono ?_
  rintro e w11 ⟨rfl, bl11⟩
  have B11 := Lib.hid bl11; clear bl11
  have ST2 := Lib.hid (same_true (c1 := k8) (c2 := k9) (r := r8) (Ds_10.out.below B11.out) (Do_10.out.below B11.out) rfl L8.out)
  obtain ⟨y0, y1, _⟩ := cells2 ((B11.out.block v8.heap.size (by omega)).trans Ps_10.out)
  obtain ⟨y2, y3, _⟩ := cells2 ((B11.out.block v9.heap.size (by omega)).trans Po_10.out)
  go_wp2_with fail
  clear y0 y1 y2 y3
  refine ST2.out.mono ?_
  rintro e w12 ⟨rfl, bl12⟩
  have B12 := Lib.hid (Below.over BB10.out BB10.out.size (Below.over B11.out B11.out.size bl12)); clear bl12
  go_wp2_with fail
  refine (FIN.out w12 B12.out).mono ?_
  rintro e w13 ⟨rfl, bl13⟩
  have B13 := Lib.hid bl13; clear bl13
  go_wp2_with fail
  go_ret
  exact ⟨rfl, B13.out⟩

end Go.Proofs.Ythhogbligfmpdaa
