/- The law BoolRestrictMatchesSpec: its walk. -/
import Derived.Test.YthhogbligfmpdaaYo
import Derived.Test.YthhogbligfmpdaaYh
import Derived.Test.YthhogbligfmpdaaXe
set_option linter.unusedVariables false
set_option linter.unusedSimpArgs false
namespace Go.Proofs.Ythhogbligfmpdaa
open Go.RowKit Bd

theorem de_len2 (e : Int) (T : List Bool) : (deN e T).length ≤ 1000000 := by
  unfold deN
  split
  · simp
  · exact out_len T

/-- Restrict and the reference's Restricted return the same. -/
theorem restr_both (ds : List Nd) (root v bit : Int) : ∃ (O : List Nd) (r er : Int), O.length ≤ 1000000 ∧
    (∀ (W : World) (a : Option Addr) (n cap : Nat), DAt W ds a → ds.length = n → n ≤ 9223372036854775807 → Calls Try.prog 34 #[.agg #[.slice a n cap, .int .i64 root], .int .i64 v, .int .i64 bit] W (DEPost W O r er)) ∧
    (∀ (W : World) (a : Option Addr) (n cap : Nat), DAt W ds a → ds.length = n → n ≤ 9223372036854775807 → Calls Try.prog 35 #[.agg #[.slice a n cap, .int .i64 root], .int .i64 v, .int .i64 bit] W (DEPost W O r er)) := by
  by_cases hc : chk ds root = 0
  · by_cases hv : 0 ≤ v ∧ v < 16
    · obtain ⟨kx, kl⟩ := kO_is hv.1 hv.2
      by_cases h0 : bit = 0
      · subst h0
        refine ⟨_, _, _, de_len2 0 (tl fun x => fnT (tb ds 16 root) (setb (kO v) false x)), fun W a n cap hd hn hl => ?_, fun W a n cap hd hn hl => restricted0 hd hn hl kx kl hc⟩
        have := restrict0 (cap := cap) (root := root) hd hn hl kx kl
        rw [hc] at this
        exact this
      · by_cases h1 : bit = 1
        · subst h1
          refine ⟨_, _, _, de_len2 0 (tl fun x => fnT (tb ds 16 root) (setb (kO v) true x)), fun W a n cap hd hn hl => ?_, fun W a n cap hd hn hl => restricted1 hd hn hl kx kl hc⟩
          have := restrict1 (cap := cap) (root := root) hd hn hl kx kl
          rw [hc] at this
          exact this
        · exact ⟨_, _, _, de_len2 1 [], fun W a n cap hd hn hl => restrict_arg hd hn hl hc (Or.inr (Or.inr ⟨h0, h1⟩)), fun W a n cap hd hn hl => restricted_arg hd hn hl hc (Or.inr (Or.inr ⟨h0, h1⟩))⟩
    · have hv2 : v < 0 ∨ 16 ≤ v ∨ (bit ≠ 0 ∧ bit ≠ 1) := by omega
      exact ⟨_, _, _, de_len2 1 [], fun W a n cap hd hn hl => restrict_arg hd hn hl hc hv2, fun W a n cap hd hn hl => restricted_arg hd hn hl hc hv2⟩
  · exact ⟨_, _, _, de_len2 (chk ds root) [], fun W a n cap hd hn hl => restrict_bad hd hn hl hc, fun W a n cap hd hn hl => restricted_bad hd hn hl hc⟩

set_option maxRecDepth 100000 in
set_option maxHeartbeats 1000000 in
theorem law9_any {w : World} {da : List Nd} {aa : Option Addr} {n ca : Nat} {ra v bit : Int} (hda : DAt w da aa) (hn : da.length = n) (hl : n ≤ 9223372036854775807) {vs : List Int} {va : Option Addr} {vn vc : Nat} (hv : IAt w vs va) (hvn : vs.length = vn) (hvl : vn ≤ 2000000) :
    Calls Try.prog 9 #[.agg #[.slice aa n ca, .int .i64 ra], .int .i64 v, .int .i64 bit, .slice va vn vc] w fun e w' => e = .returned (.bool true) ∧ Below w.heap.size w w' := by
  have BB1 : Hid (Below w.heap.size w (w.alloc (.cells #[.slice aa n ca, .int .i64 ra] 27))) := (Below.refl _ _).alloc (Nat.le_refl _) _
  have SS0 : Hid ((w.alloc (.cells #[.slice aa n ca, .int .i64 ra] 27)).heap.size = w.heap.size + 1) := by show _ = _; simp
  have Pa_1 := Lib.hid (heap_alloc_new w (.cells #[.slice aa n ca, .int .i64 ra] 27))
  obtain ⟨O1, r1, e1, l1, c34, c35⟩ := restr_both da ra v bit
  have L1 := Lib.hid l1; clear l1
  have C34 := Lib.hid (fun (W : World) (h : Below w.heap.size w W) => c34 W aa n ca (hda.below h) hn hl); clear c34
  have C35 := Lib.hid (fun (W : World) (h : Below w.heap.size w W) => c35 W aa n ca (hda.below h) hn hl); clear c35
  have C36 := Lib.hid (fun (W : World) (h : Below w.heap.size w W) => exists_any (cap := ca) (root := ra) (vc := vc) (hda.below h) hn hl (hv.below h) hvn hvl)
  have C37 := Lib.hid (fun (W : World) (h : Below w.heap.size w W) => existing_any (cap := ca) (root := ra) (vc := vc) (hda.below h) hn hl (hv.below h) hvn (by omega))
  clear hda hn hv hvn
  have L2 := Lib.hid (de_len2 (exErr (chk da ra) vs) (tl (exV vs (fnT (tb da 16 ra)))))
  unfold DePost at C36 C37
  generalize deN (exErr (chk da ra) vs) (tl (exV vs (fnT (tb da 16 ra)))) = O2 at *
  generalize deR (exErr (chk da ra) vs) (tl (exV vs (fnT (tb da 16 ra)))) = r2 at *
  generalize deE (exErr (chk da ra) vs) (tl (exV vs (fnT (tb da 16 ra)))) = e2 at *
  go_enter Try.func9, Try.ntmps9
  go_wp2_with fail
  generalize w.alloc (.cells #[.slice aa n ca, .int .i64 ra] 27) = w1 at *
  have sz1 : w1.heap.size = w.heap.size + 1 := SS0.out
  refine (C34.out w1 BB1.out).mono ?_
  rintro e v1 ⟨a1, k1, rfl, dn1, bl1⟩
  have F1 := Lib.hid dn1.dAt; clear dn1
  have V1 := Lib.hid bl1; clear bl1
  have vz1 : w1.heap.size ≤ v1.heap.size := V1.out.size
  have A1 : Hid (Below v1.heap.size v1 (v1.alloc (.cells #[.slice a1 O1.length k1, .int .i64 r1] 27))) := (Below.refl _ _).alloc (Nat.le_refl _) _
  have W1 := Lib.hid (Below.over V1.out V1.out.size A1.out)
  have BB2 := Lib.hid (Below.over BB1.out BB1.out.size W1.out)
  have SS1 : Hid ((v1.alloc (.cells #[.slice a1 O1.length k1, .int .i64 r1] 27)).heap.size = v1.heap.size + 1) := by show _ = _; simp
  have la_1v : w.heap.size < v1.heap.size := by omega
  have Pa_1v := Lib.hid ((V1.out.block (w.heap.size) (by omega)).trans Pa_1.out)
  have Pa_2 := Lib.hid ((A1.out.block (w.heap.size) (by omega)).trans Pa_1v.out)
  have Px_2 := Lib.hid (heap_alloc_new v1 (.cells #[.slice a1 O1.length k1, .int .i64 r1] 27))
  have Dx_2 := Lib.hid (F1.out.below A1.out)
  obtain ⟨y0a, y0b, _⟩ := cells2 Pa_1v.out
  go_wp2_with fail
  clear y0a y0b la_1v
  generalize v1.alloc (.cells #[.slice a1 O1.length k1, .int .i64 r1] 27) = w2 at *
  have sz2 : w2.heap.size = v1.heap.size + 1 := SS1.out
  clear Pa_1v Pa_1 A1 SS1 F1
  refine (C35.out w2 BB2.out).mono ?_
  rintro e v2 ⟨a2, k2, rfl, dn2, bl2⟩
  have F2 := Lib.hid dn2.dAt; clear dn2
  have V2 := Lib.hid bl2; clear bl2
  have vz2 : w2.heap.size ≤ v2.heap.size := V2.out.size
  have A2 : Hid (Below v2.heap.size v2 (v2.alloc (.cells #[.slice a2 O1.length k2, .int .i64 r1] 27))) := (Below.refl _ _).alloc (Nat.le_refl _) _
  have W2 := Lib.hid (Below.over V2.out V2.out.size A2.out)
  have BB3 := Lib.hid (Below.over BB2.out BB2.out.size W2.out)
  have SS2 : Hid ((v2.alloc (.cells #[.slice a2 O1.length k2, .int .i64 r1] 27)).heap.size = v2.heap.size + 1) := by show _ = _; simp
  have la_2v : w.heap.size < v2.heap.size := by omega
  have Pa_2v := Lib.hid ((V2.out.block (w.heap.size) (by omega)).trans Pa_2.out)
  have Pa_3 := Lib.hid ((A2.out.block (w.heap.size) (by omega)).trans Pa_2v.out)
  have lx_2v : v1.heap.size < v2.heap.size := by omega
  have Px_2v := Lib.hid ((V2.out.block (v1.heap.size) (by omega)).trans Px_2.out)
  have Px_3 := Lib.hid ((A2.out.block (v1.heap.size) (by omega)).trans Px_2v.out)
  have Dx_3 := Lib.hid ((Dx_2.out.below V2.out).below A2.out)
  have Py_3 := Lib.hid (heap_alloc_new v2 (.cells #[.slice a2 O1.length k2, .int .i64 r1] 27))
  have Dy_3 := Lib.hid (F2.out.below A2.out)
  obtain ⟨y0a, y0b, _⟩ := cells2 Pa_2v.out
  go_wp2_with fail
  clear y0a y0b la_2v lx_2v
  generalize v2.alloc (.cells #[.slice a2 O1.length k2, .int .i64 r1] 27) = w3 at *
  have sz3 : w3.heap.size = v2.heap.size + 1 := SS2.out
  clear Pa_2v Pa_2 Px_2v Px_2 Dx_2 A2 SS2 F2
  refine (C36.out w3 BB3.out).mono ?_
  rintro e v3 ⟨a3, k3, rfl, dn3, bl3⟩
  have F3 := Lib.hid dn3.dAt; clear dn3
  have V3 := Lib.hid bl3; clear bl3
  have vz3 : w3.heap.size ≤ v3.heap.size := V3.out.size
  have A3 : Hid (Below v3.heap.size v3 (v3.alloc (.cells #[.slice a3 O2.length k3, .int .i64 r2] 27))) := (Below.refl _ _).alloc (Nat.le_refl _) _
  have W3 := Lib.hid (Below.over V3.out V3.out.size A3.out)
  have BB4 := Lib.hid (Below.over BB3.out BB3.out.size W3.out)
  have SS3 : Hid ((v3.alloc (.cells #[.slice a3 O2.length k3, .int .i64 r2] 27)).heap.size = v3.heap.size + 1) := by show _ = _; simp
  have la_3v : w.heap.size < v3.heap.size := by omega
  have Pa_3v := Lib.hid ((V3.out.block (w.heap.size) (by omega)).trans Pa_3.out)
  have Pa_4 := Lib.hid ((A3.out.block (w.heap.size) (by omega)).trans Pa_3v.out)
  have lx_3v : v1.heap.size < v3.heap.size := by omega
  have Px_3v := Lib.hid ((V3.out.block (v1.heap.size) (by omega)).trans Px_3.out)
  have Px_4 := Lib.hid ((A3.out.block (v1.heap.size) (by omega)).trans Px_3v.out)
  have Dx_4 := Lib.hid ((Dx_3.out.below V3.out).below A3.out)
  have ly_3v : v2.heap.size < v3.heap.size := by omega
  have Py_3v := Lib.hid ((V3.out.block (v2.heap.size) (by omega)).trans Py_3.out)
  have Py_4 := Lib.hid ((A3.out.block (v2.heap.size) (by omega)).trans Py_3v.out)
  have Dy_4 := Lib.hid ((Dy_3.out.below V3.out).below A3.out)
  have Pz_4 := Lib.hid (heap_alloc_new v3 (.cells #[.slice a3 O2.length k3, .int .i64 r2] 27))
  have Dz_4 := Lib.hid (F3.out.below A3.out)
  obtain ⟨y0a, y0b, _⟩ := cells2 Pa_3v.out
  go_wp2_with fail
  clear y0a y0b la_3v lx_3v ly_3v
  generalize v3.alloc (.cells #[.slice a3 O2.length k3, .int .i64 r2] 27) = w4 at *
  have sz4 : w4.heap.size = v3.heap.size + 1 := SS3.out
  clear Pa_3v Pa_3 Px_3v Px_3 Dx_3 Py_3v Py_3 Dy_3 A3 SS3 F3
  refine (C37.out w4 BB4.out).mono ?_
  rintro e v4 ⟨a4, k4, rfl, dn4, bl4⟩
  have F4 := Lib.hid dn4.dAt; clear dn4
  have V4 := Lib.hid bl4; clear bl4
  have vz4 : w4.heap.size ≤ v4.heap.size := V4.out.size
  have A4 : Hid (Below v4.heap.size v4 (v4.alloc (.cells #[.slice a4 O2.length k4, .int .i64 r2] 27))) := (Below.refl _ _).alloc (Nat.le_refl _) _
  have W4 := Lib.hid (Below.over V4.out V4.out.size A4.out)
  have BB5 := Lib.hid (Below.over BB4.out BB4.out.size W4.out)
  have SS4 : Hid ((v4.alloc (.cells #[.slice a4 O2.length k4, .int .i64 r2] 27)).heap.size = v4.heap.size + 1) := by show _ = _; simp
  have la_4v : w.heap.size < v4.heap.size := by omega
  have Pa_4v := Lib.hid ((V4.out.block (w.heap.size) (by omega)).trans Pa_4.out)
  have Pa_5 := Lib.hid ((A4.out.block (w.heap.size) (by omega)).trans Pa_4v.out)
  have lx_4v : v1.heap.size < v4.heap.size := by omega
  have Px_4v := Lib.hid ((V4.out.block (v1.heap.size) (by omega)).trans Px_4.out)
  have Px_5 := Lib.hid ((A4.out.block (v1.heap.size) (by omega)).trans Px_4v.out)
  have Dx_5 := Lib.hid ((Dx_4.out.below V4.out).below A4.out)
  have ly_4v : v2.heap.size < v4.heap.size := by omega
  have Py_4v := Lib.hid ((V4.out.block (v2.heap.size) (by omega)).trans Py_4.out)
  have Py_5 := Lib.hid ((A4.out.block (v2.heap.size) (by omega)).trans Py_4v.out)
  have Dy_5 := Lib.hid ((Dy_4.out.below V4.out).below A4.out)
  have lz_4v : v3.heap.size < v4.heap.size := by omega
  have Pz_4v := Lib.hid ((V4.out.block (v3.heap.size) (by omega)).trans Pz_4.out)
  have Pz_5 := Lib.hid ((A4.out.block (v3.heap.size) (by omega)).trans Pz_4v.out)
  have Dz_5 := Lib.hid ((Dz_4.out.below V4.out).below A4.out)
  have Pu_5 := Lib.hid (heap_alloc_new v4 (.cells #[.slice a4 O2.length k4, .int .i64 r2] 27))
  have Du_5 := Lib.hid (F4.out.below A4.out)
  have ST1 := Lib.hid (same_true (c1 := k1) (c2 := k2) (r := r1) Dx_5.out Dy_5.out rfl L1.out)
  obtain ⟨y0a, y0b, _⟩ := cells2 Px_4v.out
  obtain ⟨y1a, y1b, _⟩ := cells2 Py_4v.out
  go_wp2_with fail
  clear y0a y0b y1a y1b la_4v lx_4v ly_4v lz_4v
  generalize v4.alloc (.cells #[.slice a4 O2.length k4, .int .i64 r2] 27) = w5 at *
  have sz5 : w5.heap.size = v4.heap.size + 1 := SS4.out
  clear Pa_4v Pa_4 Px_4v Px_4 Dx_4 Py_4v Py_4 Dy_4 Pz_4v Pz_4 Dz_4 A4 SS4 F4
  refine ST1.out.mono ?_
  rintro e w6 ⟨rfl, bl6⟩
  have B6 := Lib.hid bl6; clear bl6
  have ST2 := Lib.hid (same_true (c1 := k3) (c2 := k4) (r := r2) (Dz_5.out.below B6.out) (Du_5.out.below B6.out) rfl L2.out)
  obtain ⟨y0, y1, _⟩ := cells2 ((B6.out.block v3.heap.size (by omega)).trans Pz_5.out)
  obtain ⟨y2, y3, _⟩ := cells2 ((B6.out.block v4.heap.size (by omega)).trans Pu_5.out)
  go_wp2_with fail
  clear y0 y1 y2 y3
  refine ST2.out.mono ?_
  rintro e w7 ⟨rfl, bl7⟩
  have B7 := Lib.hid (Below.over BB5.out BB5.out.size (Below.over B6.out B6.out.size bl7)); clear bl7
  go_wp2_with fail
  refine (built_any w7).mono ?_
  rintro e w8 ⟨rfl, bl8⟩
  have B8 := Lib.hid (Below.over B7.out B7.out.size bl8); clear bl8
  go_wp2_with fail
  go_ret
  exact ⟨rfl, B8.out⟩

end Go.Proofs.Ythhogbligfmpdaa
