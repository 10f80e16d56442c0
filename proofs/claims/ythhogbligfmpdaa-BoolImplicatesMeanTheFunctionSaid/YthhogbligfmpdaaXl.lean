/- The reference's DiagramTable. -/
import Derived.Test.YthhogbligfmpdaaXe
set_option linter.unusedVariables false
set_option linter.unusedSimpArgs false
namespace Go.Proofs.Ythhogbligfmpdaa
open Go.RowKit Bd

theorem fnT_fol {ds : List Nd} (o : Ord ds) {r : Int} (hr : Ref ds r) {f x : Nat} (hf : r < f) (hx : x < 65536) : fnT (tb ds 16 r) x = fol ds f r x := by
  rw [tab_fol o hr hf]
  unfold fnT
  rw [List.getD_eq_getElem?_getD, tl_get _ hx]; rfl
theorem fnT_neg {ds : List Nd} (o : Ord ds) {r : Int} (hr : Ref ds r) {x : Nat} (h : r < 0) (hx : x < 65536) : fnT (tb ds 16 r) x = (r == -2) := by
  rw [fnT_fol o hr (f := 0) (by omega) hx, fol_neg h]
theorem fnT_hi {ds : List Nd} (o : Ord ds) {k : Nat} (hr : Ref ds k) {x : Nat} (hx : x < 65536) (hb : x.testBit (15 - (nd ds k).1.toNat) = true) : Ref ds (Bd.hi ds k) ∧ Bd.hi ds k < k ∧ fnT (tb ds 16 (Bd.hi ds k)) x = fnT (tb ds 16 k) x := by
  have h := o.ref_hi hr (by omega)
  refine ⟨h.1, h.2.1, ?_⟩
  rw [fnT_fol o hr (f := k + 1) (by omega) hx, fol_pos (by omega), hb, fnT_fol o h.1 (f := k) (by omega) hx]; rfl
theorem fnT_lo {ds : List Nd} (o : Ord ds) {k : Nat} (hr : Ref ds k) {x : Nat} (hx : x < 65536) (hb : x.testBit (15 - (nd ds k).1.toNat) = false) : Ref ds (lo ds k) ∧ lo ds k < k ∧ fnT (tb ds 16 (lo ds k)) x = fnT (tb ds 16 k) x := by
  have h := o.ref_lo hr (by omega)
  refine ⟨h.1, h.2.1, ?_⟩
  rw [fnT_fol o hr (f := k + 1) (by omega) hx, fol_pos (by omega), hb, fnT_fol o h.1 (f := k) (by omega) hx]; rfl

/-- A table in a new block, which may be written. -/
def TbPost (n : Nat) (w : World) (f : Nat → Bool) (e : Ending) (w' : World) : Prop :=
  ∃ g, w.heap.size ≤ g ∧ g < w'.heap.size ∧ e = .returned (.slice (some ⟨g, 0, none⟩) n n) ∧ (∀ j, j < n → w'.cell? ⟨g, j, none⟩ = some (.bool (f j))) ∧ (∀ j, w'.frozen? ⟨g, j, none⟩ = false) ∧ Below w.heap.size w w'

/-- The loop that follows an entry's bits. -/
def DtL (ds : List Nd) (x : Nat) (b : Bool) (av : Value) : Prop := ∃ r : Int, av = .int .i64 r ∧ Ref ds r ∧ fnT (tb ds 16 r) x = b

theorem bit_test (x v : Nat) (hx : x < 65536) : (bits .and .i64 ((x : Int) / 2 ^ v) 1 == 1) = x.testBit v := by
  rw [bit_of x v hx]
  cases x.testBit v <;> rfl

set_option maxRecDepth 100000 in
set_option maxHeartbeats 1000000 in
theorem table_any {w : World} {ds : List Nd} {a : Option Addr} {n m cap : Nat} {root : Int} (hd : DAt w ds a) (o : Ord ds) (hroot : Ref ds root) (hm : ds.length = m) (hl : m ≤ 2000) (hn : n = 65536) :
    Calls Try.prog 55 #[.agg #[.slice a m cap, .int .i64 root]] w (TbPost n w (fnT (tb ds 16 root))) := by
  have HD := Lib.hid hd; clear hd
  have OD := Lib.hid o; clear o
  have RF := Lib.hid hroot; clear hroot
  have HM := Lib.hid hm; clear hm
  have hn1 : n ≤ 65536 := by omega
  have HN := Lib.hid hn; clear hn
  have B1 : Hid (Below w.heap.size w (w.alloc (.cells #[.slice a m cap, .int .i64 root] 27))) := (Below.refl _ _).alloc (Nat.le_refl _) _
  have S1 : Hid ((w.alloc (.cells #[.slice a m cap, .int .i64 root] 27)).heap.size = w.heap.size + 1) := by show _ = _; simp
  have X : Hid ((w.alloc (.cells #[.slice a m cap, .int .i64 root] 27)).heap[w.heap.size]? = some (.cells #[.slice a m cap, .int .i64 root] 27 (0, 0))) := heap_alloc_new w _
  obtain ⟨i0, hi0, hz0, hz1, hz2⟩ := info_parts info4
  go_enter Try.func55, Try.ntmps55
  go_wp2_with (at_make; refine wpList_make_full _ rfl _ _ 33 rfl 0 4 i0 (.bool false) 1 Try.underlying33 hi0 hz0 hz1 .i64 .i64 65536 65536 n rfl rfl (by rw [HN.out]; rfl) (by rw [HN.out]; rfl) (by rw [hz2]; omega) (by unfold maxLen; omega) (Nat.zero_le _) ?_; intro w1 hown1 hg1; have OW := Lib.hid hown1; have GR := Lib.hid hg1; clear hown1 hg1)
  have B2 : Hid (Below (w.heap.size + 1) (w.alloc (.cells #[.slice a m cap, .int .i64 root] 27)) w1) := ⟨GR.out.os, GR.out.tape, GR.out.output, GR.out.size, fun k hk => GR.out.block k (by rw [S1.out]; exact hk) (by simp)⟩
  have hs1 : Hid (w1.ownsRow 0 4 1 (.slice (some ⟨w.heap.size + 1, 0, none⟩) n n) n (madeCells (Value.bool false).cells (n * 1)).toList) := by
    have := OW.out
    rw [S1.out] at this
    exact this
  generalize w.alloc (.cells #[.slice a m cap, .int .i64 root] 27) = wa at *
  have XB := Lib.hid ((B2.out.block w.heap.size (by omega)).trans X.out)
  obtain ⟨x0, x1, _⟩ := cells2 XB.out
  have BW : Hid (Below w.heap.size w w1) := B1.out.trans (B2.out.mono (by omega))
  clear OW GR
  go_loopw [4] (fun i wr => FT n (w.heap.size + 1) (fnT (tb ds 16 root)) w1 i wr) (fun i _ => n - (intOf i).toNat)
  case atStart => exact ft_made hs1.out
  case round =>
    obtain ⟨x, hx, rfl, h1, h2, h3, h4, h5⟩ := hrel
    have y0 : wr.cell? ⟨w.heap.size, 0, none⟩ = some (.slice a m cap) := (h4.cell (p := ⟨w.heap.size, 0, none⟩) (by show w.heap.size < _; omega)).trans x0
    have y1 : wr.cell? ⟨w.heap.size, 1, none⟩ = some (.int .i64 root) := (h4.cell (p := ⟨w.heap.size, 1, none⟩) (by show w.heap.size < _; omega)).trans x1
    have BR : Hid (Below w.heap.size w wr) := BW.out.trans (h4.mono (by omega))
    by_cases hxn : x < n
    · obtain ⟨u, hu⟩ := h2 x hxn
      have fz := h3 x
      have ST := Lib.hid (ft_step (f := fnT (tb ds 16 root)) (w2 := wr) hxn h1 h2 h3 h4 h5 (Below.refl _ _))
      clear h1 h2 h3 h4 x0 x1
      have i1 : (x : Int) < (n : Int) := by omega
      have i3 : (0 : Int) ≤ (x : Int) := by omega
      have hx6 : x < 65536 := by omega
      have DR := Lib.hid (HD.out.below BR.out)
      obtain ⟨b, hb⟩ : ∃ b, fnT (tb ds 16 root) x = b := ⟨_, rfl⟩
      rw [hb] at ST
      have HBB := Lib.hid hb; clear hb
      go_wp2_with fail
      go_loop [5] (fun av => DtL ds x b av) (fun av => (intOf av + 3).toNat)
      case atStart => exact ⟨root, rfl, RF.out, HBB.out⟩
      case round =>
        obtain ⟨r, rfl, hr, hv⟩ := hrel
        have RR := Lib.hid hr
        have HV := Lib.hid hv; clear hv
        have hr2 : r < (m : Int) := by have := hr.2; rw [HM.out] at this; exact this
        have hr1 := hr.1
        clear hr
        by_cases h0 : r < 0
        · have EB : Hid ((r == -2) = b) := (fnT_neg OD.out RR.out h0 hx6).symm.trans HV.out
          go_wp2_with fail
          go_roundw
          case rel => rw [EB.out]; exact ST.out
          case measure => simp [intOf]; omega
        · obtain ⟨k, rfl⟩ := Int.eq_ofNat_of_zero_le (by omega : 0 ≤ r)
          have hkd : k < ds.length := by rw [HM.out]; omega
          obtain ⟨bd, od, rfl, d1⟩ := DR.out (by intro e; rw [e] at hkd; simp at hkd)
          obtain ⟨p1, p2, p3⟩ := d1 k hkd
          clear d1
          obtain ⟨o1, o2, o3, o4, o5, o6⟩ := OD.out k hkd
          have HI := Lib.hid (fnT_hi OD.out RR.out hx6)
          have LO := Lib.hid (fnT_lo OD.out RR.out hx6)
          have el : lo ds k = (nd ds k).2.1 := rfl
          have eh : Bd.hi ds k = (nd ds k).2.2 := rfl
          rw [el] at LO o3
          rw [eh] at HI o4
          clear el eh o5 o6
          obtain ⟨⟨vv, l0, h0'⟩, hnd⟩ : ∃ z, nd ds k = z := ⟨_, rfl⟩
          rw [hnd] at p1 p2 p3 o1 o2 o3 o4 LO HI
          simp only at p1 p2 p3 o1 o2 o3 o4
          have HND := Lib.hid hnd; clear hnd
          obtain ⟨v, rfl⟩ := Int.eq_ofNat_of_zero_le o1
          have hv16 : v < 16 := by omega
          have BT := Lib.hid (bit_test x (15 - v) hx6)
          have k1 : (k : Int) < (m : Int) := hr2
          have k2 : ¬ ((k : Int) < 0) := by omega
          have v2 : (v : Int) ≤ 15 := by omega
          simp only [Int.toNat_natCast] at HI LO
          cases hbit : x.testBit (15 - v)
          · have tst : (bits .and .i64 ((x : Int) / 2 ^ (15 - v)) 1 == 1) = false := by rw [BT.out, hbit]
            have LL := Lib.hid (LO.out hbit)
            clear HI LO hbit
            go_wp2_with fail
            go_round
            case rel => exact ⟨l0, rfl, LL.out.1, LL.out.2.2.trans HV.out⟩
            case measure => have := LL.out.2.1; simp [intOf]; omega
          · have tst : (bits .and .i64 ((x : Int) / 2 ^ (15 - v)) 1 == 1) = true := by rw [BT.out, hbit]
            have LL := Lib.hid (HI.out hbit)
            clear HI LO hbit
            go_wp2_with fail
            go_round
            case rel => exact ⟨h0', rfl, LL.out.1, LL.out.2.2.trans HV.out⟩
            case measure => have := LL.out.2.1; simp [intOf]; omega
    · obtain rfl : x = n := by omega
      have HT := Lib.hid h1
      have HF := Lib.hid h3
      clear h1 h2 h3 h4 y0 y1 x0 x1
      go_wp2_with fail
      go_ret
      exact ⟨w.heap.size + 1, by omega, h5, rfl, HT.out, HF.out, BR.out⟩

end Go.Proofs.Ythhogbligfmpdaa
