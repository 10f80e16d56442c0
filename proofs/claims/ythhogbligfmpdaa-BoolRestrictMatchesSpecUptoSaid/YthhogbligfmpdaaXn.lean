/- The reference's Negated and Applied. -/
import Derived.Test.YthhogbligfmpdaaXi
import Derived.Test.YthhogbligfmpdaaXl
import Derived.Test.YthhogbligfmpdaaXm
import Derived.RegionTactic
import Derived.ChangeAlike
set_option linter.unusedVariables false
set_option linter.unusedSimpArgs false
namespace Go.Proofs.Ythhogbligfmpdaa
open Go.RowKit Bd

/-- All is as it was but for block g and new blocks. -/
structure Kp (g : Nat) (w wr : World) : Prop where
  os : wr.os = w.os
  tape : wr.tape = w.tape
  output : wr.output = w.output
  size : w.heap.size ≤ wr.heap.size
  block : ∀ b, b < w.heap.size → b ≠ g → wr.heap[b]? = w.heap[b]?

theorem Kp.refl (g : Nat) (w : World) : Kp g w w := ⟨rfl, rfl, rfl, Nat.le_refl _, fun _ _ _ => rfl⟩
theorem Kp.below {g : Nat} {w0 w wr : World} (h : Kp g w wr) (hb : Below w0.heap.size w0 w) (hg : w0.heap.size ≤ g) : Below w0.heap.size w0 wr :=
  ⟨h.os.trans hb.os, h.tape.trans hb.tape, h.output.trans hb.output, Nat.le_trans hb.size h.size, fun k hk => (h.block k (Nat.lt_of_lt_of_le hk hb.size) (by omega)).trans (hb.block k hk)⟩
theorem Kp.set {g : Nat} {w wr w2 : World} {j : Nat} {v : Value} (h : Kp g w wr) (q : Qt wr w2) : Kp g w (w2.setCell ⟨g, j, none⟩ v) := by
  obtain ⟨n, rfl⟩ := q
  refine ⟨h.os, h.tape, h.output, ?_, fun b hb hne => ?_⟩
  · have : ((wr.drewN n).setCell ⟨g, j, none⟩ v).heap.size = wr.heap.size := by simp [World.setCell]
    rw [this]; exact h.size
  · rw [Below.heap_setCell _ _ _ _ hne]; exact h.block b hb hne

/-- A table in block g that turns from f to f', entry by entry. -/
structure TMr (n g : Nat) (f f' : Nat → Bool) (w : World) (k : Nat) (wr : World) : Prop where
  cel : ∀ j, j < n → wr.cell? ⟨g, j, none⟩ = some (.bool (if j < k then f' j else f j))
  fz : ∀ j, wr.frozen? ⟨g, j, none⟩ = false
  kp : Kp g w wr

def TM (n g : Nat) (f f' : Nat → Bool) (w : World) (iv : Value) (wr : World) : Prop := ∃ k : Nat, k ≤ n ∧ iv = .int .i64 k ∧ TMr n g f f' w k wr

theorem TMr.step {n g k : Nat} {f f' : Nat → Bool} {w wr w2 : World} (h : TMr n g f f' w k wr) (hk : k < n) (q : Qt wr w2) : TMr n g f f' w (k + 1) (w2.setCell ⟨g, k, none⟩ (.bool (f' k))) := by
  refine ⟨fun j hj => ?_, fun j => ?_, h.kp.set q⟩
  · by_cases e : j = k
    · subst e
      rw [if_pos (by omega)]
      exact World.cell?_setCell_same _ _ _ (q.cell (h.cel j hj))
    · rw [World.cell?_setCell_other _ _ _ _ (by intro e2; exact e (congrArg Addr.off e2).symm), q.cell (h.cel j hj)]
      by_cases hjk : j < k
      · rw [if_pos hjk, if_pos (by omega)]
      · rw [if_neg hjk, if_neg (by omega)]
  · rw [World.frozen?_setCell]; exact q.frozen (h.fz j)
theorem TMr.done {n g : Nat} {f f' : Nat → Bool} {w wr : World} (h : TMr n g f f' w n wr) (hn : n = 65536) : TAt wr (tl f') g 0 := by
  refine ft_done fun j hj => ?_
  rw [h.cel j (by omega), if_pos (by omega)]
theorem TMr.start {n g : Nat} {f f' : Nat → Bool} {w : World} (h1 : ∀ j, j < n → w.cell? ⟨g, j, none⟩ = some (.bool (f j))) (h2 : ∀ j, w.frozen? ⟨g, j, none⟩ = false) : TMr n g f f' w 0 w :=
  ⟨fun j hj => by rw [h1 j hj, if_neg (by omega)], h2, Kp.refl _ _⟩

set_option maxRecDepth 100000 in
set_option maxHeartbeats 1000000 in
theorem negated_any {w : World} {ds : List Nd} {a : Option Addr} {m cap : Nat} {root : Int} (hd : DAt w ds a) (hm : ds.length = m) (hl : m ≤ 9223372036854775807) :
    Calls Try.prog 23 #[.agg #[.slice a m cap, .int .i64 root]] w (DePost w (chk ds root) (tl fun x => !fnT (tb ds 16 root) x)) := by
  obtain ⟨x1, x2, x3, x4⟩ := two_new w (.cells #[.slice a m cap, .int .i64 root] 27) (.cells #[.slice none 0 0, .int .i64 0] 27) _ rfl
  have X1 := Lib.hid x1; clear x1
  have X2 := Lib.hid x2; clear x2
  have X3 := Lib.hid x3; clear x3
  have X4 := Lib.hid x4; clear x4
  have HD := Lib.hid hd; clear hd
  have C := Lib.hid (fault_any (cap := cap) (root := root) (HD.out.below X4.out) hm hl)
  have HM := Lib.hid hm; clear hm
  go_enter Try.func23, Try.ntmps23
  go_wp2_with fail
  generalize (w.alloc (.cells #[.slice a m cap, .int .i64 root] 27)).alloc (.cells #[.slice none 0 0, .int .i64 0] 27) = w1 at *
  refine C.out.mono ?_
  clear C
  rintro e w2 ⟨rfl, hb⟩
  have B2 := Lib.hid (Below.over X4.out X4.out.size hb)
  have b1 := Lib.hid ((hb.block _ (by rw [X3.out]; omega)).trans X1.out)
  have b2 := Lib.hid ((hb.block _ (by rw [X3.out]; omega)).trans X2.out)
  have hsz2 : w.heap.size + 2 ≤ w2.heap.size := by have := hb.size; rw [X3.out] at this; exact this
  clear hb X1 X2 X3 X4
  obtain ⟨ck, hck⟩ : ∃ ck, chk ds root = ck := ⟨_, rfl⟩
  rw [hck]
  have CK := Lib.hid hck; clear hck
  by_cases hc : ck = 0
  · subst hc
    obtain ⟨q1, q2, q3, q4, q5⟩ := chk_zero CK.out
    have OD := Lib.hid q2; clear q2 q4 q5
    have hm2 : m ≤ 2000 := by rw [HM.out] at q1; exact q1
    have RF := Lib.hid q3; clear q3 q1
    obtain ⟨y0, y1, _⟩ := cells2 b1.out
    obtain ⟨n, hn⟩ : ∃ n : Nat, n = 65536 := ⟨_, rfl⟩
    have CT := Lib.hid (table_any (cap := cap) (n := n) (HD.out.below B2.out) OD.out RF.out HM.out hm2 hn)
    have hn1 : n ≤ 65536 := by omega
    have HN := Lib.hid hn; clear hn
    go_wp2_with fail
    refine CT.out.mono ?_
    clear CT y0 y1
    rintro e w3 ⟨g, hg, hgl, rfl, t1, t2, bl3⟩
    have T0 := Lib.hid (TMr.start (f' := fun x => !fnT (tb ds 16 root) x) t1 t2)
    have B3 := Lib.hid bl3
    clear t1 t2 bl3
    obtain ⟨ff, hff⟩ : ∃ ff, fnT (tb ds 16 root) = ff := ⟨_, rfl⟩
    have E := Lib.hid (de_ok CK.out (tl fun x => !fnT (tb ds 16 root) x))
    have E1 : Hid (deN (chk ds root) (tl fun x => !fnT (tb ds 16 root) x) = outNodes (tl fun x => !ff x) ∧ deR (chk ds root) (tl fun x => !fnT (tb ds 16 root) x) = outRoot (tl fun x => !ff x) ∧ deE (chk ds root) (tl fun x => !fnT (tb ds 16 root) x) = outErr (tl fun x => !ff x)) := by rw [← hff]; exact E.out
    rw [hff] at T0
    clear hff E
    go_wp2_with fail
    go_loopw [6] (fun iv wr => TM n g ff (fun x => !ff x) w3 iv wr) (fun iv _ => n - (intOf iv).toNat)
    case atStart => exact ⟨0, by omega, rfl, T0.out⟩
    case round =>
      obtain ⟨k, hk, rfl, hr⟩ := hrel
      have HR := Lib.hid hr; clear hr
      by_cases hkn : k < n
      · have c0 := HR.out.cel k hkn
        rw [if_neg (by omega)] at c0
        have f0 := HR.out.fz k
        have i1 : (k : Int) < (n : Int) := by omega
        have i3 : (0 : Int) ≤ (k : Int) := by omega
        have ST := Lib.hid (HR.out.step hkn (Qt.refl wr))
        obtain ⟨b, hb⟩ : ∃ b, ff k = b := ⟨_, rfl⟩
        simp only [hb] at c0 ST
        clear hb
        go_wp2_with fail
        go_roundw
        case rel => exact ⟨k + 1, by omega, by go_num, ST.out⟩
        case measure => simp [intOf]; omega
      · obtain rfl : k = n := by omega
        have TD := Lib.hid (HR.out.done HN.out)
        have KP := Lib.hid HR.out.kp
        have BK := Lib.hid (KP.out.below B3.out hg)
        have hgr : g < wr.heap.size := by have := KP.out.size; omega
        have CO := Lib.hid (ofTable_any (t := tl fun x => !ff x) (n := k) (cap := k) (by rw [tl_length]; exact HN.out.symm) (by rw [HN.out]) (Nat.le_refl _) hgr TD.out)
        clear T0 HR
        go_wp2_with fail
        refine CO.out.mono ?_
        clear CO
        rintro e w6 ⟨a6, cap6, rfl, dn6, hb6⟩
        have B6 := Lib.hid (Below.over B2.out B2.out.size (Below.over BK.out BK.out.size hb6))
        have DN6 := Lib.hid (dn6.le BK.out.size)
        obtain ⟨z0, z1, z2, z3⟩ := cells2 (((Below.over BK.out BK.out.size hb6).block (w.heap.size + 1) (by omega)).trans b2.out)
        clear dn6 hb6
        have E := E1
        clear E1
        generalize outNodes (tl fun x => !ff x) = O at *
        generalize outRoot (tl fun x => !ff x) = rt at *
        generalize outErr (tl fun x => !ff x) = er at *
        have l6 : w.heap.size + 1 < w6.heap.size := lt_of_cell z0
        have FN := Lib.hid (out_fin (x := .slice a6 O.length cap6) (y := .int .i64 rt) DN6.out (show w.heap.size ≤ w.heap.size + 1 by omega) (by omega) B6.out)
        go_wp2_with fail
        refine bodyPost_ret (v := .tuple #[.agg #[.slice a6 O.length cap6, .int .i64 rt], .int .i64 er]) (by simp [results, Try.results23, go_sem, z0, z1]) rfl ⟨a6, cap6, ?_, ?_, ?_⟩
        · rw [E.out.1, E.out.2.1, E.out.2.2]
        · rw [E.out.1]; exact FN.out.1
        · exact FN.out.2
  · have hcb : (ck != 0) = true := by simpa using hc
    have E := Lib.hid (de_no CK.out hc (tl fun x => !fnT (tb ds 16 root) x))
    have HC := Lib.hid hc; clear hc
    obtain ⟨z0, z1, z2, z3⟩ := cells2 b2.out
    have l6 : w.heap.size + 1 < w2.heap.size := by omega
    have FN := Lib.hid (out_fin (x := .slice none 0 0) (y := .int .i64 0) (dNew_nil (w.heap.size + 2) w2 none) (show w.heap.size ≤ w.heap.size + 1 by omega) (by omega) B2.out)
    go_wp2_with fail
    refine bodyPost_ret (v := .tuple #[.agg #[.slice none 0 0, .int .i64 0], .int .i64 ck]) (by simp [results, Try.results23, go_sem, z0, z1]) rfl ⟨none, 0, ?_, ?_, ?_⟩
    · rw [E.out.1, E.out.2.1, E.out.2.2]; rfl
    · rw [E.out.1]; exact dNew_nil _ _ _
    · exact FN.out.2

end Go.Proofs.Ythhogbligfmpdaa
