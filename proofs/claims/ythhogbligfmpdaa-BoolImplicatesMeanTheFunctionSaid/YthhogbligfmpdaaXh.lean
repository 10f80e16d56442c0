/- Not; what the operations on diagrams hand back. -/
import Derived.Test.YthhogbligfmpdaaXe
set_option linter.unusedVariables false
set_option linter.unusedSimpArgs false
namespace Go.Proofs.Ythhogbligfmpdaa
open Go.RowKit Bd

/-- What comes out where e is the error of the arguments and T the table. -/
def deN (e : Int) (T : List Bool) : List Nd := if e ≠ 0 then [] else outNodes T
def deR (e : Int) (T : List Bool) : Int := if e ≠ 0 then 0 else outRoot T
def deE (e : Int) (T : List Bool) : Int := if e ≠ 0 then e else outErr T
def DePost (w : World) (e : Int) (T : List Bool) : Ending → World → Prop := DEPost w (deN e T) (deR e T) (deE e T)

theorem de_zero (T : List Bool) : deN 0 T = outNodes T ∧ deR 0 T = outRoot T ∧ deE 0 T = outErr T := ⟨rfl, rfl, rfl⟩
theorem de_ok {e : Int} (h : e = 0) (T : List Bool) : deN e T = outNodes T ∧ deR e T = outRoot T ∧ deE e T = outErr T := by subst h; exact de_zero T
theorem de_no {e c : Int} (h : e = c) (hc : c ≠ 0) (T : List Bool) : deN e T = [] ∧ deR e T = 0 ∧ deE e T = c := by subst h; simp [deN, deR, deE, hc]
theorem de_bad {e : Int} (h : e ≠ 0) (T : List Bool) : deN e T = [] ∧ deR e T = 0 ∧ deE e T = e := by simp [deN, deR, deE, h]

/-- A manager made behind world w1, in a later world. -/
structure Mid (w1 W : World) (M : ML) : Prop where
  bel : Below w1.heap.size w1 W
  ft : ∀ k, M.foot k → w1.heap.size ≤ k

theorem Mid.step {w1 W W' : World} {M M' : ML} (h : Mid w1 W M) (s : Step W M W' M') : Mid w1 W' M' := by
  refine ⟨⟨s.os.trans h.bel.os, s.tape.trans h.bel.tape, s.output.trans h.bel.output, Nat.le_trans h.bel.size s.size, fun k hk => ?_⟩, ?_⟩
  · rw [s.keep k (Nat.lt_of_lt_of_le hk h.bel.size) (fun e => absurd (h.ft k e) (by omega))]
    exact h.bel.block k hk
  · rintro k (e | e | e | e)
    · exact h.ft k (Or.inl (e.trans s.b))
    · exact h.ft k (Or.inr (Or.inl (e.trans s.bi)))
    · exact h.ft k (Or.inr (Or.inr (Or.inl (e.trans s.bd))))
    · rcases s.loc k e with e' | e'
      · exact h.ft k (Or.inr (Or.inr (Or.inr e')))
      · exact Nat.le_trans h.bel.size e'

theorem DAt.far {w : World} {ds : List Nd} {a : Option Addr} {M : ML} (hd : DAt w ds a) {w1 W : World} (h : Mid w1 W M) (hw : w.heap.size ≤ w1.heap.size) : ds ≠ [] → ∀ b o, a = some ⟨b, o, none⟩ → ¬ M.foot b := by
  intro hne b o e f
  obtain ⟨b', o', e', d'⟩ := hd hne
  have hz : b' < w.heap.size := lt_of_cell (d' 0 (List.length_pos_iff.2 hne)).1
  have e2 := e.symm.trans e'
  injection e2 with e2
  injection e2 with e2
  have := h.ft b f
  omega

/-- The result's cell is written last. -/
theorem out_fin {w W : World} {O : List Nd} {a : Option Addr} {B k : Nat} {x y : Value} (hD : DNew B W O a) (hk : w.heap.size ≤ k) (hB : k < B) (hb : Below w.heap.size w W) :
    DNew w.heap.size ((W.setCell ⟨k, 0, none⟩ x).setCell ⟨k, 1, none⟩ y) O a ∧ Below w.heap.size w ((W.setCell ⟨k, 0, none⟩ x).setCell ⟨k, 1, none⟩ y) := by
  refine ⟨(hD.of_blocks fun b hb hl => ?_).le (by omega), (hb.setCell hk _).setCell hk _⟩
  rw [Below.heap_setCell _ _ _ _ (by show b ≠ k; omega), Below.heap_setCell _ _ _ _ (by show b ≠ k; omega)]

theorem fn_tab {ds ns : List Nd} {r s : Int} (h : Tab ns s (fnT (tb ds 16 r))) : Tab ns s (fnT (tb ds 16 r)) := h

set_option maxRecDepth 100000 in
set_option maxHeartbeats 1000000 in
theorem Not_any {w : World} {ds : List Nd} {a : Option Addr} {n cap : Nat} {root : Int} (hd : DAt w ds a) (hn : ds.length = n) (hl : n ≤ 9223372036854775807) :
    Calls Try.prog 22 #[.agg #[.slice a n cap, .int .i64 root]] w (DePost w (chk ds root) (tl fun x => !fnT (tb ds 16 root) x)) := by
  obtain ⟨x1, x2, x3, x4⟩ := two_new w (.cells #[.slice a n cap, .int .i64 root] 27) (.cells #[.slice none 0 0, .int .i64 0] 27) _ rfl
  have X1 := Lib.hid x1; clear x1
  have X2 := Lib.hid x2; clear x2
  have X3 := Lib.hid x3; clear x3
  have X4 := Lib.hid x4; clear x4
  have HD := Lib.hid hd; clear hd
  have C := Lib.hid (check_any (cap := cap) (root := root) (HD.out.below X4.out) hn hl)
  have HN := Lib.hid hn; clear hn
  go_enter Try.func22, Try.ntmps22
  go_wp2_with fail
  generalize (w.alloc (.cells #[.slice a n cap, .int .i64 root] 27)).alloc (.cells #[.slice none 0 0, .int .i64 0] 27) = w1 at *
  refine C.out.mono ?_
  clear C
  rintro e w2 ⟨rfl, hb⟩
  have B2 := Lib.hid (Below.over X4.out X4.out.size hb)
  have b1 := Lib.hid ((hb.block _ (by rw [X3.out]; omega)).trans X1.out)
  have b2 := Lib.hid ((hb.block _ (by rw [X3.out]; omega)).trans X2.out)
  have hsz2 : w.heap.size + 2 ≤ w2.heap.size := by have := hb.size; rw [X3.out] at this; exact this
  clear hb X1 X2 X3 X4
  obtain ⟨ck, hck⟩ : ∃ ck, chk ds root = ck := ⟨_, rfl⟩
  rw [hck]
  have CK := Lib.hid hck; clear hck
  by_cases hc : ck = 0
  · subst hc
    obtain ⟨q1, q2, q3, q4, q5⟩ := chk_zero CK.out
    have OD := Lib.hid q2; clear q2 q4 q5
    have hn2 : n ≤ 2000 := by rw [HN.out] at q1; exact q1
    have RF := Lib.hid q3; clear q3 q1
    obtain ⟨y0, y1, _⟩ := cells2 b1.out
    go_wp2_with fail
    refine (new_any w2).mono ?_
    rintro e w3 ⟨M, rfl, st3, bl3, ft3⟩
    have ST3 := Lib.hid st3; clear st3
    have M3 : Hid (Mid w2 w3 M) := ⟨bl3, ft3⟩
    clear bl3 ft3 y0 y1
    obtain ⟨y0, y1, _⟩ := cells2 ((M3.out.bel.block _ (by omega)).trans b1.out)
    go_wp2_with fail
    refine (add_any (cap := cap) ST3.out ((HD.out.below B2.out).below M3.out.bel) ((HD.out.below B2.out).far M3.out (Nat.le_refl _)) OD.out RF.out HN.out hn2 (by simp)).mono ?_
    rintro e w4 ⟨ns4, r4, dn4, v4, rfl, ext4, rf4, tb4, st4, sp4⟩
    have M4 := Lib.hid (M3.out.step sp4)
    have L4 : ns4.length ≤ 2000 := by
      obtain ⟨ms, e1, e2⟩ := ext4
      rw [e1]; simp; omega
    have ST4 := Lib.hid st4
    have TB4 := Lib.hid tb4
    clear ext4 sp4 st4 tb4 y0 y1
    go_wp2_with fail
    refine (not_any ST4.out rf4 TB4.out (by omega)).mono ?_
    rintro e w5 ⟨ns5, r5, dn5, v5, rfl, ext5, rf5, tb5, st5, sp5⟩
    have M5 := Lib.hid (M4.out.step sp5)
    have L5 : ns5.length ≤ 1000000000000 := by
      obtain ⟨ms, e1, e2⟩ := ext5
      rw [e1]; simp; omega
    have ST5 := Lib.hid st5
    have TB5 : Hid (tb ns5 16 r5 = tl fun x => !fnT (tb ds 16 root) x) := tb5
    clear ext5 sp5 st5 tb5
    go_wp2_with fail
    refine (result_any ST5.out.mgr ST5.out.good L5 rf5 TB5.out).mono ?_
    rintro e w6 ⟨a6, cap6, rfl, dn6, hb6⟩
    have B6 := Lib.hid (Below.over B2.out B2.out.size (Below.over M5.out.bel M5.out.bel.size hb6))
    have DN6 := Lib.hid (dn6.le M5.out.bel.size)
    obtain ⟨z0, z1, z2, z3⟩ := cells2 (((Below.over M5.out.bel M5.out.bel.size hb6).block (w.heap.size + 1) (by omega)).trans b2.out)
    clear dn6 hb6
    have E := Lib.hid (de_ok CK.out (tl fun x => !fnT (tb ds 16 root) x))
    generalize outNodes (tl fun x => !fnT (tb ds 16 root) x) = O at *
    generalize outRoot (tl fun x => !fnT (tb ds 16 root) x) = rt at *
    generalize outErr (tl fun x => !fnT (tb ds 16 root) x) = er at *
    have l6 : w.heap.size + 1 < w6.heap.size := lt_of_cell z0
    have FN := Lib.hid (out_fin (x := .slice a6 O.length cap6) (y := .int .i64 rt) DN6.out (show w.heap.size ≤ w.heap.size + 1 by omega) (by omega) B6.out)
    go_wp2_with fail
    refine bodyPost_ret (v := .tuple #[.agg #[.slice a6 O.length cap6, .int .i64 rt], .int .i64 er]) (by simp [results, Try.results22, go_sem, z0, z1]) rfl ⟨a6, cap6, ?_, ?_, ?_⟩
    · rw [E.out.1, E.out.2.1, E.out.2.2]
    · rw [E.out.1]; exact FN.out.1
    · exact FN.out.2
  · have hcb : (ck != 0) = true := by simpa using hc
    have E := Lib.hid (de_no CK.out hc (tl fun x => !fnT (tb ds 16 root) x))
    have HC := Lib.hid hc; clear hc
    obtain ⟨z0, z1, z2, z3⟩ := cells2 b2.out
    have l6 : w.heap.size + 1 < w2.heap.size := by omega
    have FN := Lib.hid (out_fin (x := .slice none 0 0) (y := .int .i64 0) (dNew_nil (w.heap.size + 2) w2 none) (show w.heap.size ≤ w.heap.size + 1 by omega) (by omega) B2.out)
    go_wp2_with fail
    refine bodyPost_ret (v := .tuple #[.agg #[.slice none 0 0, .int .i64 0], .int .i64 ck]) (by simp [results, Try.results22, go_sem, z0, z1]) rfl ⟨none, 0, ?_, ?_, ?_⟩
    · rw [E.out.1, E.out.2.1, E.out.2.2]; rfl
    · rw [E.out.1]; exact dNew_nil _ _ _
    · exact FN.out.2

end Go.Proofs.Ythhogbligfmpdaa
