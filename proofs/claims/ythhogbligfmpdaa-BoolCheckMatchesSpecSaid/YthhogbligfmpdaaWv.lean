/- OfTable. -/
import Derived.Test.YthhogbligfmpdaaWu
set_option linter.unusedVariables false
set_option linter.unusedSimpArgs false
namespace Go.Proofs.Ythhogbligfmpdaa
open Go.RowKit Bd

def OwPost (w : World) (T : List Bool) (e : Ending) (w' : World) : Prop :=
  ∃ a n cap a2 n2 cap2 lg r, e = .returned (.tuple #[.agg #[.slice a n cap, .slice a2 n2 cap2, .bool lg], .int .i64 r]) ∧ Below w.heap.size w w' ∧
    ((cnNodes T).length ≤ 2000 → lg = false ∧ n = (cnNodes T).length ∧ r = cnRoot T ∧ DNew w.heap.size w' (cnNodes T) a) ∧ (2000 < (cnNodes T).length → lg = true)

theorem ow_any {w : World} {t : List Bool} {tb n cap : Nat} (hn : t.length = n) (h16 : n = 2 ^ 16) (hcap : n ≤ cap) (hlt : tb < w.heap.size) (ht : TAt w t tb 0) :
    Calls Try.prog 48 #[.agg #[.slice none 0 0, .slice none 0 0, .bool false], .slice (some ⟨tb, 0, none⟩) n cap, .int .i64 0] w (OwPost w t) := by
  obtain ⟨k, hk⟩ : ∃ k, k = 16 := ⟨_, rfl⟩
  have hm : MD w tb (.slice none 0 0) (.slice none 0 0) [] [] [] := ⟨rfl, rfl, fun i hi => by simp at hi, World.ownsRow_nil _ _ _ _, World.ownsRow_nil _ _ _ _, fun i hi => by simp at hi, by simp [Value.ownBlock], by simp [Value.ownBlock], hlt⟩
  have hp : WkPre k t [] [] false := ⟨by rw [hk, hn, h16], by omega, by simp, fun _ k hk => by simp at hk, fun _ => rfl⟩
  have C := wk_any tb k w 0 cap k t _ _ [] [] [] false (Nat.le_refl _) (by rw [hk, ← h16]; exact hcap) hm ht hp
  rw [show 2 ^ k = n by rw [hk, h16], show (16 - (k : Int)) = 0 by omega] at C
  refine C.mono ?_
  rintro e w' ⟨v1, v2, acc', N', S', lg', r, rfl, md, le, fs, res⟩
  obtain ⟨a1, c1, hv1⟩ := md.sl1
  obtain ⟨a2, c2, hv2⟩ := md.sl2
  subst hv1
  subst hv2
  have hcn : (cnNodes t).length = (dfs k t []).length := by subst hk; simp [cnNodes, cnAcc]
  refine ⟨a1, _, c1, a2, _, c2, lg', r, rfl, ⟨fs.os, fs.tape, fs.output, fs.size, fun j hj => fs.keep j hj (by simp [Value.ownBlock]) (by simp [Value.ownBlock])⟩, fun hl => ?_, fun hl => ?_⟩
  · rw [hcn] at hl
    obtain ⟨e1, e2, e3, e4⟩ := (res.2 rfl).1 hl
    have hN : N' = cnNodes t := by rw [e4]; subst hk; rfl
    have hd : DNew w.heap.size w' N' a1 := dNew_of_row (cap := c1) (by have := md.row1; rw [← md.len] at this; exact this) (fun g hg => by
      rcases fs.loc1 g (by rw [md.len] at hg; exact hg) with e | e
      · simp [Value.ownBlock] at e
      · exact e)
    refine ⟨e1, by rw [hcn, e2], by rw [e3]; subst hk; rfl, by rw [← hN]; exact hd⟩
  · rw [hcn] at hl
    exact (res.2 rfl).2 hl

set_option maxRecDepth 100000 in
set_option maxHeartbeats 400000 in
theorem ofTable_any {w : World} {t : List Bool} {tb n cap : Nat} (hn : t.length = n) (h16 : n = 2 ^ 16) (hcap : n ≤ cap) (hlt : tb < w.heap.size) (ht : TAt w t tb 0) :
    Calls Try.prog 16 #[.slice (some ⟨tb, 0, none⟩) n cap] w (DEPost w (outNodes t) (outRoot t) (outErr t)) := by
  have B1 : Hid (Below w.heap.size w (w.alloc (.cells #[.slice none 0 0, .int .i64 0] 27))) := (Below.refl _ _).alloc (Nat.le_refl _) _
  have C := Lib.hid (ow_any (w := w.alloc (.cells #[.slice none 0 0, .int .i64 0] 27)) hn h16 hcap (by simp; omega) (ht.block (B1.out.block tb hlt)))
  have S1 : Hid ((w.alloc (.cells #[.slice none 0 0, .int .i64 0] 27)).heap.size = w.heap.size + 1) := by show _ = _; simp
  have X : Hid ((w.alloc (.cells #[.slice none 0 0, .int .i64 0] 27)).heap[w.heap.size]? = some (.cells #[.slice none 0 0, .int .i64 0] 27 (0, 0))) := heap_alloc_new w _
  clear hn h16 ht
  go_enter Try.func16, Try.ntmps16
  go_wp2_with fail
  generalize w.alloc (.cells #[.slice none 0 0, .int .i64 0] 27) = w1 at *
  refine C.out.mono ?_
  clear C
  rintro e w2 ⟨a, m, c, a2, m2, c2, lg, r, rfl, hb, hs, hl⟩
  have XX : Hid (w2.heap[w.heap.size]? = some (.cells #[.slice none 0 0, .int .i64 0] 27 (0, 0))) := (hb.block _ (by rw [S1.out]; omega)).trans X.out
  have BB := Lib.hid (Below.over B1.out (by rw [S1.out]; omega) hb)
  have SZ : w.heap.size < w2.heap.size := by have := hb.size; rw [S1.out] at this; omega
  clear hb
  obtain ⟨c0, c1⟩ := cells2 XX.out
  have f0 : w2.frozen? ⟨w.heap.size, 0, none⟩ = false := by simp [World.frozen?, XX.out]
  have f1 : w2.frozen? ⟨w.heap.size, 1, none⟩ = false := by simp [World.frozen?, XX.out]
  by_cases hsz : (cnNodes t).length ≤ 2000
  · have e1 : Hid (outNodes t = cnNodes t ∧ outRoot t = cnRoot t ∧ outErr t = 0) := ⟨by simp [outNodes, hsz], by simp [outRoot, hsz], by simp [outErr, hsz]⟩
    obtain ⟨rfl, h2, h3, h4⟩ := hs hsz
    have H2 := Lib.hid h2
    have H3 := Lib.hid h3
    have H4 := Lib.hid h4
    clear h2 h3 h4 hl hs
    go_wp2_with fail
    refine bodyPost_ret (v := .tuple #[.agg #[.slice a m c, .int .i64 r], .int .i64 0]) (by simp [results, Try.results16, go_sem, c0, c1, SZ]) rfl ⟨a, c, ?_, ?_, ?_⟩
    · rw [e1.out.1, e1.out.2.1, e1.out.2.2, H2.out, H3.out]
    · rw [e1.out.1]
      have := H4.out
      rw [S1.out] at this
      refine (this.of_blocks (w' := _) fun b hb hl => ?_).le (Nat.le_succ _)
      rw [Below.heap_alloc _ _ _ (by simp [World.setCell]; exact hl), Below.heap_setCell _ _ _ _ (by show b ≠ w.heap.size; omega), Below.heap_setCell _ _ _ _ (by show b ≠ w.heap.size; omega)]
    · exact ((BB.out.setCell (Nat.le_refl _) _).setCell (Nat.le_refl _) _).alloc (by simp [World.setCell]; omega) _
  · have e1 : Hid (outNodes t = [] ∧ outRoot t = 0 ∧ outErr t = 3) := ⟨by simp [outNodes, hsz], by simp [outRoot, hsz], by simp [outErr, hsz]⟩
    obtain rfl := hl (by omega)
    clear hs hl
    go_wp2_with fail
    refine bodyPost_ret (v := .tuple #[.agg #[.slice none 0 0, .int .i64 0], .int .i64 3]) (by simp [results, Try.results16, go_sem, c0, c1, SZ]) rfl ⟨none, 0, ?_, ?_, ?_⟩
    · rw [e1.out.1, e1.out.2.1, e1.out.2.2]; rfl
    · rw [e1.out.1]; exact dNew_nil _ _ _
    · exact ((BB.out.setCell (Nat.le_refl _) _).setCell (Nat.le_refl _) _).alloc (by simp [World.setCell]; omega) _

end Go.Proofs.Ythhogbligfmpdaa
