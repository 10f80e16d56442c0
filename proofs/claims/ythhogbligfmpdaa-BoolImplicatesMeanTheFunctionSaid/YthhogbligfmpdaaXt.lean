/- Models: its closure. -/
import Derived.Test.YthhogbligfmpdaaXs
import Derived.RegionTactic
import Derived.ChangeAlike
import Derived.Outline
set_option linter.unusedVariables false
set_option linter.unusedSimpArgs false
namespace Go.Proofs.Ythhogbligfmpdaa
open Go.RowKit Bd

section
variable {B : MB} {ds : List Nd} {aa : Option Addr} {n ca vars most : Nat} {root : Int} {w w' : World} {ov : Value} {ls : List (List Int)} {nw : List Int}

theorem info53 : (Try.prog.info? 53).map (fun i => (i.zero, i.size, i.bytes)) = some (some (.slice none 0 0), 1, 24) := by kernel_rfl
theorem one_cell {w : World} {b : Nat} {x : Value} {t : TypeId} (h : w.heap[b]? = some (.cells #[x] t (0, 0))) : w.cell? ⟨b, 0, none⟩ = some x ∧ w.frozen? ⟨b, 0, none⟩ = false := by simp [World.cell?, World.frozen?, h]

/-- The slice out. -/
theorem MS.ovForm (h : MS B ds aa n ca root vars most w ov ls nw) : ∃ a cap, ov = .slice a ls.length cap := by
  obtain ⟨vals, hv⟩ := h.out
  rcases hv.row.2 with ⟨h1, h2⟩ | ⟨g, cap, cur, h1, _⟩
  · exact ⟨none, 0, by rw [h1, h2]⟩
  · exact ⟨_, cap, h1⟩

/-- What the closure comes to. -/
def MPost (B : MB) (ds : List Nd) (aa : Option Addr) (n ca : Nat) (root : Int) (vars most : Nat) (w : World) (ls' : List (List Int)) (p : List Int) (v : Nat) (e : Ending) (w' : World) : Prop :=
  ∃ ov nw, e = .returned (.tuple #[]) ∧ MS B ds aa n ca root vars most w' ov ls' nw ∧ nw.take v = p ∧ MK B w w'

set_option maxRecDepth 100000 in
set_option maxHeartbeats 400000 in
theorem m_false (h : MS B ds aa n ca root vars most w ov ls nw) {v : Nat} :
    Calls Try.prog 59 #[.int .i64 (-1), .int .i64 v, .pointer (some ⟨B.bo, 0, none⟩), .pointer (some ⟨B.bm, 0, none⟩), .pointer (some ⟨B.bv, 0, none⟩), .pointer (some ⟨B.bn, 0, none⟩), .pointer (some ⟨B.ba, 0, none⟩), .pointer (some ⟨B.bw, 0, none⟩)] w (MPost B ds aa n ca root vars most w ls (nw.take v) v) := by
  have H := Lib.hid h; clear h
  go_enter Try.func59, Try.ntmps59
  go_wp2_with fail
  go_end0
  exact ⟨ov, nw, rfl, H.out, rfl, MK.refl _ _⟩

set_option maxRecDepth 100000 in
set_option maxHeartbeats 400000 in
theorem m_full (h : MS B ds aa n ca root vars most w ov ls nw) {k : Int} {v : Nat} (hk : (k == -1) = false) (hf : ¬ ls.length < most) (hm : most ≤ 2000) (hl : ls.length ≤ most) :
    Calls Try.prog 59 #[.int .i64 k, .int .i64 v, .pointer (some ⟨B.bo, 0, none⟩), .pointer (some ⟨B.bm, 0, none⟩), .pointer (some ⟨B.bv, 0, none⟩), .pointer (some ⟨B.bn, 0, none⟩), .pointer (some ⟨B.ba, 0, none⟩), .pointer (some ⟨B.bw, 0, none⟩)] w (MPost B ds aa n ca root vars most w ls (nw.take v) v) := by
  obtain ⟨a, cap, rfl⟩ := h.ovForm
  have c0 := (one_cell h.co).1
  have c1 := (one_cell h.cm).1
  have H := Lib.hid h; clear h
  have hi : (most : Int) ≤ (ls.length : Int) := by omega
  clear hf
  go_enter Try.func59, Try.ntmps59
  go_wp2_with fail
  go_end0
  exact ⟨_, nw, rfl, H.out, rfl, MK.refl _ _⟩

set_option maxRecDepth 100000 in
set_option maxHeartbeats 1000000 in
theorem m_leaf (h : MS B ds aa n ca root vars most w ov ls nw) (hf : ls.length < most) (hm : most ≤ 2000) (hv : vars ≤ 16) :
    Calls Try.prog 59 #[.int .i64 (-2), .int .i64 vars, .pointer (some ⟨B.bo, 0, none⟩), .pointer (some ⟨B.bm, 0, none⟩), .pointer (some ⟨B.bv, 0, none⟩), .pointer (some ⟨B.bn, 0, none⟩), .pointer (some ⟨B.ba, 0, none⟩), .pointer (some ⟨B.bw, 0, none⟩)] w (MPost B ds aa n ca root vars most w (ls ++ [nw]) (nw.take vars) vars) := by
  obtain ⟨a, cap, rfl⟩ := h.ovForm
  obtain ⟨c0, f0⟩ := one_cell h.co
  have c1 := (one_cell h.cm).1
  have c2 := (one_cell h.cv).1
  have c3 := (one_cell h.cn).1
  have hi : ¬ ((most : Int) ≤ (ls.length : Int)) := by omega
  have H := Lib.hid h
  have CL := Lib.hid (clone_any (w := w.drew) (gn := B.g) (c := vars) h.nl (by omega) h.now)
  have nl := h.nl
  obtain ⟨vals, hvals⟩ := h.out
  have LV := Lib.hid hvals
  have hz := h.sz
  have h3 := B.h3; have h4 := B.h4; have h5 := B.h5; have h6 := B.h6; have h7 := B.h7
  clear h hvals
  obtain ⟨i0, hi0, hz0, hz1, hz2⟩ := info_parts info53
  have ow : Hid (∀ g, (Value.slice a ls.length cap).ownBlock = some g → B.top ≤ g) := fun g hg => (LV.out.row.lt g hg).1
  have hls : ls.length ≤ 2000 := by omega
  go_enter Try.func59, Try.ntmps59
  go_upto_region 2 with fail
  have NL := Lib.hid nl; clear nl
  go_region_law (first
    | (refine step_append_lies _ (by rfl) _ _ _ (by rfl) B.top 53 i0 _ 1 24 Try.underlying44 hi0 hz0 hz1 hz2 rfl (by omega) (.slice a ls.length cap) ls.length vals (by rfl) ((LV.out.keep (w' := w2.alloc (.cells #[.slice (some ⟨gc, 0, none⟩) nw.length cc] 53)) (fun b _ hb => (Below.heap_alloc w2 _ b (by omega)).trans (BL.out.block b hb))).row) ⟨w2.heap.size, 0, none⟩ 1 1 [.slice (some ⟨gc, 0, none⟩) nw.length cc] (by rfl) (by rfl) (World.news_of_block (cs := #[.slice (some ⟨gc, 0, none⟩) nw.length cc]) (t := 53) (fr := (0, 0)) (heap_alloc_new w2 _)) (by simp [Value.oneCell']) (by omega) (by unfold maxLen; omega) (by omega) (by simp; omega) (w2.heap.size + 1) (by simp) ?_; intro g4 cap4 w4 hown4 hgrow4 hat4 hlt4; have OW := Lib.hid hown4; have GR := Lib.hid hgrow4; have AT := Lib.hid hat4; clear hown4 hgrow4 hat4 hlt4; have eb : w4.heap[B.bo]? = w2.heap[B.bo]? := ((GR.out.block B.bo (by simp; omega) (fun e => by have := ow.out _ e.symm; omega)).trans (Below.heap_alloc w2 _ B.bo lb)); have r0 := (World.cell?_of_block (a := ⟨B.bo, 0, none⟩) eb).trans s0; have rf : w4.frozen? ⟨B.bo, 0, none⟩ = false := (by have e2 : w4.frozen? ⟨B.bo, 0, none⟩ = w2.frozen? ⟨B.bo, 0, none⟩ := (by simp only [World.frozen?, eb]); rw [e2]; exact sf); have r3 := (World.cell?_of_block (a := ⟨B.bn, 0, none⟩) ((GR.out.block B.bn (by simp; omega) (fun e => by have := ow.out _ e.symm; omega)).trans (Below.heap_alloc w2 _ B.bn (by omega)))).trans s3; clear eb)
    | (go_simp; go_at_call 60; refine CL.out.mono ?_; rintro e w2 ⟨gc, cc, rfl, hgc, hgl, hcl, bl⟩; have GC := Lib.hid hgc; have GL := Lib.hid hgl; have CC := Lib.hid hcl; have BL := Lib.hid bl; clear hgc hgl hcl; have s0 := cell_later bl c0; have s3 := cell_later bl c3; have sf : w2.frozen? ⟨B.bo, 0, none⟩ = false := ((bl.frozen (p := ⟨B.bo, 0, none⟩) (by show B.bo < w.heap.size; omega)).trans f0); have lz : w.heap.size ≤ w2.heap.size := bl.size; clear bl; have lb : B.bo < w2.heap.size := (by omega)))
  all_goals
    go_wp2_with fail
    go_end0
    have FN := H.out.pushOut (w1 := w2.alloc (.cells #[.slice (some ⟨gc, 0, none⟩) nw.length cc] 53)) (w2 := w4) (ov' := .slice (some ⟨g4, 0, none⟩) (ls.length + 1) cap4) (gc := gc) (cc := cc) (gr := g4) LV.out
      (fun b hb => (Below.heap_alloc w2 _ b (Nat.lt_of_lt_of_le hb lz)).trans (BL.out.block b hb)) ⟨BL.out.os, BL.out.tape, BL.out.output⟩ (by simp; omega) GC.out (by have := GL.out; simp; omega)
      (fun j hj => (World.cell?_of_block (a := ⟨gc, j, none⟩) (Below.heap_alloc w2 _ gc GL.out)).trans (CC.out j hj)) GR.out OW.out rfl (by
        rcases AT.out with e | e
        · exact Or.inl e
        · right; rw [e]; simp)
    exact ⟨_, nw, rfl, FN.1, rfl, FN.2⟩
end

end Go.Proofs.Ythhogbligfmpdaa
