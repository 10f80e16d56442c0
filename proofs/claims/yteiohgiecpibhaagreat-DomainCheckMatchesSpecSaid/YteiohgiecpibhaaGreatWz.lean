/- Label itself. -/
import Derived.Test.YteiohgiecpibhaaGreatWy
set_option linter.unusedVariables false
set_option linter.unusedSimpArgs false
set_option maxRecDepth 100000
set_option maxHeartbeats 4000000
namespace Go.Proofs.YteiohgiecpibhaaGreat
open Go.RowKit Fdm

def LaPost (w : World) (F : List (List Int)) (e : Ending) (w' : World) : Prop := ∃ v base, e = .returned (.tuple #[v, .int .i64 0]) ∧ FoO w' base v F ∧ Below w.heap.size w w'
theorem label_any {w : World} {p g gq f : Nat} {D : List Dm} {s' : Sea} (h : StoB w p D exP) (hn : D.length = 2) (h0 : w.cell? ⟨g, 0, none⟩ = some (.int .i64 0)) (h1 : w.cell? ⟨g, 1, none⟩ = some (.int .i64 1)) (E : Env exRu exG exP 2) (hst : fromN exRu exG exP [0, 1] 10 gq f D ⟨[], 100, false⟩ = some s') (hout : s'.out = false) :
    Calls Tryz.prog 33 #[.pointer (some ⟨p, 0, none⟩), .slice (some ⟨g, 0, none⟩) 2 2, .int .i64 0, .int .i64 0, .int .i64 10, .int .i64 100] w (LaPost w s'.found) := by
  obtain ⟨R, hRr⟩ : ∃ R : Ending → World → Prop, R = LaPost w s'.found := ⟨_, rfl⟩
  rw [← hRr]
  have HR := Lib.hid hRr
  obtain ⟨a, c, pa, pc, m0, m1, m2, row, q1, q2, q3, q4, hD, hP⟩ := h.ex
  rw [hn] at row q1
  have row : w.heap[p]? = some (.cells #[.slice a 2 c, .slice pa 1 pc, .slice m0 m1 m2] 89 (0, 0)) := row
  have hP : PsV w exP (.slice pa 1 pc) := hP
  have q3 : 1 ≤ pc := q3
  have ROW := Lib.hid row; have DK := Lib.hid hD; have DN := Lib.hid hn; have ST := Lib.hid hst; have EN := Lib.hid E; have OUT := Lib.hid hout; have PS := Lib.hid hP
  have H0 := Lib.hid h0; have H1 := Lib.hid h1
  have s0 : w.cell? ⟨p, 0, none⟩ = some (.slice a 2 c) := by rw [cell_of_row _ _ _ _ _ _ row]; rfl
  have s1 : w.cell? ⟨p, 1, none⟩ = some (.slice pa 1 pc) := by rw [cell_of_row _ _ _ _ _ _ row]; rfl
  have LI := Lib.hid (listed3 (a := a) (pa := pa) (c := c) (pc := pc) h0 h1)
  clear h hD hP hn hst hRr row h0 h1 E hout
  go_enter Tryz.func33, Tryz.ntmps33
  go_upto_region 2 with (go_at_call 62; refine LI.out.mono ?_; rintro e w2 ⟨rfl, hb⟩; have B2 := Lib.hid hb; clear hb)
  go_upto_region 6 with fail
  have CL : Hid (Calls Tryz.prog 63 #[.slice (some ⟨g, 0, none⟩) 2 2] w2 fun e w' => ∃ va vc, e = .returned (.slice va 2 vc) ∧ InV w' [0, 1] (.slice va 2 vc) ∧ Below w2.heap.size w2 w') := by
    refine (clone63 (vs := [.int .i64 0, .int .i64 1]) (n := 2) rfl (by simp [Value.oneCell']) (fun _ => ⟨g, 0, rfl, fun j u hu => ?_⟩) (by omega)).mono ?_
    · match j, hu with
      | 0, hu => rw [← hu]; exact cell_later B2.out (Nat.le_refl _) H0.out
      | 1, hu => rw [← hu]; exact cell_later B2.out (Nat.le_refl _) H1.out
    · rintro e w3 ⟨v1, rfl, o1, b3⟩
      obtain ⟨p1, q1, rfl, V1⟩ := own_in (l := [0, 1]) o1 rfl (by omega)
      exact ⟨p1, q1, rfl, V1, b3⟩
  clear s0 s1
  go_upto_region 7 with (go_at_call 63; refine CL.out.mono ?_; rintro e w3 ⟨va, vc, rfl, hv, hb⟩; have VA := Lib.hid hv; have B3 := Lib.hid hb; clear hv hb)
  obtain ⟨gr, hgr⟩ : ∃ gr, w3.heap.size = gr := ⟨_, rfl⟩
  obtain ⟨w4, hw4⟩ : ∃ w4, w3.alloc (.cells #[.slice va 2 vc, .int .i64 0, .int .i64 0, .int .i64 10, .int .i64 100, .slice none 0 0, .bool false] 94) = w4 := ⟨_, rfl⟩
  have J4 : Hid (w4.heap[gr]? = some (.cells #[.slice va 2 vc, .int .i64 0, .int .i64 0, .int .i64 10, .int .i64 100, .slice none 0 0, .bool false] 94 (0, 0))) := by show _; rw [← hw4, ← hgr]; exact heap_alloc_new _ _
  have B34 : Hid (Below w3.heap.size w3 w4) := by show _; rw [← hw4]; exact below_new _ _
  have GR := Lib.hid hgr
  rw [hw4, hgr]
  clear hw4 hgr
  have BW3 : Hid (Below w.heap.size w w3) := over B2.out B3.out
  have BW4 : Hid (Below w.heap.size w w4) := over BW3.out B34.out
  have r4 : w4.heap[p]? = some (.cells #[.slice a 2 c, .slice pa 1 pc, .slice m0 m1 m2] 89 (0, 0)) := (BW4.out.block _ (Array.getElem?_eq_some_iff.1 ROW.out).1).trans ROW.out
  have s0 : w4.cell? ⟨p, 0, none⟩ = some (.slice a 2 c) := by rw [cell_of_row _ _ _ _ _ _ r4]; rfl
  have s1 : w4.cell? ⟨p, 1, none⟩ = some (.slice pa 1 pc) := by rw [cell_of_row _ _ _ _ _ _ r4]; rfl
  clear r4
  have CO : Hid (Calls Tryz.prog 65 #[.agg #[.slice a 2 c, .slice pa 1 pc]] w4 fun e w' => ∃ gd gc, e = .returned (.agg #[.slice (some ⟨gd, 0, none⟩) 2 gc, .slice pa 1 1]) ∧ 2 ≤ gc ∧ gc ≤ 9223372036854775807 ∧ DsG w' gd D ∧ Below w4.heap.size w4 w') :=
    (copied_any (pa := pa) (pn := 1) (DK.out.below BW4.out).a DN.out q1 q2 q3 q4 (by omega)).mono (by
      rintro e w' ⟨v, rfl, ⟨a, c, rfl, l1, l2, k⟩, hb⟩
      have hn := DN.out
      obtain ⟨g', rfl, q1, q2⟩ := k (by rintro rfl; simp at hn)
      exact ⟨g', c, by rw [hn], by rw [← hn]; exact l1, l2, q2, hb⟩)
  have FR : Hid (∀ (w5 : World) (gd gc : Nat), 2 ≤ gc → gc ≤ 9223372036854775807 → DsG w5 gd D → Below w4.heap.size w4 w5 → Calls Tryz.prog 64 #[.pointer (some ⟨gr, 0, none⟩), .agg #[.slice (some ⟨gd, 0, none⟩) 2 gc, .slice pa 1 1]] w5 (FrPost w3.heap.size gr (.slice va 2 vc) (.slice none 0 0) 10 s' w5)) := fun w5 gd gc l1 l2 hd hb =>
    from_any (w0 := w3) (n := 2) (np := 1) (pc := pc) (nv := 2) (cv := vc) (gr := gr) (most := 10) (va := va) (P := exP) (vs := [0, 1]) (ru := exRu) (G := exG) (by omega) (PS.out.below BW3.out) (Nat.le_of_eq GR.out) (by
      obtain ⟨a', c', e, _, _, hB⟩ := VA.out.ex
      simp only [Value.slice.injEq] at e
      obtain ⟨rfl, _, _⟩ := e
      exact hB.a) rfl (by obtain ⟨a', c', e, l1, l2, _⟩ := VA.out.ex; simp only [Value.slice.injEq] at e; obtain ⟨_, e, rfl⟩ := e; exact l1) (by obtain ⟨a', c', e, l1, l2, _⟩ := VA.out.ex; simp only [Value.slice.injEq] at e; obtain ⟨_, _, rfl⟩ := e; exact l2) (by omega) (fun i hi => by
      have hi : i < 2 := hi
      match i, hi with
      | 0, _ => exact ⟨rfl, by decide⟩
      | 1, _ => exact ⟨rfl, by decide⟩) EN.out (by omega) f hd.k DN.out l1 l2 (Nat.le_refl _) (by omega) (over B34.out hb) ⟨(hb.block _ (Array.getElem?_eq_some_iff.1 J4.out).1).trans J4.out, FoO.nil _ _⟩ (by simp) (by decide) ST.out
  go_upto_region 8 with (first
    | (go_at_call 65; refine CO.out.mono ?_; rintro e w5 ⟨gd, gc, rfl, l1, l2, hd, hb⟩; have HD := Lib.hid hd; have B5 := Lib.hid hb; clear hd hb)
    | (go_at_call 64; refine (FR.out _ _ _ l1 l2 HD.out B5.out).mono ?_; rintro e w6 ⟨rfl, vf, hs, hl, hf⟩; have HS := Lib.hid hs; have HF := Lib.hid hf; clear hs hl hf))
  have r6 := HS.out.row
  rw [OUT.out] at r6
  have c5 : w6.cell? ⟨gr, 5, none⟩ = some vf := by rw [cell_of_row _ _ _ _ _ _ r6]; rfl
  have c6 : w6.cell? ⟨gr, 6, none⟩ = some (.bool false) := by rw [cell_of_row _ _ _ _ _ _ r6]; rfl
  clear r6
  go_wp2_with fail
  rw [HR.out]
  have b5 := over BW4.out B5.out
  exact ⟨_, _, rfl, HS.out.fo, HF.out.below (by have := BW3.out.size; have := GR.out; omega) (fun g e => by simp [Value.ownBlock] at e) b5.size b5⟩
end Go.Proofs.YteiohgiecpibhaaGreat
