/- sameNumber and sameRange at equal numbers, equal ranges. -/
import Derived.Test.YtijdglogadnbcaaZ48
set_option linter.unusedVariables false
set_option linter.unusedSimpArgs false
set_option maxRecDepth 100000
set_option maxHeartbeats 40000000
namespace Go.Proofs.Ytijdglogadnbcaa
open Go.RowKit Nt Bl
theorem same_zero (w : World) :
    Calls Try.prog 13 #[.agg #[.bool false, .slice none 0 0, .slice none 0 0], .agg #[.bool false, .slice none 0 0, .slice none 0 0]] w fun e w' => e = .returned (.bool true) ∧ Below w.heap.size w w' := by
  have B0 : Hid (Below w.heap.size w ((w.alloc (.cells #[.bool false, .slice none 0 0, .slice none 0 0] 26)).alloc (.cells #[.bool false, .slice none 0 0, .slice none 0 0] 26))) := (below_new _ _).alloc (by simp) _
  have X1 : Hid (NB ((w.alloc (.cells #[.bool false, .slice none 0 0, .slice none 0 0] 26)).alloc (.cells #[.bool false, .slice none 0 0, .slice none 0 0] 26)) w.heap.size false none 0 0 none 0 0) := by
    show NB _ _ _ _ _ _ _ _ _
    unfold NB
    rw [Below.heap_alloc _ _ _ (by simp)]; exact heap_alloc_new w _
  have X2 : Hid (NB ((w.alloc (.cells #[.bool false, .slice none 0 0, .slice none 0 0] 26)).alloc (.cells #[.bool false, .slice none 0 0, .slice none 0 0] 26)) (w.heap.size + 1) false none 0 0 none 0 0) := by
    have := heap_alloc_new (w.alloc (.cells #[.bool false, .slice none 0 0, .slice none 0 0] 26)) (.cells #[.bool false, .slice none 0 0, .slice none 0 0] 26)
    rwa [show (w.alloc (.cells #[.bool false, .slice none 0 0, .slice none 0 0] 26)).heap.size = w.heap.size + 1 from by simp] at this
  go_enter Try.func13, Try.ntmps13
  go_upto_region 1 with fail
  generalize (w.alloc (.cells #[.bool false, .slice none 0 0, .slice none 0 0] 26)).alloc (.cells #[.bool false, .slice none 0 0, .slice none 0 0] 26) = W0 at *
  obtain ⟨u0, u1, u2, _⟩ := X1.out.reads
  obtain ⟨v0, v1, v2, _⟩ := X2.out.reads
  go_wp2_with fail
  go_loopw [5] (fun v wr => SnI W0 0 v wr) (fun _ _ => 0)
  case atStart => exact ⟨0, Nat.zero_le _, rfl, Qt.refl _⟩
  case round =>
    obtain ⟨i, hi, rfl, hq⟩ := hrel
    have QQ := Lib.hid hq
    obtain rfl : i = 0 := by omega
    clear u0 u1 u2 v0 v1 v2
    have u0 := hq.cell X1.out.reads.1; have u1 := hq.cell X1.out.reads.2.1; have u2 := hq.cell X1.out.reads.2.2.1
    have v0 := hq.cell X2.out.reads.1; have v1 := hq.cell X2.out.reads.2.1; have v2 := hq.cell X2.out.reads.2.2.1
    clear hq
    go_wp2_with fail
    go_loopw [6] (fun v wr => SnI W0 0 v wr) (fun _ _ => 0)
    case atStart => exact ⟨0, Nat.zero_le _, rfl, QQ.out⟩
    case round =>
      obtain ⟨i, hi, rfl, hq⟩ := hrel
      have QQ := Lib.hid hq
      obtain rfl : i = 0 := by omega
      clear u0 u1 u2 v0 v1 v2
      have u0 := hq.cell X1.out.reads.1; have u1 := hq.cell X1.out.reads.2.1; have u2 := hq.cell X1.out.reads.2.2.1
      have v0 := hq.cell X2.out.reads.1; have v1 := hq.cell X2.out.reads.2.1; have v2 := hq.cell X2.out.reads.2.2.1
      clear hq
      go_wp2_with fail
      go_ret
      exact ⟨rfl, Below.over B0.out B0.out.size QQ.out.below⟩
theorem EndV.below {w w' : World} {f : Rat → Rat} {u : Option (Rat × Bool)} {M : Nw} (h : EndV w f u M) (hb : Below w.heap.size w w') : EndV w' f u M := by
  cases u with
  | none => exact h
  | some p => exact RA.below (q := f p.1) h hb
theorem same_any {w : World} {f : Rat → Rat} {u : Option (Rat × Bool)} {M N : Nw} (h : EndV w f u M) (k : EndV w f u N) :
    Calls Try.prog 13 #[.agg #[.bool M.s, .slice M.a M.n M.c, .slice M.b M.m M.d], .agg #[.bool N.s, .slice N.a N.n N.c, .slice N.b N.m N.d]] w fun e w' => e = .returned (.bool true) ∧ Below w.heap.size w w' := by
  cases u with
  | none =>
    obtain rfl : M = Nw.zero := h
    obtain rfl : N = Nw.zero := k
    exact same_zero w
  | some p => exact same_eq (q := f p.1) h k
theorem sameR_any {w : World} {f g : Rat → Rat} {u v : Option (Rat × Bool)} {l h : Int} {L H L' H' : Nw} (h1 : EndV w f u L) (h2 : EndV w f u L') (h3 : EndV w g v H) (h4 : EndV w g v H') :
    Calls Try.prog 6 #[rgV l h L H, rgV l h L' H'] w fun e w' => e = .returned (.bool true) ∧ Below w.heap.size w w' := by
  have NB1 := below_new w (.cells #[.int .i64 l, .int .i64 h, .bool L.s, .slice L.a L.n L.c, .slice L.b L.m L.d, .bool H.s, .slice H.a H.n H.c, .slice H.b H.m H.d] 33)
  have X0 : RgB (w.alloc (.cells #[.int .i64 l, .int .i64 h, .bool L.s, .slice L.a L.n L.c, .slice L.b L.m L.d, .bool H.s, .slice H.a H.n H.c, .slice H.b H.m H.d] 33)) w.heap.size l h L H := heap_alloc_new w _
  have SZ : (w.alloc (.cells #[.int .i64 l, .int .i64 h, .bool L.s, .slice L.a L.n L.c, .slice L.b L.m L.d, .bool H.s, .slice H.a H.n H.c, .slice H.b H.m H.d] 33)).heap.size = w.heap.size + 1 := by simp
  have NB2 := below_new (w.alloc (.cells #[.int .i64 l, .int .i64 h, .bool L.s, .slice L.a L.n L.c, .slice L.b L.m L.d, .bool H.s, .slice H.a H.n H.c, .slice H.b H.m H.d] 33)) (.cells #[.int .i64 l, .int .i64 h, .bool L'.s, .slice L'.a L'.n L'.c, .slice L'.b L'.m L'.d, .bool H'.s, .slice H'.a H'.n H'.c, .slice H'.b H'.m H'.d] 33)
  have Y0 : RgB ((w.alloc (.cells #[.int .i64 l, .int .i64 h, .bool L.s, .slice L.a L.n L.c, .slice L.b L.m L.d, .bool H.s, .slice H.a H.n H.c, .slice H.b H.m H.d] 33)).alloc (.cells #[.int .i64 l, .int .i64 h, .bool L'.s, .slice L'.a L'.n L'.c, .slice L'.b L'.m L'.d, .bool H'.s, .slice H'.a H'.n H'.c, .slice H'.b H'.m H'.d] 33)) (w.heap.size + 1) l h L' H' := by
    have := heap_alloc_new (w.alloc (.cells #[.int .i64 l, .int .i64 h, .bool L.s, .slice L.a L.n L.c, .slice L.b L.m L.d, .bool H.s, .slice H.a H.n H.c, .slice H.b H.m H.d] 33)) (.cells #[.int .i64 l, .int .i64 h, .bool L'.s, .slice L'.a L'.n L'.c, .slice L'.b L'.m L'.d, .bool H'.s, .slice H'.a H'.n H'.c, .slice H'.b H'.m H'.d] 33)
    rwa [SZ] at this
  have X1 := Lib.hid (X0.below NB2)
  have Y1 := Lib.hid Y0
  have E1 := Lib.hid ((h1.below NB1).below NB2)
  have E2 := Lib.hid ((h2.below NB1).below NB2)
  have E3 := Lib.hid ((h3.below NB1).below NB2)
  have E4 := Lib.hid ((h4.below NB1).below NB2)
  have B0 := Lib.hid (Below.over NB1 NB1.size NB2)
  clear NB1 NB2 X0 Y0 SZ h1 h2 h3 h4
  unfold rgV
  go_enter Try.func6, Try.ntmps6
  go_upto_region 1 with fail
  generalize (w.alloc (.cells #[.int .i64 l, .int .i64 h, .bool L.s, .slice L.a L.n L.c, .slice L.b L.m L.d, .bool H.s, .slice H.a H.n H.c, .slice H.b H.m H.d] 33)).alloc (.cells #[.int .i64 l, .int .i64 h, .bool L'.s, .slice L'.a L'.n L'.c, .slice L'.b L'.m L'.d, .bool H'.s, .slice H'.a H'.n H'.c, .slice H'.b H'.m H'.d] 33) = W0 at *
  obtain ⟨x0, x1, x2, x3, x4, x5, x6, x7⟩ := X1.out.reads
  obtain ⟨y0, y1, y2, y3, y4, y5, y6, y7⟩ := Y1.out.reads
  have C1 := Lib.hid (same_any E1.out E2.out)
  go_wp2_with (first
    | (go_at_call 13; refine C1.out.mono ?_; rintro e w2 ⟨rfl, B2⟩; clear C1 x0 x1 x2 x3 x4 x5 x6 x7 y0 y1 y2 y3 y4 y5 y6 y7; have C2 := Lib.hid (same_any (E3.out.below B2) (E4.out.below B2)); obtain ⟨x0, x1, x2, x3, x4, x5, x6, x7⟩ := (X1.out.below B2).reads; obtain ⟨y0, y1, y2, y3, y4, y5, y6, y7⟩ := (Y1.out.below B2).reads; have BW2 := Lib.hid (Below.over B0.out B0.out.size B2); clear B2)
    | (go_at_call 13; refine C2.out.mono ?_; rintro e w3 ⟨rfl, B3⟩; have BW3 := Lib.hid (Below.over BW2.out BW2.out.size B3); clear B3 C2))
  go_ret
  exact ⟨rfl, BW3.out⟩
end Go.Proofs.Ytijdglogadnbcaa
