/- sameInts, sameLists, CountFault: what the laws on counts and models compare. -/
import Derived.Test.YthhogbligfmpdaaXm
import Derived.Test.YthhogbligfmpdaaPf
set_option linter.unusedVariables false
set_option linter.unusedSimpArgs false
namespace Go.Proofs.Ythhogbligfmpdaa
open Go.RowKit Bd

/-- Integers that lie at this slice. -/
def IAt (w : World) (l : List Int) (a : Option Addr) : Prop := l ≠ [] → ∃ b o, a = some ⟨b, o, none⟩ ∧ ∀ i, i < l.length → w.cell? ⟨b, o + i, none⟩ = some (.int .i64 (l.getD i 0))
/-- Lists of integers that lie at this slice. -/
def LAt (w : World) (ls : List (List Int)) (a : Option Addr) : Prop := ls ≠ [] → ∃ b o, a = some ⟨b, o, none⟩ ∧ ∀ i, i < ls.length → ∃ ai ci, w.cell? ⟨b, o + i, none⟩ = some (.slice ai (ls.getD i []).length ci) ∧ IAt w (ls.getD i []) ai

theorem IAt.below {w w' : World} {l : List Int} {a : Option Addr} (h : IAt w l a) (hb : Below w.heap.size w w') : IAt w' l a := by
  intro hne
  obtain ⟨b, o, e, hc⟩ := h hne
  exact ⟨b, o, e, fun i hi => cell_later hb (hc i hi)⟩
theorem LAt.below {w w' : World} {ls : List (List Int)} {a : Option Addr} (h : LAt w ls a) (hb : Below w.heap.size w w') : LAt w' ls a := by
  intro hne
  obtain ⟨b, o, e, hc⟩ := h hne
  refine ⟨b, o, e, fun i hi => ?_⟩
  obtain ⟨ai, ci, h1, h2⟩ := hc i hi
  exact ⟨ai, ci, cell_later hb h1, h2.below hb⟩
theorem iAt_nil (w : World) (a : Option Addr) : IAt w [] a := fun h => absurd rfl h
theorem lAt_nil (w : World) (a : Option Addr) : LAt w [] a := fun h => absurd rfl h

def SiL (n : Nat) (w : World) (iv : Value) (wr : World) : Prop := ∃ i : Nat, i ≤ n ∧ iv = .int .i64 i ∧ Qt w wr

set_option maxRecDepth 100000 in
set_option maxHeartbeats 400000 in
theorem sameInts_true {w : World} {l : List Int} {a1 a2 : Option Addr} {n c1 c2 : Nat} (h1 : IAt w l a1) (h2 : IAt w l a2) (hn : l.length = n) (hl : n ≤ 1000000) :
    Calls Try.prog 32 #[.slice a1 n c1, .slice a2 n c2] w fun e w' => e = .returned (.bool true) ∧ Qt w w' := by
  have H1 := Lib.hid h1; clear h1
  have H2 := Lib.hid h2; clear h2
  have HN := Lib.hid hn; clear hn
  go_enter Try.func32, Try.ntmps32
  go_wp2_with fail
  go_loopw [5] (fun iv wr => SiL n w iv wr) (fun iv _ => n - (intOf iv).toNat)
  case atStart => exact ⟨0, by omega, rfl, Qt.refl _⟩
  case round =>
    obtain ⟨i, hi, rfl, hq⟩ := hrel
    have HQ := Lib.hid hq; clear hq
    by_cases hin : i < n
    · have hil : i < l.length := by rw [HN.out]; exact hin
      have i1 : (i : Int) < (n : Int) := by omega
      have i3 : (0 : Int) ≤ (i : Int) := by omega
      obtain ⟨b1, o1, rfl, d1⟩ := H1.out (by intro e; rw [e] at hil; simp at hil)
      obtain ⟨b2, o2, rfl, d2⟩ := H2.out (by intro e; rw [e] at hil; simp at hil)
      have p1 := HQ.out.cell (d1 i hil)
      have p2 := HQ.out.cell (d2 i hil)
      clear d1 d2 hil
      generalize l.getD i 0 = x at *
      go_wp2_with fail
      go_quiet (fail)
      go_wp2_with fail
      go_roundw
      case rel => exact ⟨i + 1, by omega, by go_num, HQ.out.drewN _⟩
      case measure => simp [intOf]; omega
    · go_wp2_with fail
      go_ret
      exact ⟨rfl, HQ.out⟩

set_option maxRecDepth 100000 in
set_option maxHeartbeats 400000 in
theorem sameLists_true {w : World} {ls : List (List Int)} {a1 a2 : Option Addr} {n c1 c2 : Nat} (h1 : LAt w ls a1) (h2 : LAt w ls a2) (hn : ls.length = n) (hl : n ≤ 1000000) (hs : ∀ l ∈ ls, l.length ≤ 1000000) :
    Calls Try.prog 28 #[.slice a1 n c1, .slice a2 n c2] w fun e w' => e = .returned (.bool true) ∧ Qt w w' := by
  have H1 := Lib.hid h1; clear h1
  have H2 := Lib.hid h2; clear h2
  have HN := Lib.hid hn; clear hn
  have HS := Lib.hid hs; clear hs
  go_enter Try.func28, Try.ntmps28
  go_wp2_with fail
  go_loopw [5] (fun iv wr => SiL n w iv wr) (fun iv _ => n - (intOf iv).toNat)
  case atStart => exact ⟨0, by omega, rfl, Qt.refl _⟩
  case round =>
    obtain ⟨i, hi, rfl, hq⟩ := hrel
    have HQ := Lib.hid hq; clear hq
    by_cases hin : i < n
    · have hil : i < ls.length := by rw [HN.out]; exact hin
      have i1 : (i : Int) < (n : Int) := by omega
      have i3 : (0 : Int) ≤ (i : Int) := by omega
      obtain ⟨b1, o1, rfl, d1⟩ := H1.out (by intro e; rw [e] at hil; simp at hil)
      obtain ⟨b2, o2, rfl, d2⟩ := H2.out (by intro e; rw [e] at hil; simp at hil)
      obtain ⟨x1, k1, p1, q1⟩ := d1 i hil
      obtain ⟨x2, k2, p2, q2⟩ := d2 i hil
      have hln : (ls.getD i []).length ≤ 1000000 := HS.out _ (by rw [List.getD_eq_getElem?_getD, List.getElem?_eq_getElem hil]; exact List.getElem_mem hil)
      have p1 := HQ.out.cell p1
      have p2 := HQ.out.cell p2
      have C := Lib.hid (fun (q : Nat) => sameInts_true (c1 := k1) (c2 := k2) (q1.below (HQ.out.drewN q).below) (q2.below (HQ.out.drewN q).below) rfl hln)
      clear d1 d2 hil q1 q2
      generalize (ls.getD i []).length = m at *
      go_wp2_with fail
      go_quiet ((go_at_call 32; exact Calls.quiet_of (C.out _)))
      go_wp2_with fail
      go_roundw
      case rel => exact ⟨i + 1, by omega, by go_num, HQ.out.drewN _⟩
      case measure => simp [intOf]; omega
    · go_wp2_with fail
      go_ret
      exact ⟨rfl, HQ.out⟩

/-- The loop over the nodes. -/
def CfL (ds : List Nd) (vars : Int) (n : Nat) (iv : Value) : Prop := ∃ k : Nat, k ≤ n ∧ iv = .int .i64 k ∧ ∀ i : Nat, i < k → ¬ vars ≤ (nd ds i).1

set_option maxRecDepth 100000 in
set_option maxHeartbeats 400000 in
theorem countFault_any {w : World} {ds : List Nd} {a : Option Addr} {n cap : Nat} {root vars : Int} (hd : DAt w ds a) (hn : ds.length = n) (hl : n ≤ 9223372036854775807) :
    Calls Try.prog 26 #[.agg #[.slice a n cap, .int .i64 root], .int .i64 vars] w (CdPost w (vErr ds root vars)) := by
  have N1 := Lib.hid (heap_alloc_new w (.cells #[.slice a n cap, .int .i64 root] 27))
  have B1 : Hid (Below w.heap.size w (w.alloc (.cells #[.slice a n cap, .int .i64 root] 27))) := (Below.refl _ _).alloc (Nat.le_refl _) _
  have S1 : Hid ((w.alloc (.cells #[.slice a n cap, .int .i64 root] 27)).heap.size = w.heap.size + 1) := by show _ = _; simp
  have HD := Lib.hid hd; clear hd
  have C := Lib.hid (fault_any (cap := cap) (root := root) (HD.out.below B1.out) hn hl)
  have HN := Lib.hid hn; clear hn
  go_enter Try.func26, Try.ntmps26
  go_wp2_with fail
  generalize w.alloc (.cells #[.slice a n cap, .int .i64 root] 27) = w1 at *
  refine C.out.mono ?_
  clear C
  rintro e w2 ⟨rfl, hb⟩
  have B2 := Lib.hid (Below.over B1.out B1.out.size hb)
  have b1 := Lib.hid ((hb.block _ (by rw [S1.out]; omega)).trans N1.out)
  clear hb
  obtain ⟨y0, y1, _⟩ := cells2 b1.out
  obtain ⟨ck, hck⟩ : ∃ ck, chk ds root = ck := ⟨_, rfl⟩
  rw [hck]
  have CK := Lib.hid hck; clear hck
  by_cases hc : ck = 0
  · subst hc
    by_cases q1 : vars < 0
    · have E := Lib.hid (vErr_one (ds := ds) (r := root) (vars := vars) CK.out (Or.inl q1))
      go_wp2_with fail
      go_ret
      exact ⟨by rw [E.out]; rfl, B2.out⟩
    · by_cases q2 : 16 < vars
      · have E := Lib.hid (vErr_one (ds := ds) (r := root) (vars := vars) CK.out (Or.inr (Or.inl q2)))
        go_wp2_with fail
        go_ret
        exact ⟨by rw [E.out]; rfl, B2.out⟩
      · go_wp2_with fail
        go_loop [6] (fun iv => CfL ds vars n iv) (fun iv => n - (intOf iv).toNat)
        case atStart => exact ⟨0, by omega, rfl, fun i hi => absurd hi (by omega)⟩
        case round =>
          obtain ⟨k, hk, rfl, f1⟩ := hrel
          have F1 := Lib.hid f1; clear f1
          by_cases hkn : k < n
          · have j1 : (k : Int) < (n : Int) := by omega
            have hkd : k < ds.length := by rw [HN.out]; exact hkn
            obtain ⟨bd, od, rfl, d1⟩ := HD.out (by intro e; rw [e] at hkd; simp at hkd)
            obtain ⟨p1, p2, p3⟩ := kid_cells B2.out (d1 k hkd)
            clear d1 p2 p3
            obtain ⟨v, hv⟩ : ∃ v, (nd ds k).1 = v := ⟨_, rfl⟩
            rw [hv] at p1
            have HV := Lib.hid hv; clear hv
            by_cases hle : vars ≤ v
            · have E := Lib.hid (vErr_one (ds := ds) (r := root) (vars := vars) CK.out (Or.inr (Or.inr ⟨k, hkd, by rw [HV.out]; exact hle⟩)))
              go_wp2_with fail
              go_ret
              exact ⟨by rw [E.out]; rfl, B2.out⟩
            · go_wp2_with fail
              go_round
              case rel => exact ⟨k + 1, by omega, by go_num, fun i hi => by
                rcases lt_succ hi with e | e
                · exact F1.out i e
                · rw [e, HV.out]; omega⟩
              case measure => simp [intOf]; omega
          · have E := Lib.hid (vErr_zero (ds := ds) (r := root) (vars := vars) CK.out (by
              rintro (e | e | ⟨i, hi, e⟩)
              · omega
              · omega
              · exact F1.out i (by rw [HN.out] at hi; omega) e))
            go_wp2_with fail
            go_ret
            exact ⟨by rw [E.out]; rfl, B2.out⟩
  · have E := Lib.hid ((vErr_chk (ds := ds) (r := root) (vars := vars) (by rw [CK.out]; exact hc)).trans CK.out)
    have hcb : (ck != 0) = true := by simpa using hc
    clear hc
    go_wp2_with fail
    go_ret
    exact ⟨by rw [E.out]; rfl, B2.out⟩

end Go.Proofs.Ythhogbligfmpdaa
