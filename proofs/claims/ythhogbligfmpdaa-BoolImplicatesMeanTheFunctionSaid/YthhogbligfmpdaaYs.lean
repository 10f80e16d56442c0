/- The manager's 'implied'; slices.Clone with a row of its own. -/
import Derived.Test.YthhogbligfmpdaaYn
import Derived.Test.YthhogbligfmpdaaXr
import Derived.Test.YthhogbligfmpdaaPs
set_option linter.unusedVariables false
set_option linter.unusedSimpArgs false
namespace Go.Proofs.Ythhogbligfmpdaa
open Go.RowKit Bd

/-- A test that may add nodes. -/
def ImPost (w : World) (M : ML) (ns : List Nd) (r : Bool) (grow : Nat) (e : Ending) (w' : World) : Prop :=
  ∃ ns' dn' v', e = .returned (.bool r) ∧ (∃ ms, ns' = ns ++ ms ∧ ms.length ≤ grow) ∧ St w' { M with v := v' } ns' dn' ∧ Step w M w' { M with v := v' }

theorem pts_snoc (cl : List Int) (l : Int) (x : Nat) : pts (cl ++ [l]) x = pts cl (setb (lk l) (lb l) x) := by
  unfold pts; rw [List.foldr_append]; rfl

/-- The root of a function that is false everywhere. -/
theorem root_false {ns : List Nd} (g : Bd.Good ns) {r : Int} (hr : Ref ns r) {f : Nat → Bool} (ht : Tab ns r f) : r = -1 ↔ ∀ x, x < 65536 → f x = false := by
  constructor
  · intro e x hx
    subst e
    exact (tl_inj (ht.symm.trans (tab_false ns)) hx)
  · intro h
    have r1 : Ref ns (-1) := ⟨by decide, by omega⟩
    refine g.inj 16 hr r1 (by have := (g.ord.top_lt hr).1; omega) (by rw [top_neg (by decide)]; omega) ?_
    rw [ht, tab_false ns]
    exact tl_congr h

theorem imp_pts {T : List Bool} {cl : List Int} (h : Cl cl) : (∀ x, x < 65536 → fnT T (pts cl x) = false) ↔ Imp T cl := by
  constructor
  · intro k x hx hl
    have := k x hx
    rw [pts_id hl] at this
    exact this
  · intro k x hx
    exact k _ (pts_lt h.lit hx) (pts_false h x)

def ImL (T : List Bool) (cl : List Int) (n : Nat) (w : World) (M : ML) (ns : List Nd) (rv iv : Value) (wr : World) : Prop :=
  ∃ (j : Nat) (ns' : List Nd) (r : Int) (dn' : List (Nd × Int)) (v' : Value), j ≤ n ∧ rv = .int .i64 r ∧ iv = .int .i64 j ∧ St wr { M with v := v' } ns' dn' ∧ Ref ns' r ∧ Tab ns' r (fun x => fnT T (pts (cl.take j) x)) ∧ (∃ ms, ns' = ns ++ ms ∧ ms.length ≤ j * 65536) ∧ Step w M wr { M with v := v' }

theorem Step.cellM {w w' : World} {M M' : ML} (s : Step w M w' M') {k o : Nat} {x : Value} (hf : ¬ M.foot k) (hc : w.cell? ⟨k, o, none⟩ = some x) : w'.cell? ⟨k, o, none⟩ = some x :=
  (World.cell?_of_block (a := ⟨k, o, none⟩) (s.keep k (lt_of_cell hc) hf)).trans hc

set_option maxRecDepth 100000 in
set_option maxHeartbeats 1000000 in
theorem implied_any {w : World} {M : ML} {ns : List Nd} {dn : List (Nd × Int)} (h : St w M ns dn) {a : Option Addr} {n cap : Nat} {root : Int} {cl : List Int} {T : List Bool} (hr : Ref ns root) (ht : Tab ns root (fnT T)) (hcl : Cl cl) (hI : IAt w cl a)
    (hfar : cl ≠ [] → ∀ b o, a = some ⟨b, o, none⟩ → ¬ M.foot b) (hn : cl.length = n) (h16 : n ≤ 16) (hl : ns.length + n * 65536 + 65536 ≤ 1000000000000) :
    Calls Try.prog 73 #[.pointer (some ⟨M.b, 0, none⟩), .int .i64 root, .slice a n cap] w (ImPost w M ns (impB T cl) (n * 65536)) := by
  have H := Lib.hid h; clear h
  have HI := Lib.hid hI; clear hI
  have FAR := Lib.hid hfar; clear hfar
  have HN := Lib.hid hn; clear hn
  have CL := Lib.hid hcl; clear hcl
  have HR := Lib.hid hr; clear hr
  have HT := Lib.hid ht; clear ht
  go_enter Try.func73, Try.ntmps73
  go_wp2_with fail
  go_loopw [1, 11] (fun rv iv wr => ImL T cl n w M ns rv iv wr) (fun _ iv _ => n - (intOf iv).toNat)
  case atStart => exact ⟨0, ns, root, dn, M.v, by omega, rfl, rfl, H.out, HR.out, HT.out, ⟨[], by simp, by simp⟩, Step.refl _ _⟩
  case round =>
    obtain ⟨j, ns1, r1, dn1, v1, hj, rfl, rfl, st, rf, tb, ex, sp⟩ := hrel
    have ST := Lib.hid st; clear st
    have RF := Lib.hid rf; clear rf
    have TB := Lib.hid tb; clear tb
    have SP := Lib.hid sp; clear sp
    have EX := Lib.hid ex
    have L1 : ns1.length ≤ ns.length + j * 65536 := by
      obtain ⟨ms, e1, e2⟩ := ex
      rw [e1, List.length_append]; omega
    clear ex
    by_cases hjn : j < n
    · have i1 : (j : Int) < (n : Int) := by omega
      have hjl : j < cl.length := by rw [HN.out]; exact hjn
      have hne : cl ≠ [] := by intro e; rw [e] at hjl; simp at hjl
      obtain ⟨bu, ou, rfl, du⟩ := HI.out hne
      have c1 := SP.out.cellM (FAR.out hne bu ou rfl) (du j hjl)
      clear du
      have TS := Lib.hid (take_snoc hjl)
      have LT : Hid (Bd.Lit (cl.getD j 0)) := CL.out.lit _ (getI_mem hjl)
      obtain ⟨l, hx⟩ : ∃ x, cl.getD j 0 = x := ⟨_, rfl⟩
      rw [hx] at c1 TS LT
      clear hx
      obtain ⟨k1, k2⟩ := LT.out.lk
      have l1 : -16 ≤ l := LT.out.2.1
      have l2 : l ≤ 16 := LT.out.2.2
      have FN : Hid (∀ (W : World) (e : Ending), RPost wr { M with v := v1 } ns1 (fun x => fnT T (pts (cl.take j) (setb (lk l) (lb l) x))) 65536 e W → ∃ (r' : Int), e = .returned (.int .i64 r') ∧ ImL T cl n w M ns (.int .i64 r') (.int .i64 ((j : Int) + 1)) W) := by
        rintro W e ⟨ns2, r2, dn2, v2, rfl, ⟨ms2, rfl, lm2⟩, rf2, tb2, st2, sp2⟩
        obtain ⟨ms1, e1, e2⟩ := EX.out
        refine ⟨r2, rfl, j + 1, _, r2, dn2, v2, by omega, rfl, by go_num, st2, rf2, ?_, ⟨ms1 ++ ms2, by rw [e1, List.append_assoc], by rw [List.length_append]; omega⟩, SP.out.trans sp2⟩
        rw [TS.out]
        exact tb2.congr fun x _ => by rw [pts_snoc]
      by_cases hp : 0 < l
      · have e1 : lv l = l - 1 := by unfold lv; rw [if_pos hp]
        have e2 : lb l = false := by simp [lb, hp]
        rw [e1] at k1
        rw [e2] at FN
        clear e1 e2
        have CC := Lib.hid (fixed_tab (bit := 0) (b := false) ST.out k1 k2 RF.out TB.out rfl (by omega))
        clear k1 k2
        go_wp2_with fail
        refine CC.out.mono ?_
        clear CC
        intro e W hW
        obtain ⟨r', rfl, rel⟩ := FN.out W e hW
        have REL := Lib.hid rel; clear rel hW
        go_wp2_with fail
        go_roundw
        case rel => exact REL.out
        case measure => simp [intOf]; omega
      · have e1 : lv l = -l - 1 := by unfold lv; rw [if_neg hp]
        have e2 : lb l = true := by simp [lb, hp]
        rw [e1] at k1
        rw [e2] at FN
        clear e1 e2
        have CC := Lib.hid (fixed_tab (bit := 1) (b := true) ST.out k1 k2 RF.out TB.out rfl (by omega))
        clear k1 k2
        go_wp2_with fail
        refine CC.out.mono ?_
        clear CC
        intro e W hW
        obtain ⟨r', rfl, rel⟩ := FN.out W e hW
        have REL := Lib.hid rel; clear rel hW
        go_wp2_with fail
        go_roundw
        case rel => exact REL.out
        case measure => simp [intOf]; omega
    · obtain rfl : j = n := by omega
      have i1 : ¬ ((j : Int) < (j : Int)) := by omega
      have RT : Hid (r1 = -1 ↔ Imp T cl) := by
        show r1 = -1 ↔ Imp T cl
        rw [root_false ST.out.good RF.out TB.out, List.take_of_length_le (by rw [HN.out]; exact Nat.le_refl _)]
        exact imp_pts CL.out
      by_cases hi : Imp T cl
      · have IB : Hid (impB T cl = true) := impB_iff.2 hi
        obtain rfl : r1 = -1 := RT.out.2 hi
        clear hi
        go_wp2_with fail
        go_ret
        exact ⟨ns1, dn1, v1, by rw [IB.out]; rfl, EX.out, ST.out, SP.out⟩
      · have IB : Hid (impB T cl = false) := by
          show _ = _
          cases hb : impB T cl
          · rfl
          · exact absurd (impB_iff.1 hb) hi
        have hb : (r1 == -1) = false := by
          rw [beq_eq_false_iff_ne]; exact fun e => hi (RT.out.1 e)
        clear hi
        go_wp2_with fail
        go_ret
        exact ⟨ns1, dn1, v1, by rw [IB.out]; rfl, EX.out, ST.out, SP.out⟩

/-- A clause as it lies: nil, or in a block of its own from its head on. -/
def CAt (w : World) (cl : List Int) (v : Value) : Prop := (cl = [] ∧ v = .slice none 0 0) ∨ ∃ g cap, v = .slice (some ⟨g, 0, none⟩) cl.length cap ∧ ∀ j, j < cl.length → w.cell? ⟨g, j, none⟩ = some (.int .i64 (cl.getD j 0))

/-- A clone: a row of its own. -/
def CrPost (w : World) (l : List Int) (e : Ending) (w' : World) : Prop :=
  ∃ a cap, e = .returned (.slice a l.length cap) ∧ w'.ownsRow w.heap.size 3 1 (.slice a l.length cap) l.length (l.map (Value.int .i64)) ∧ (l = [] ∨ ∃ g, a = some ⟨g, 0, none⟩) ∧ Below w.heap.size w w'

set_option maxRecDepth 100000 in
set_option maxHeartbeats 400000 in
theorem clone_nil (w : World) : Calls Try.prog 60 #[.slice none 0 0] w (CrPost w []) := by
  have he := fun (w : World) => Lib.run_eql_slice_nil (P := Try.prog) w 53 3 none 0 0 0 0 Try.underlying53
  go_enter Try.func60, Try.ntmps60
  go_wp2_with fail
  go_ret
  exact ⟨none, 0, rfl, ⟨rfl, Or.inl ⟨rfl, rfl⟩⟩, Or.inl rfl, Below.refl _ _⟩

set_option maxRecDepth 100000 in
set_option maxHeartbeats 400000 in
theorem clone_some {w : World} {gn n c : Nat} {l : List Int} (hn : l.length = n) (hl : n ≤ 1000000) (hc : ∀ j, j < n → w.cell? ⟨gn, j, none⟩ = some (.int .i64 (l.getD j 0))) :
    Calls Try.prog 60 #[.slice (some ⟨gn, 0, none⟩) n c] w (CrPost w l) := by
  have HN := Lib.hid hn; clear hn
  have HC := Lib.hid hc; clear hc
  obtain ⟨i0, hi0, hz0, hz1, hz2⟩ := info_parts info3
  have he := fun (w : World) => Lib.run_eql_slice_nil (P := Try.prog) w 53 3 (some ⟨gn, 0, none⟩) n c 0 0 Try.underlying53
  go_enter Try.func60, Try.ntmps60
  go_wp2_with (at_builtin; refine wpList_append_own _ rfl _ _ 53 rfl w.heap.size 3 i0 (.int .i64 0) 1 8 Try.underlying53 hi0 hz0 hz1 hz2 rfl (by omega) (.slice (some ⟨w.heap.size, 0, none⟩) 0 0) 0 [] rfl (own_empty w) ⟨gn, 0, none⟩ n c (l.map (Value.int .i64)) rfl (by rw [List.length_map, HN.out, Nat.mul_one]) (clone_news HN.out HC.out) (by intro u hu; obtain ⟨x, _, rfl⟩ := List.mem_map.1 hu; rfl) (by unfold maxLen; omega) (by omega) (by simp) ?_; intro v' w1 hown1 hgrow1 hnil1; have OW := Lib.hid hown1; simp only [Nat.zero_add, List.nil_append] at OW; have GR := Lib.hid hgrow1; have NI := Lib.hid hnil1; clear hown1 hgrow1 hnil1)
  go_ret
  obtain ⟨g, cap, rfl⟩ : ∃ g cap, v' = .slice (some ⟨g, 0, none⟩) n cap := by
    rcases OW.out.2 with ⟨h1, h2⟩ | ⟨g, cap, cur, h1, h2, h3, _⟩
    · have := NI.out.1 h1
      simp at this
    · exact ⟨g, cap, h1⟩
  refine ⟨some ⟨g, 0, none⟩, cap, by rw [HN.out]; rfl, by rw [HN.out]; exact OW.out, Or.inr ⟨g, rfl⟩, ?_⟩
  refine ⟨GR.out.os, GR.out.tape, GR.out.output, Nat.le_trans (by simp) GR.out.size, fun k hk => ?_⟩
  rw [GR.out.block k (by simp; omega) (by simp [Value.ownBlock]; omega)]
  exact Below.heap_alloc w _ k hk

/-- slices.Clone of a clause. -/
theorem clone_cl {w : World} {l : List Int} {v : Value} (h : CAt w l v) (hl : l.length ≤ 1000000) : Calls Try.prog 60 #[v] w (CrPost w l) := by
  rcases h with ⟨rfl, rfl⟩ | ⟨g, cap, rfl, hc⟩
  · exact clone_nil w
  · exact clone_some rfl hl hc

end Go.Proofs.Ythhogbligfmpdaa
