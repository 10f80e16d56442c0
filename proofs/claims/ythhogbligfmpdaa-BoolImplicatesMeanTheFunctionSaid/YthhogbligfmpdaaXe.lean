/- Count. -/
import Derived.Test.YthhogbligfmpdaaXa
import Derived.Test.YthhogbligfmpdaaPf
set_option linter.unusedVariables false
set_option linter.unusedSimpArgs false
namespace Go.Proofs.Ythhogbligfmpdaa
open Go.RowKit Bd

def CoPost (w : World) (ds : List Nd) (root vars : Int) (e : Ending) (w' : World) : Prop :=
  ∃ c : Nat, e = .returned (.tuple #[.int .i64 c, .int .i64 (vErr ds root vars)]) ∧ (vErr ds root vars ≠ 0 → c = 0) ∧ (vErr ds root vars = 0 → CR ds vars.toNat root 0 c) ∧ Below w.heap.size w w'

theorem vErr_ok {ds : List Nd} {r vars : Int} (h : vErr ds r vars = 0) : chk ds r = 0 ∧ 0 ≤ vars ∧ vars ≤ 16 ∧ ∀ i : Nat, i < ds.length → (nd ds i).1 < vars := by
  unfold vErr at h
  by_cases h0 : chk ds r = 0
  · rw [if_neg (by simpa using h0)] at h
    by_cases h1 : vars < 0 ∨ 16 < vars ∨ ∃ i : Nat, i < ds.length ∧ vars ≤ (nd ds i).1
    · rw [if_pos h1] at h; omega
    · refine ⟨h0, by omega, by omega, fun i hi => ?_⟩
      rcases Int.lt_or_le (nd ds i).1 vars with x | x
      · exact x
      · exact absurd (Or.inr (Or.inr ⟨i, hi, x⟩)) h1
  · rw [if_pos h0] at h; exact absurd h h0

/-- The blocks that Count lays. -/
theorem count_start {w2 w3 W : World} {ds : List Nd} {n vars : Nat} {xs : List Value} (ho : w3.ownsRow 0 3 1 (.slice (some ⟨w2.heap.size, 0, none⟩) n n) n xs) (hg : w2.grownBy w3 none) (hW : W = w3.alloc (.cells #[.slice (some ⟨w2.heap.size, 0, none⟩) n n] 53)) :
    CtR W ds vars w2.heap.size n 0 W (fun _ => 0) ∧ W.heap.size = w3.heap.size + 1 ∧ w2.heap.size < w3.heap.size ∧ W.heap[w3.heap.size]? = some (.cells #[.slice (some ⟨w2.heap.size, 0, none⟩) n n] 53 (0, 0)) ∧ Below w2.heap.size w2 W := by
  have hz : w2.heap.size < w3.heap.size := (ho.lt _ rfl).2
  have hb : Below w2.heap.size w2 w3 := ⟨hg.os, hg.tape, hg.output, by omega, fun k hk => hg.block k hk (by simp)⟩
  have hbW : Below w2.heap.size w2 W := by rw [hW]; exact hb.alloc (by omega) _
  have hsz : W.heap.size = w3.heap.size + 1 := by rw [hW]; simp
  have hrow := ho.alloc (.cells #[.slice (some ⟨w2.heap.size, 0, none⟩) n n] 53)
  rw [← hW] at hrow
  refine ⟨⟨fun i hi => by omega, rfl, rfl, rfl, Nat.le_refl _, fun _ _ _ => rfl, fun j hj => by omega, fun j hj => ?_, fun j => hrow.frozenAt j⟩, hsz, hz, ?_, hbW⟩
  · have hl := hrow.1
    rw [hrow.cellAt j (by omega), List.getElem?_eq_getElem (by omega)]
    exact ⟨_, rfl⟩
  · rw [hW]; exact heap_alloc_new w3 _

theorem Qt.trans {a b c : World} (h : Qt a b) (k : Qt b c) : Qt a c := by obtain ⟨q, rfl⟩ := k; exact h.drewN q
theorem Qt.refl (a : World) : Qt a a := ⟨0, rfl⟩
theorem Qt.cell {a b : World} (h : Qt a b) {p : Addr} {v : Value} (hc : a.cell? p = some v) : b.cell? p = some v := by obtain ⟨q, rfl⟩ := h; exact hc
theorem Qt.frozen {a b : World} (h : Qt a b) {p : Addr} {x : Bool} (hc : a.frozen? p = x) : b.frozen? p = x := by obtain ⟨q, rfl⟩ := h; exact hc
theorem cast_succ (v : Nat) : ((v + 1 : Nat) : Int) = (v : Int) + 1 := by omega
theorem cast_sum (a b : Nat) : ((a + b : Nat) : Int) = (a : Int) + (b : Int) := by omega

def CtL (W : World) (ds : List Nd) (vars g n : Nat) (iv : Value) (wr : World) : Prop :=
  ∃ k ct, k ≤ n ∧ iv = .int .i64 (k : Nat) ∧ CtR W ds vars g n k wr ct

set_option maxRecDepth 100000 in
set_option maxHeartbeats 1000000 in
theorem count_any {w : World} {ds : List Nd} {a : Option Addr} {n cap : Nat} {root vars : Int} (hd : DAt w ds a) (hn : ds.length = n) (hl : n ≤ 9223372036854775807) :
    Calls Try.prog 24 #[.agg #[.slice a n cap, .int .i64 root], .int .i64 vars] w (CoPost w ds root vars) := by
  obtain ⟨x1, x2, x3, x4⟩ := two_new w (.cells #[.slice a n cap, .int .i64 root] 27) (.cells #[.int .i64 vars] 3) _ rfl
  have X1 := Lib.hid x1; clear x1
  have X2 := Lib.hid x2; clear x2
  have X3 := Lib.hid x3; clear x3
  have X4 := Lib.hid x4; clear x4
  have HD := Lib.hid hd; clear hd
  have C := Lib.hid (vf_any (cap := cap) (root := root) (vars := vars) (HD.out.below X4.out) hn hl)
  have HN := Lib.hid hn; clear hn
  obtain ⟨i0, hi0, hz0, hz1, hz2⟩ := info_parts info3
  go_enter Try.func24, Try.ntmps24
  go_wp2_with fail
  generalize (w.alloc (.cells #[.slice a n cap, .int .i64 root] 27)).alloc (.cells #[.int .i64 vars] 3) = w1 at *
  refine C.out.mono ?_
  clear C
  rintro e w2 ⟨rfl, hb⟩
  have B2 := Lib.hid (Below.over X4.out X4.out.size hb)
  have b1 := Lib.hid ((hb.block _ (by rw [X3.out]; omega)).trans X1.out)
  have b2 := Lib.hid ((hb.block _ (by rw [X3.out]; omega)).trans X2.out)
  have hsz2 : w.heap.size + 2 ≤ w2.heap.size := by have := hb.size; rw [X3.out] at this; exact this
  clear hb X1 X2 X3 X4
  obtain ⟨y0, y1, _⟩ := cells2 b1.out
  have z0 : w2.cell? ⟨w.heap.size + 1, 0, none⟩ = some (.int .i64 vars) := by simp [World.cell?, b2.out]
  obtain ⟨ve, hve⟩ : ∃ ve, vErr ds root vars = ve := ⟨_, rfl⟩
  by_cases hc : ve = 0
  · have HV : Hid (vErr ds root vars = 0) := by rw [hve]; exact hc
    rw [hve, hc]
    clear hve hc
    obtain ⟨v1, v2, v3, v4⟩ := vErr_ok HV.out
    obtain ⟨V, rfl⟩ := Int.eq_ofNat_of_zero_le v2
    have V4 := Lib.hid v4; clear v4
    obtain ⟨q1, q2, q3, q4, q5⟩ := chk_zero v1
    have OD := Lib.hid q2; clear q2 q4 q5 v1
    have hn2 : n ≤ 2000 := by rw [HN.out] at q1; exact q1
    have hr1 := q3.1
    have hr2 : root < (n : Int) := by have := q3.2; rw [HN.out] at this; exact this
    have RF := Lib.hid q3; clear q3 q1
    have h16 : V ≤ 16 := by omega
    go_upto_region 5 with (at_make; refine wpList_make_full _ rfl _ _ 53 rfl 0 3 i0 (.int .i64 0) 1 Try.underlying53 hi0 hz0 hz1 .i64 .i64 (n : Int) (n : Int) n rfl rfl rfl rfl (by rw [hz2]; omega) (by unfold maxLen; omega) (Nat.zero_le _) ?_; intro w3 hown3 hg3; have OW := Lib.hid hown3; have GR := Lib.hid hg3; clear hown3 hg3)
    obtain ⟨x1, x2, x3, x4, x5⟩ := count_start (ds := ds) (vars := V) OW.out GR.out rfl
    clear OW GR
    have X1 := Lib.hid x1; clear x1
    have X2 := Lib.hid x2; clear x2
    have X4 := Lib.hid x4; clear x4
    have X5 := Lib.hid x5; clear x5
    generalize w3.alloc (.cells #[.slice (some ⟨w2.heap.size, 0, none⟩) n n] 53) = W at *
    generalize w3.heap.size = bt at *
    have hWz : W.heap.size = bt + 1 := X2.out
    have c1 := Lib.hid ((X5.out.block w.heap.size (by omega)).trans b1.out)
    have c2 := Lib.hid ((X5.out.block (w.heap.size + 1) (by omega)).trans b2.out)
    have BW := Lib.hid (Below.over B2.out (by omega) X5.out)
    clear y0 y1 z0 b1 b2 hWz
    obtain ⟨y0, y1, _⟩ := cells2 c1.out
    go_wp2_with fail
    go_loopw [25] (fun iv wr => CtL W ds V w2.heap.size n iv wr) (fun iv _ => n - (intOf iv).toNat)
    case atStart => exact ⟨0, _, by omega, rfl, X1.out⟩
    case round =>
      clear y0 y1
      obtain ⟨k, ct, hk, rfl, hr⟩ := hrel
      have HR := Lib.hid hr
      have hsz : bt + 1 ≤ wr.heap.size := by have := hr.size; rw [X2.out] at this; exact this
      have hct := Lib.hid hr.cr
      clear hr
      have d1 : Hid (wr.heap[w.heap.size]? = _) := (HR.out.keep w.heap.size (by rw [X2.out]; omega) (by omega)).trans c1.out
      have d2 : Hid (wr.heap[w.heap.size + 1]? = _) := (HR.out.keep (w.heap.size + 1) (by rw [X2.out]; omega) (by omega)).trans c2.out
      have d3 : Hid (wr.heap[bt]? = _) := (HR.out.keep bt (by rw [X2.out]; omega) (by omega)).trans X4.out
      have t0 : wr.cell? ⟨bt, 0, none⟩ = some (.slice (some ⟨w2.heap.size, 0, none⟩) n n) := by simp [World.cell?, d3.out]
      have z0 : wr.cell? ⟨w.heap.size + 1, 0, none⟩ = some (.int .i64 V) := by simp [World.cell?, d2.out]
      obtain ⟨y0, y1, _⟩ := cells2 d1.out
      have BR : Hid (Below w.heap.size w wr) := ⟨HR.out.os.trans BW.out.os, HR.out.tape.trans BW.out.tape, HR.out.output.trans BW.out.output, by omega, fun j hj => (HR.out.keep j (by rw [X2.out]; omega) (by omega)).trans (BW.out.block j hj)⟩
      have DR := Lib.hid (HD.out.below BR.out)
      have A0 := Lib.hid HR.out.arr
      by_cases hkn : k < n
      · have i1 : (k : Int) < (n : Int) := by omega
        have hkd : k < ds.length := by rw [HN.out]; exact hkn
        obtain ⟨bd, od, rfl, dd⟩ := HD.out (by intro e; rw [e] at hkd; simp at hkd)
        obtain ⟨p1, p2, p3⟩ := kid_cells BR.out (dd k hkd)
        clear dd
        obtain ⟨o1, o2, o3, o4, o5, o6⟩ := OD.out k hkd
        have vk := V4.out k hkd
        have m1 := mny_cr (u := (nd ds k).1.toNat + 1) hct.out OD.out o3.1 o3.2 (by omega) (by omega) (by omega) h16
        have m2 := mny_cr (u := (nd ds k).1.toNat + 1) hct.out OD.out o4.1 o4.2 (by omega) (by omega) (by omega) h16
        have n1 := CR.le16 m1 (by omega) h16
        have n2 := CR.le16 m2 (by omega) h16
        have NC := Lib.hid (CR.node OD.out hkd (by omega) m1 m2)
        have PU := Lib.hid (fun (w2' : World) (ob : Obj) (q : Qt (wr.alloc ob) w2') => HR.out.push (by rw [X2.out]; omega) hkn q NC.out)
        have tp : ∀ r : Int, -2 ≤ r → r < (k : Int) → top ds r ≤ 16 := fun r h1 h2 => (OD.out.top_lt ⟨h1, by omega⟩).2.1
        have CL : Hid (∀ (W' : World) (r : Int), Qt (wr.alloc (.cells #[.int .i64 (nd ds k).1, .int .i64 (lo ds k), .int .i64 (Bd.hi ds k)] 77)) W' → -2 ≤ r → r < (k : Int) → (((nd ds k).1.toNat + 1 : Nat) : Int) ≤ top ds r → mny ds ct V ((nd ds k).1.toNat + 1) r ≤ 65536 →
            Calls Try.prog 58 #[.int .i64 r, .int .i64 (((nd ds k).1.toNat + 1 : Nat) : Int), .pointer (some ⟨w.heap.size + 1, 0, none⟩), .pointer (some ⟨bt, 0, none⟩), .pointer (some ⟨w.heap.size, 0, none⟩)] W' fun e w' => e = .returned (.int .i64 (mny ds ct V ((nd ds k).1.toNat + 1) r : Nat)) ∧ Qt W' w') := by
          intro W' r hq h1 h2 h3 h4
          have bk : ∀ j, j < wr.heap.size → W'.heap[j]? = wr.heap[j]? := fun j hj => hq.block.trans (Below.heap_alloc wr _ j hj)
          have bw : Below wr.heap.size wr W' := Below.over ((Below.refl wr.heap.size wr).alloc (Nat.le_refl _) _) (by simp) hq.below
          exact many_any (cell_later bw z0) (cell_later bw t0) (cell_later bw y0) (DR.out.below bw) HN.out hn2 h16 (fun h0 => cell_later bw (A0.out r.toNat (by omega))) h1 (by omega) (by omega) h3 (tp r h1 h2) h4
        clear tp
        obtain ⟨u, hu⟩ := HR.out.has k hkn
        have fz := HR.out.fz k
        have hg1 : w2.heap.size < wr.heap.size := by omega
        obtain ⟨⟨vv, l0, h0⟩, hnd⟩ : ∃ x, nd ds k = x := ⟨_, rfl⟩
        simp only [lo, Bd.hi, hnd] at CL PU p1 p2 p3 o1 o2 o3 o4 o5 o6 n1 n2 vk
        have HND := Lib.hid hnd; clear hnd m1 m2 NC
        obtain ⟨v, rfl⟩ := Int.eq_ofNat_of_zero_le o1
        simp only [Int.toNat_natCast] at CL PU n1 n2
        have CA := Lib.hid (fun (W' : World) (hq : Qt (wr.alloc (.cells #[.int .i64 v, .int .i64 l0, .int .i64 h0] 77)) W') => CL.out W' l0 hq o3.1 o3.2 (by omega) n1)
        have CB := Lib.hid (fun (W' : World) (hq : Qt (wr.alloc (.cells #[.int .i64 v, .int .i64 l0, .int .i64 h0] 77)) W') => CL.out W' h0 hq o4.1 o4.2 (by omega) n2)
        clear CL o5 o6
        generalize mny ds ct V (v + 1) l0 = c1' at *
        generalize mny ds ct V (v + 1) h0 = c2' at *
        have P2 := Lib.hid (fun (w2' : World) => PU.out w2' (.cells #[.int .i64 v, .int .i64 l0, .int .i64 h0] 77))
        clear PU
        go_upto_region 9 with fail
        have q0 : (wr.alloc (.cells #[.int .i64 v, .int .i64 l0, .int .i64 h0] 77)).heap[wr.heap.size]? = some (.cells #[.int .i64 v, .int .i64 l0, .int .i64 h0] 77 (0, 0)) := heap_alloc_new wr _
        have q1 : (wr.alloc (.cells #[.int .i64 v, .int .i64 l0, .int .i64 h0] 77)).heap[bt]? = wr.heap[bt]? := Below.heap_alloc wr _ _ (by omega)
        have q2 : (wr.alloc (.cells #[.int .i64 v, .int .i64 l0, .int .i64 h0] 77)).heap[w2.heap.size]? = wr.heap[w2.heap.size]? := Below.heap_alloc wr _ _ (by omega)
        generalize wr.alloc (.cells #[.int .i64 v, .int .i64 l0, .int .i64 h0] 77) = wa at *
        have Q0 := Lib.hid q0; clear q0
        have Q1 := Lib.hid q1; clear q1
        have Q2 := Lib.hid q2; clear q2
        obtain ⟨e0, e1, e2⟩ := cells3 Q0.out
        have t1 : wa.cell? ⟨bt, 0, none⟩ = some (.slice (some ⟨w2.heap.size, 0, none⟩) n n) := (World.cell?_of_block (a := ⟨bt, 0, none⟩) Q1.out).trans t0
        have ca := CA.out
        have cb := CB.out
        have pp := P2.out
        rw [cast_succ] at ca cb
        rw [cast_sum] at pp
        clear CA CB P2
        have CA := Lib.hid ca; clear ca
        have CB := Lib.hid cb; clear cb
        have P2 := Lib.hid pp; clear pp
        have hua : wa.cell? ⟨w2.heap.size, k, none⟩ = some u := (World.cell?_of_block (a := ⟨w2.heap.size, k, none⟩) Q2.out).trans hu
        have fza : wa.frozen? ⟨w2.heap.size, k, none⟩ = false := by
          have : wa.frozen? ⟨w2.heap.size, k, none⟩ = wr.frozen? ⟨w2.heap.size, k, none⟩ := by simp only [World.frozen?, Q2.out]
          rw [this]; exact fz
        have hw1 : IntKind.i64.wrap ((v : Int) + 1) = (v : Int) + 1 := IntWalk.i64_in _ (by omega)
        have hw2 : IntKind.i64.wrap ((c1' : Int) + (c2' : Int)) = (c1' : Int) + (c2' : Int) := IntWalk.i64_in _ (by omega)
        have k0 : (0 : Int) ≤ (k : Int) := by omega
        clear p1 p2 p3 z0 t0 y0 y1 hu fz
        go_region_held3 (fun W => W.cell? ⟨bt, 0, none⟩ = some (.slice (some ⟨w2.heap.size, 0, none⟩) n n) ∧ W.cell? ⟨wr.heap.size, 0, none⟩ = some (.int .i64 v) ∧ W.cell? ⟨wr.heap.size, 1, none⟩ = some (.int .i64 l0) ∧ W.cell? ⟨wr.heap.size, 2, none⟩ = some (.int .i64 h0))
          (first
            | exact ⟨t1, e0, e1, e2⟩
            | exact ⟨hq1.cell t1, hq1.cell e0, hq1.cell e1, hq1.cell e2⟩
            | exact ⟨hq2.cell t1, hq2.cell e0, hq2.cell e1, hq2.cell e2⟩
            | exact ⟨cell_far (by simp; omega) (hq2.cell t1), cell_far (by simp; omega) (hq2.cell e0), cell_far (by simp; omega) (hq2.cell e1), cell_far (by simp; omega) (hq2.cell e2)⟩
            | go_keep)
          (first
            | (go_at_call_of 58 (Value.int .i64 l0); refine (CA.out wa.drew (Qt.refl wa).drew).mono ?_; rintro e wb ⟨rfl, hqb⟩; have hq1 := (Qt.refl wa).drew.trans hqb; clear hqb)
            | (go_at_call_of 58 (Value.int .i64 h0); refine (CB.out wb hq1).mono ?_; rintro e wc ⟨rfl, hqc⟩; have hq2 := hq1.trans hqc; clear hqc; have huc := hq2.cell hua; have fzc := hq2.frozen fza))
        have PP := Lib.hid (P2.out wc hq2); clear hq2 hq1
        clear hw1 hw2
        go_wp2_with fail
        go_roundw
        case rel => exact ⟨k + 1, _, by omega, by go_num, PP.out⟩
        case measure => simp [intOf]; omega
      · obtain rfl : k = n := by omega
        have m := mny_cr (u := 0) hct.out OD.out hr1 hr2 (by rw [HN.out]; exact Nat.le_refl _) ((OD.out.top_lt RF.out).1) (Nat.zero_le _) h16
        have n1 := CR.le16 m (Nat.zero_le _) h16
        have CM := Lib.hid (many_any z0 t0 y0 DR.out HN.out hn2 h16 (fun h0 => A0.out root.toNat (by omega)) hr1 hr2 (Nat.zero_le V) ((OD.out.top_lt RF.out).1) ((OD.out.top_lt RF.out).2.1) n1)
        have MM := Lib.hid m; clear m
        generalize mny ds ct V 0 root = c0 at *
        go_wp2_with fail
        refine CM.out.mono ?_
        rintro e wb ⟨rfl, hqb⟩
        have HQ := Lib.hid hqb; clear hqb
        go_wp2_with fail
        go_ret2
        exact ⟨c0, by rw [HV.out]; rfl, fun h => absurd HV.out h, fun _ => MM.out, Below.over BR.out BR.out.size HQ.out.below⟩
  · have HV : Hid (vErr ds root vars = ve) := hve
    rw [hve]
    clear hve
    have hcb : (ve != 0) = true := by simpa using hc
    have HC := Lib.hid hc; clear hc
    go_wp2_with fail
    go_ret2
    exact ⟨0, by rw [HV.out]; rfl, fun _ => rfl, fun h => absurd (HV.out.symm.trans h) HC.out, B2.out⟩

end Go.Proofs.Ythhogbligfmpdaa

/- built. -/
namespace Go.Proofs.Ythhogbligfmpdaa
open Go.RowKit Bd

theorem fmAt_leaf (w : World) (op var : Int) (a : Option Addr) : FmAt w (.mk op var []) a :=
  .mk op var [] a (fun _ => none) (fun _ => 0) (by simp) (fun h => absurd rfl h) (fun i hi => by simp at hi)

theorem fmAt_two {w : World} {F1 F2 : Fm} {a1 a2 : Option Addr} {b c1 c2 : Nat} {t : TypeId} {fr : Nat × Nat} (op var : Int) (h1 : FmAt w F1 a1) (h2 : FmAt w F2 a2)
    (hb : w.heap[b]? = some (.cells #[.int .i64 F1.op, .int .i64 F1.var, .slice a1 F1.kids.length c1, .int .i64 F2.op, .int .i64 F2.var, .slice a2 F2.kids.length c2] t fr)) : FmAt w (.mk op var [F1, F2]) (some ⟨b, 0, none⟩) := by
  refine .mk op var [F1, F2] _ (fun i => if i = 0 then a1 else a2) (fun i => if i = 0 then c1 else c2) (by simp) (fun _ => ⟨b, 0, rfl, fun i hi => ?_⟩) (fun i hi => ?_)
  · have : i = 0 ∨ i = 1 := by simp at hi; omega
    rcases this with rfl | rfl
    · simp [World.cell?, hb]
    · simp [World.cell?, hb]
  · have : i = 0 ∨ i = 1 := by simp at hi; omega
    rcases this with rfl | rfl
    · simpa using h1
    · simpa using h2

theorem three_new (w : World) (o1 o2 o3 : Obj) : ∀ W, W = ((w.alloc o1).alloc o2).alloc o3 → W.heap[w.heap.size]? = some o1 ∧ W.heap[w.heap.size + 1]? = some o2 ∧ W.heap[w.heap.size + 1 + 1]? = some o3 ∧ W.heap.size = w.heap.size + 3 ∧ Below w.heap.size w W := by
  rintro W rfl
  have n1 := heap_alloc_new w o1
  have n2 := heap_alloc_new (w.alloc o1) o2
  have n3 := heap_alloc_new ((w.alloc o1).alloc o2) o3
  simp only [World.size_alloc] at n2 n3
  refine ⟨?_, ?_, n3, by simp, (((Below.refl _ _).alloc (Nat.le_refl _) _).alloc (by simp) _).alloc (by simp; omega) _⟩
  · rw [Below.heap_alloc _ _ _ (by simp; omega), Below.heap_alloc _ _ _ (by simp)]; exact n1
  · rw [Below.heap_alloc _ _ _ (by simp)]; exact n2

theorem exF_bld : bldNodes exF = exN ∧ bldRoot exF = 1 ∧ bldErr exF = 0 := by
  have h0 : boolErr exF = 0 := by decide
  have hl : (cnNodes (tb exN 16 1)).length ≤ 2000 := by rw [exN_cn.2]; decide
  refine ⟨?_, ?_, ?_⟩
  · unfold bldNodes; rw [if_pos h0, exF_ev]; unfold outNodes; rw [if_pos hl, exN_cn.2]
  · unfold bldRoot; rw [if_pos h0, exF_ev]; unfold outRoot; rw [if_pos hl, exN_cn.1]
  · unfold bldErr; rw [if_pos h0, exF_ev]; unfold outErr; rw [if_pos hl]

theorem build_ex {W : World} {b : Nat} (hb : W.heap[b]? = some (.cells #[.int .i64 1, .int .i64 0, .slice none 0 0, .int .i64 1, .int .i64 2, .slice none 0 0] 24 (0, 0))) :
    Calls Try.prog 13 #[.agg #[.int .i64 4, .int .i64 0, .slice (some ⟨b, 0, none⟩) 2 2]] W (DEPost W exN 1 0) := by
  have h : FmAt W exF (some ⟨b, 0, none⟩) := fmAt_two (F1 := .mk 1 0 []) (F2 := .mk 1 2 []) (a1 := none) (a2 := none) 4 0 (fmAt_leaf _ _ _ _) (fmAt_leaf _ _ _ _) hb
  have := Build_any h 2 W (Below.refl _ _)
  rw [exF_bld.1, exF_bld.2.1, exF_bld.2.2] at this
  exact this

theorem exN_vErr : vErr exN 1 3 = 0 := by
  refine vErr_zero exN_chk ?_
  rintro (h | h | ⟨i, hi, h⟩)
  · omega
  · omega
  · have : i = 0 ∨ i = 1 := by simp [exN] at hi; omega
    rcases this with rfl | rfl <;> revert h <;> decide

theorem count_ex {W : World} {b cap : Nat} (hd : DAt W exN (some ⟨b, 0, none⟩)) :
    Calls Try.prog 24 #[.agg #[.slice (some ⟨b, 0, none⟩) 2 cap, .int .i64 1], .int .i64 3] W fun e w' => e = .returned (.tuple #[.int .i64 2, .int .i64 0]) ∧ Below W.heap.size W w' := by
  refine (count_any (cap := cap) (root := 1) (vars := 3) hd (show exN.length = 2 by decide) (by decide)).mono ?_
  rintro e w' ⟨c, rfl, _, h2, h3⟩
  have := exN_count (h2 exN_vErr)
  subst this
  rw [exN_vErr]
  exact ⟨rfl, h3⟩

set_option maxRecDepth 100000 in
set_option maxHeartbeats 1000000 in
theorem built_any (w : World) : Calls Try.prog 19 #[] w fun e w' => e = .returned (.bool true) ∧ Below w.heap.size w w' := by
  obtain ⟨x1, x2, x3, x4, x5⟩ := three_new w (.cells #[.int .i64 1, .int .i64 0, .slice none 0 0] 24) (.cells #[.int .i64 1, .int .i64 2, .slice none 0 0] 24) (.cells #[.int .i64 1, .int .i64 0, .slice none 0 0, .int .i64 1, .int .i64 2, .slice none 0 0] 24) _ rfl
  have C := Lib.hid (build_ex x3)
  have X4 := Lib.hid x4
  have X5 := Lib.hid x5
  clear x1 x2 x3 x4 x5
  go_enter Try.func19, Try.ntmps19
  go_wp2_with fail
  generalize ((w.alloc (.cells #[.int .i64 1, .int .i64 0, .slice none 0 0] 24)).alloc (.cells #[.int .i64 1, .int .i64 2, .slice none 0 0] 24)).alloc (.cells #[.int .i64 1, .int .i64 0, .slice none 0 0, .int .i64 1, .int .i64 2, .slice none 0 0] 24) = w1 at *
  refine C.out.mono ?_
  clear C
  rintro e w2 ⟨a, cap, rfl, dn, bl⟩
  have hlen : exN.length = 2 := rfl
  rw [hlen]
  clear hlen
  have DA := Lib.hid dn.dAt
  obtain ⟨b, hb, rfl, hc⟩ := dn (by decide)
  have c0 := hc 0 (by decide)
  have c1 := hc 1 (by decide)
  clear hc dn
  obtain ⟨p0, p1, p2⟩ := c0
  obtain ⟨q0, q1, q2⟩ := c1
  have e0 : nd exN (0 : Nat) = (2, -1, -2) := by decide
  have e1 : nd exN (1 : Nat) = (0, -1, 0) := by decide
  rw [e0] at p0 p1 p2
  rw [e1] at q0 q1 q2
  simp only [Nat.zero_mul, Nat.one_mul, Nat.zero_add, Nat.reduceAdd] at p0 p1 p2 q0 q1 q2
  clear e0 e1
  have BL := Lib.hid (Below.over X5.out X5.out.size bl)
  have hb2 : b < w2.heap.size := lt_of_cell p0
  clear bl
  have B3 : Hid (Below w2.heap.size w2 (w2.alloc (.cells #[.slice (some ⟨b, 0, none⟩) 2 cap, .int .i64 1] 27))) := (Below.refl _ _).alloc (Nat.le_refl _) _
  have CC := Lib.hid (count_ex (cap := cap) (DA.out.below B3.out))
  have N3 := Lib.hid (heap_alloc_new w2 (.cells #[.slice (some ⟨b, 0, none⟩) 2 cap, .int .i64 1] 27))
  have S3 : Hid ((w2.alloc (.cells #[.slice (some ⟨b, 0, none⟩) 2 cap, .int .i64 1] 27)).heap.size = w2.heap.size + 1) := by show _ = _; simp
  go_wp2_with fail
  generalize w2.alloc (.cells #[.slice (some ⟨b, 0, none⟩) 2 cap, .int .i64 1] 27) = w3 at *
  refine CC.out.mono ?_
  rintro e w4 ⟨rfl, b4⟩
  have B4 := Lib.hid (Below.over BL.out BL.out.size (Below.over B3.out B3.out.size b4))
  have f : Below w2.heap.size w2 w4 := Below.over B3.out B3.out.size b4
  have P0 := cell_later f p0
  have P1 := cell_later f p1
  have P2 := cell_later f p2
  have Q0 := cell_later f q0
  have Q1 := cell_later f q1
  have Q2 := cell_later f q2
  obtain ⟨y0, y1, _⟩ := cells2 ((b4.block _ (by rw [S3.out]; omega)).trans N3.out)
  clear f b4 p0 p1 p2 q0 q1 q2
  go_wp2_with fail
  go_ret
  exact ⟨rfl, B4.out⟩

end Go.Proofs.Ythhogbligfmpdaa

/- The law BoolBuildMatchesSpec: its walk. -/
namespace Go.Proofs.Ythhogbligfmpdaa
open Go.RowKit Bd

theorem bld_len (F : Fm) : (bldNodes F).length ≤ 1000000 := by
  unfold bldNodes outNodes
  split
  · split
    · omega
    · simp
  · simp

theorem out_len (T : List Bool) : (outNodes T).length ≤ 1000000 := by
  unfold outNodes
  split
  · omega
  · simp

theorem same_true {w : World} {O : List Nd} {a1 a2 : Option Addr} {n c1 c2 : Nat} {r : Int} (h1 : DAt w O a1) (h2 : DAt w O a2) (hn : O.length = n) (l : n ≤ 1000000) :
    Calls Try.prog 18 #[.agg #[.slice a1 n c1, .int .i64 r], .agg #[.slice a2 n c2, .int .i64 r]] w fun e w' => e = .returned (.bool true) ∧ Below w.heap.size w w' := by
  subst hn
  have := same_any (c1 := c1) (c2 := c2) (r1 := r) (r2 := r) h1 h2 l l
  rw [decide_eq_true (by simp)] at this
  exact this

set_option maxRecDepth 100000 in
set_option maxHeartbeats 1000000 in
theorem law3_any {w : World} {F : Fm} {a : Option Addr} (h : FmAt w F a) (cap : Nat) (hcnt : cnt F ≤ 1000000000000) :
    Calls Try.prog 3 #[.agg #[.int .i64 F.op, .int .i64 F.var, .slice a F.kids.length cap]] w fun e w' => e = .returned (.bool true) ∧ Below w.heap.size w w' := by
  have CB := Lib.hid (Build_any h)
  have CF := Lib.hid (fun (cap : Nat) (W : World) (hB : Below w.heap.size w W) => boolFaultR_any h cap W hB hcnt)
  have CC := Lib.hid (checkBool_any h)
  have CT := Lib.hid (formulaTable_any h)
  clear h
  have N1 := Lib.hid (heap_alloc_new w (.cells #[.int .i64 F.op, .int .i64 F.var, .slice a F.kids.length cap] 24))
  have B1 : Hid (Below w.heap.size w (w.alloc (.cells #[.int .i64 F.op, .int .i64 F.var, .slice a F.kids.length cap] 24))) := (Below.refl _ _).alloc (Nat.le_refl _) _
  have S1 : Hid ((w.alloc (.cells #[.int .i64 F.op, .int .i64 F.var, .slice a F.kids.length cap] 24)).heap.size = w.heap.size + 1) := by show _ = _; simp
  have L1 := Lib.hid (bld_len F)
  have E0 : Hid (boolErr F = 0 → bldNodes F = outNodes (tl (evF F)) ∧ bldRoot F = outRoot (tl (evF F)) ∧ bldErr F = outErr (tl (evF F))) := fun hc => ⟨by simp [bldNodes, hc], by simp [bldRoot, hc], by simp [bldErr, hc]⟩
  have E1 : Hid (boolErr F ≠ 0 → bldNodes F = [] ∧ bldRoot F = 0 ∧ bldErr F = boolErr F) := fun hc => ⟨by simp [bldNodes, hc], by simp [bldRoot, hc], by simp [bldErr, hc]⟩
  generalize F.op = op at *
  generalize F.var = var at *
  generalize F.kids.length = kl at *
  go_enter Try.func3, Try.ntmps3
  go_wp2_with fail
  generalize w.alloc (.cells #[.int .i64 op, .int .i64 var, .slice a kl cap] 24) = w1 at *
  refine (CB.out cap w1 B1.out).mono ?_
  rintro e w2 ⟨a2, cap2, rfl, dn2, bl2⟩
  have DN2 := Lib.hid dn2.dAt; clear dn2
  have hz2 : w.heap.size < w2.heap.size := by have := bl2.size; rw [S1.out] at this; omega
  have BL2 := Lib.hid (Below.over B1.out B1.out.size bl2)
  have N2 := Lib.hid ((bl2.block w.heap.size (by rw [S1.out]; omega)).trans N1.out)
  clear bl2
  obtain ⟨bn, hbn⟩ : ∃ bn, bldNodes F = bn := ⟨_, rfl⟩
  obtain ⟨br, hbr⟩ : ∃ br, bldRoot F = br := ⟨_, rfl⟩
  obtain ⟨be, hbe⟩ : ∃ be, bldErr F = be := ⟨_, rfl⟩
  rw [hbn] at DN2 L1
  rw [hbn, hbr, hbe]
  have HBN := Lib.hid hbn; clear hbn
  have HBR := Lib.hid hbr; clear hbr
  have HBE := Lib.hid hbe; clear hbe
  have B3 : Hid (Below w2.heap.size w2 (w2.alloc (.cells #[.slice a2 bn.length cap2, .int .i64 br] 27))) := (Below.refl _ _).alloc (Nat.le_refl _) _
  have N3 := Lib.hid (heap_alloc_new w2 (.cells #[.slice a2 bn.length cap2, .int .i64 br] 27))
  have S3 : Hid ((w2.alloc (.cells #[.slice a2 bn.length cap2, .int .i64 br] 27)).heap.size = w2.heap.size + 1) := by show _ = _; simp
  obtain ⟨y0, y1, y2⟩ := cells3 N2.out
  go_wp2_with fail
  clear y0 y1 y2
  generalize w2.alloc (.cells #[.slice a2 bn.length cap2, .int .i64 br] 27) = w3 at *
  have BL3 := Lib.hid (Below.over BL2.out BL2.out.size B3.out)
  refine (CF.out cap w3 BL3.out).mono ?_
  rintro e w4 ⟨rfl, bl4⟩
  have B34 := Lib.hid bl4
  have BL4 := Lib.hid (Below.over BL3.out BL3.out.size bl4)
  clear bl4
  obtain ⟨y0, y1, y2⟩ := cells3 ((B34.out.block w.heap.size (by rw [S3.out]; omega)).trans ((B3.out.block w.heap.size hz2).trans N2.out))
  obtain ⟨bf, hbf⟩ : ∃ bf, boolErr F = bf := ⟨_, rfl⟩
  rw [hbf]
  have HBF := Lib.hid hbf; clear hbf
  go_wp2_with fail
  refine (CC.out cap w4 BL4.out).mono ?_
  rintro e w5 ⟨rfl, bl5⟩
  have BL5 := Lib.hid (Below.over BL4.out BL4.out.size bl5)
  have B35 := Lib.hid (Below.over B34.out B34.out.size bl5)
  clear bl5 y0 y1 y2
  rw [HBF.out]
  have N6 := Lib.hid (heap_alloc_new w5 (.cells #[.slice none 0 0, .int .i64 0] 27))
  have B6 : Hid (Below w5.heap.size w5 (w5.alloc (.cells #[.slice none 0 0, .int .i64 0] 27))) := (Below.refl _ _).alloc (Nat.le_refl _) _
  have S6 : Hid ((w5.alloc (.cells #[.slice none 0 0, .int .i64 0] 27)).heap.size = w5.heap.size + 1) := by show _ = _; simp
  have hz5 : w2.heap.size < w5.heap.size := by have := B35.out.size; rw [S3.out] at this; omega
  have D5 := Lib.hid (((DN2.out.below B3.out).below B35.out).below B6.out)
  have N56 := Lib.hid ((B6.out.block w2.heap.size hz5).trans ((B35.out.block w2.heap.size (by rw [S3.out]; omega)).trans N3.out))
  have N57 := Lib.hid ((B6.out.block w.heap.size (by omega)).trans ((B35.out.block w.heap.size (by rw [S3.out]; omega)).trans ((B3.out.block w.heap.size hz2).trans N2.out)))
  by_cases hz : bf = 0
  · subst hz
    have e0 := E0.out HBF.out
    have HFA := Lib.hid (boolErr_zero HBF.out).2
    obtain rfl : bn = outNodes (tl (evF F)) := HBN.out.symm.trans e0.1
    obtain rfl : br = outRoot (tl (evF F)) := HBR.out.symm.trans e0.2.1
    obtain rfl : be = outErr (tl (evF F)) := HBE.out.symm.trans e0.2.2
    clear e0 HBN HBR HBE E0 E1
    have BL6 := Lib.hid (Below.over BL5.out BL5.out.size B6.out)
    have CO := Lib.hid (fun (W : World) (g : Nat) (hlt : g < W.heap.size) (ht : TAt W (tl (evF F)) g 0) => ofTable_any (t := tl (evF F)) (n := 65536) (cap := 65536) (tl_length _) two16.symm (Nat.le_refl _) hlt ht)
    have C6 := Lib.hid (CT.out cap _ BL6.out HFA.out)
    clear CT CB CF CC
    generalize outNodes (tl (evF F)) = O at *
    generalize outRoot (tl (evF F)) = rt at *
    generalize outErr (tl (evF F)) = er at *
    obtain ⟨u0, u1, u2⟩ := cells3 N57.out
    go_wp2_with fail
    clear u0 u1 u2
    generalize w5.alloc (.cells #[.slice none 0 0, .int .i64 0] 27) = w6 at *
    refine C6.out.mono ?_
    rintro e w7 ⟨g, hg, rfl, ht, bl7⟩
    have TT := Lib.hid ht
    have hgl : g < w7.heap.size := lt_of_cell (ht 0 (by rw [tl_length]; decide))
    clear ht
    have B67 := Lib.hid bl7; clear bl7
    go_wp2_with fail
    refine (CO.out w7 g hgl TT.out).mono ?_
    rintro e w8 ⟨a8, cap8, rfl, dn8, bl8⟩
    have B68 := Lib.hid (Below.over B67.out B67.out.size bl8); clear bl8
    have D8 := Lib.hid (D5.out.below B68.out)
    obtain ⟨z0, z1, z2, z3⟩ := cells2 ((B68.out.block w5.heap.size (by rw [S6.out]; omega)).trans N6.out)
    obtain ⟨y0, y1, y2, y3⟩ := cells2 ((B68.out.block w2.heap.size (by rw [S6.out]; omega)).trans N56.out)
    have hz8 : w5.heap.size < w8.heap.size := by have := B68.out.size; rw [S6.out] at this; omega
    have FA : Hid (∀ (W : World), W = (w8.setCell ⟨w5.heap.size, 0, none⟩ (.slice a8 O.length cap8)).setCell ⟨w5.heap.size, 1, none⟩ (.int .i64 rt) → DAt W O a2 ∧ DAt W O a8 ∧ Below w.heap.size w W) := by
      rintro W rfl
      have kp : ∀ b, b ≠ w5.heap.size → ((w8.setCell ⟨w5.heap.size, 0, none⟩ (.slice a8 O.length cap8)).setCell ⟨w5.heap.size, 1, none⟩ (.int .i64 rt)).heap[b]? = w8.heap[b]? := fun b hb => by
        rw [Below.heap_setCell _ _ _ _ hb, Below.heap_setCell _ _ _ _ hb]
      refine ⟨?_, ?_, ?_⟩
      · intro hne
        obtain ⟨b, o, e, hc⟩ := D8.out hne
        obtain ⟨b', o', e', hc'⟩ := DN2.out hne
        have : b = b' := by
          have := e.symm.trans e'
          injection this with this
          injection this
        have hb' : b' < w2.heap.size := lt_of_cell (hc' 0 (List.length_pos_iff.2 hne)).1
        have hbl := kp b (by omega)
        exact ⟨b, o, e, fun i hi => ⟨(World.cell?_of_block (a := ⟨b, o + i * 3, none⟩) hbl).trans (hc i hi).1, (World.cell?_of_block (a := ⟨b, o + i * 3 + 1, none⟩) hbl).trans (hc i hi).2.1, (World.cell?_of_block (a := ⟨b, o + i * 3 + 2, none⟩) hbl).trans (hc i hi).2.2⟩⟩
      · exact (dn8.of_blocks fun b hb hl => kp b (by have := B67.out.size; rw [S6.out] at this; omega)).dAt
      · exact ((Below.over BL6.out BL6.out.size B68.out).setCell (by show w.heap.size ≤ w5.heap.size; omega) _).setCell (by show w.heap.size ≤ w5.heap.size; omega) _
    clear dn8 D8
    go_wp2_with fail
    obtain ⟨F1, F2, F3⟩ := FA.out _ rfl
    have G1 := Lib.hid F1; clear F1
    have G2 := Lib.hid F2; clear F2
    have G3 := Lib.hid F3; clear F3
    generalize (w8.setCell ⟨w5.heap.size, 0, none⟩ (.slice a8 O.length cap8)).setCell ⟨w5.heap.size, 1, none⟩ (.int .i64 rt) = w9 at *
    refine (same_true G1.out G2.out rfl L1.out).mono ?_
    rintro e w10 ⟨rfl, bl10⟩
    have B10 := Lib.hid (Below.over G3.out G3.out.size bl10); clear bl10
    go_wp2_with fail
    refine (built_any w10).mono ?_
    rintro e w11 ⟨rfl, bl11⟩
    have B11 := Lib.hid (Below.over B10.out B10.out.size bl11); clear bl11
    go_wp2_with fail
    go_ret
    exact ⟨rfl, B11.out⟩
  · have e1 := E1.out (by rw [HBF.out]; exact hz)
    obtain rfl : bn = [] := HBN.out.symm.trans e1.1
    obtain rfl : br = 0 := HBR.out.symm.trans e1.2.1
    obtain rfl : be = bf := HBE.out.symm.trans (e1.2.2.trans HBF.out)
    clear e1 HBN HBR HBE E0 E1 CT CB CF CC
    have BL6 := Lib.hid (Below.over BL5.out BL5.out.size B6.out)
    have hzb : (be == 0) = false := by simpa using hz
    have HZ := Lib.hid hz; clear hz
    obtain ⟨y0, y1, y2, y3⟩ := cells2 N56.out
    go_wp2_with fail
    clear y0 y1 y2 y3
    generalize w5.alloc (.cells #[.slice none 0 0, .int .i64 0] 27) = w6 at *
    refine (same_true (O := []) (n := 0) (dAt_nil _ _) (dAt_nil _ _) rfl (by omega)).mono ?_
    rintro e w10 ⟨rfl, bl10⟩
    have B10 := Lib.hid (Below.over BL6.out BL6.out.size bl10); clear bl10
    go_wp2_with fail
    refine (built_any w10).mono ?_
    rintro e w11 ⟨rfl, bl11⟩
    have B11 := Lib.hid (Below.over B10.out B10.out.size bl11); clear bl11
    go_wp2_with fail
    go_ret
    exact ⟨rfl, B11.out⟩

end Go.Proofs.Ythhogbligfmpdaa
