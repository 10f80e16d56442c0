/- The method ite. -/
import Derived.Test.YthhogbligfmpdaaWc
set_option linter.unusedVariables false
set_option linter.unusedSimpArgs false
namespace Go.Proofs.Ythhogbligfmpdaa
open Go.RowKit Bd

/-- What 'ite' comes to. -/
def ItePost (w : World) (M : ML) (ns : List Nd) (dn : List (Nd × Int)) (a b c m : Int) (e : Ending) (w' : World) : Prop :=
  ∃ ns' r es v', e = .returned (.int .i64 r) ∧ IteRes ns a b c m ns' r ∧ Mgr w' { M with v := v' } ns' (dn ++ es) ∧ DoneOk ns' (dn ++ es) ∧ (∀ p ∈ es, m ≤ top ns' p.1.1 ∧ m ≤ top ns' p.1.2.1 ∧ m ≤ top ns' p.1.2.2) ∧ Step w M w' { M with v := v' }

theorem ItePost.idle {w w' : World} {M : ML} {ns : List Nd} {dn : List (Nd × Int)} {a b c m r : Int} (hr : IteRes ns a b c m ns r) (h : Mgr w' M ns dn) (d : DoneOk ns dn) (s : Step w M w' M) : ItePost w M ns dn a b c m (.returned (.int .i64 r)) w' :=
  ⟨ns, r, [], M.v, rfl, hr, by simpa using h, by simpa using d, by simp, s⟩

set_option maxRecDepth 100000 in
set_option maxHeartbeats 400000 in
theorem ite_1 (b : Nat) (x y z : Int) (w : World) (h : (x == -2) = true) :
    Calls Try.prog 81 #[.pointer (some ⟨b, 0, none⟩), .int .i64 x, .int .i64 y, .int .i64 z] w fun e w' => e = .returned (.int .i64 y) ∧ w = w' := by
  go_enter Try.func81, Try.ntmps81
  go_wp2_with fail
  go_ret
  exact ⟨rfl, rfl⟩

set_option maxRecDepth 100000 in
set_option maxHeartbeats 400000 in
theorem ite_2 (b : Nat) (x y z : Int) (w : World) (h : (x == -2) = false) (h2 : (y == z) = true) :
    Calls Try.prog 81 #[.pointer (some ⟨b, 0, none⟩), .int .i64 x, .int .i64 y, .int .i64 z] w fun e w' => e = .returned (.int .i64 y) ∧ w = w' := by
  go_enter Try.func81, Try.ntmps81
  go_wp2_with fail
  go_ret
  exact ⟨rfl, rfl⟩

set_option maxRecDepth 100000 in
set_option maxHeartbeats 400000 in
theorem ite_3 (b : Nat) (x y z : Int) (w : World) (h : (x == -2) = false) (h2 : (y == z) = false) (h3 : (x == -1) = true) :
    Calls Try.prog 81 #[.pointer (some ⟨b, 0, none⟩), .int .i64 x, .int .i64 y, .int .i64 z] w fun e w' => e = .returned (.int .i64 z) ∧ w = w' := by
  go_enter Try.func81, Try.ntmps81
  go_wp2_with fail
  go_ret
  exact ⟨rfl, rfl⟩

set_option maxRecDepth 100000 in
set_option maxHeartbeats 400000 in
theorem ite_4 (b : Nat) (x y z : Int) (w : World) (h : (x == -2) = false) (h2 : (y == z) = false) (h3 : (x == -1) = false) (h4 : (y == -2) = true) (h5 : (z == -1) = true) :
    Calls Try.prog 81 #[.pointer (some ⟨b, 0, none⟩), .int .i64 x, .int .i64 y, .int .i64 z] w fun e w' => e = .returned (.int .i64 x) ∧ w = w' := by
  go_enter Try.func81, Try.ntmps81
  go_wp2_with fail
  go_ret
  exact ⟨rfl, rfl⟩

set_option maxRecDepth 100000 in
set_option maxHeartbeats 400000 in
theorem ite_hit {w : World} {M : ML} {ns : List Nd} {dn : List (Nd × Int)} (hM : Mgr w M ns dn) (x y z r : Int) (h : (x == -2) = false) (h2 : (y == z) = false) (h3 : (x == -1) = false) (h4 : (y == -2) = false ∨ (z == -1) = false)
    (hd : dn.lookup (x, y, z) = some r) :
    Calls Try.prog 81 #[.pointer (some ⟨M.b, 0, none⟩), .int .i64 x, .int .i64 y, .int .i64 z] w fun e w' => e = .returned (.int .i64 r) ∧ Mgr w' M ns dn ∧ Step w M w' M := by
  have hc := hM.c2
  have hlt := hM.lt (Or.inl rfl)
  have H := Lib.hid hM; clear hM
  have HD := Lib.hid hd; clear hd
  have hl : ∀ q, (Instr.lookup 101 (.map (some M.bd)) (.agg #[.int .i64 x, .int .i64 y, .int .i64 z]) true).run Try.prog ((w.alloc (.cells #[.int .i64 x, .int .i64 y, .int .i64 z] 115)).drewN q) = .ok (.tuple #[.int .i64 r, .bool true]) ((w.alloc (.cells #[.int .i64 x, .int .i64 y, .int .i64 z] 115)).drewN q) := by
    intro q
    have := ((H.out.alloc (.cells #[.int .i64 x, .int .i64 y, .int .i64 z] 115)).drewN q).don.look key115 Try.underlying101 (x, y, z)
    rw [HD.out] at this
    exact this
  have hh : (y == -2) = false ∨ ((y == -2) = true ∧ (z == -1) = false) := by
    cases hy : (y == -2)
    · exact Or.inl rfl
    · exact Or.inr ⟨rfl, by rcases h4 with h4 | h4 <;> simp_all⟩
  clear h4
  rcases hh with h4 | ⟨h4, h5⟩
  all_goals
    go_enter Try.func81, Try.ntmps81
    go_wp2_with fail
    go_quiet (fail)
    go_wp2_with fail
    go_ret
    exact ⟨rfl, (H.out.alloc _).drewN _, (Step.alloc _ _ _).trans (Step.drewN _ _ _)⟩

theorem lookup_none_of {dn : List (Nd × Int)} {k : Nd} (h : ∀ p ∈ dn, p.1 ≠ k) : dn.lookup k = none := by
  induction dn with
  | nil => rfl
  | cons p l ih =>
    rw [List.lookup_cons]
    have : (k == p.1) = false := by
      have := h p List.mem_cons_self
      exact beq_eq_false_iff_ne.2 (fun e => this e.symm)
    rw [this]
    exact ih fun q hq => h q (List.mem_cons_of_mem _ hq)

theorem lookup_append_none {dn es : List (Nd × Int)} {k : Nd} (h : dn.lookup k = none) (h2 : es.lookup k = none) : (dn ++ es).lookup k = none := by
  rw [List.lookup_append, h, h2]; rfl

theorem fresh_key {ns ns1 ns2 ms1 ms2 : List Nd} {dn es1 es2 : List (Nd × Int)} {x y z v : Int} (hd : dn.lookup (x, y, z) = none) (hv : v = min (top ns x) (min (top ns y) (top ns z))) (hx : Ref ns x) (hy : Ref ns y) (hz : Ref ns z) (e1 : ns1 = ns ++ ms1) (e2 : ns2 = ns1 ++ ms2)
    (t1 : ∀ p ∈ es1, v + 1 ≤ top ns1 p.1.1 ∧ v + 1 ≤ top ns1 p.1.2.1 ∧ v + 1 ≤ top ns1 p.1.2.2) (t2 : ∀ p ∈ es2, v + 1 ≤ top ns2 p.1.1 ∧ v + 1 ≤ top ns2 p.1.2.1 ∧ v + 1 ≤ top ns2 p.1.2.2) : (dn ++ es1 ++ es2).lookup (x, y, z) = none := by
  subst e1; subst e2
  refine lookup_append_none (lookup_append_none hd (lookup_none_of ?_)) (lookup_none_of ?_)
  · intro p hp e
    have := t1 p hp
    rw [e] at this
    simp only [top_app hx, top_app hy, top_app hz] at this
    omega
  · intro p hp e
    have := t2 p hp
    rw [e] at this
    simp only [top_app (hx.app ms1), top_app (hy.app ms1), top_app (hz.app ms1), top_app hx, top_app hy, top_app hz] at this
    omega

theorem nodeRes_of {ns ns1 ns2 ms2 : List Nd} {a b c a' b' c' v low high : Int} (h0 : IteRes ns a b c (v + 1) ns1 low) (h1 : IteRes ns1 a' b' c' (v + 1) ns2 high) (e2 : ns2 = ns1 ++ ms2) (hv : 0 ≤ v) (h16 : v < 16) :
    NodeRes ns2 v low high (nodeS ns2 v low high).1 (nodeS ns2 v low high).2 := by
  have t0 := h0.top
  have t1 := h1.top
  exact nodeS_spec h1.good hv h16 (by rw [e2]; exact h0.ref.app _) h1.ref (by rw [e2, top_app h0.ref]; omega) (by omega)

theorem mem_of_lookup {l : List (Nd × Int)} {k : Nd} {r : Int} (h : l.lookup k = some r) : (k, r) ∈ l := by
  induction l with
  | nil => simp at h
  | cons p l ih =>
    rw [List.lookup_cons] at h
    cases hk : (k == p.1)
    · rw [hk] at h; exact List.mem_cons_of_mem _ (ih h)
    · rw [hk] at h
      simp only [Option.some.injEq] at h
      have : k = p.1 := by simpa using hk
      rw [this, ← h]; exact List.mem_cons_self

theorem step_done {w : World} {M : ML} {ob : Obj} : Step w M (ChangeMaps.setBlock w.drew M.bd ob) M :=
  ⟨rfl, rfl, rfl, rfl, rfl, rfl, by simp [ChangeMaps.setBlock], fun k _ hf => setBlock_other (fun e => hf (Or.inr (Or.inr (Or.inl e)))), fun _ h => Or.inl h⟩

theorem mgr_done {w : World} {M : ML} {ns : List Nd} {dn : List (Nd × Int)} {dn' : List (Nd × Int)} {ob : Obj} (h : Mgr w M ns dn) (h5 : mapIs ndV (ChangeMaps.setBlock w.drew M.bd ob) M.bd dn') : Mgr (ChangeMaps.setBlock w.drew M.bd ob) M ns dn' := by
  have ap := h.apart
  refine ⟨(setBlock_other ap.2.2.2.2).trans h.cel, ?_, h.idx.of_block (setBlock_other h.ne), h5, h.ne⟩
  refine ⟨h.row.1, ?_⟩
  rcases h.row.2 with h' | ⟨g, cap, cur, hv, r0, hg, r⟩
  · exact Or.inl h'
  · have hgi : g ≠ M.bd := fun e => ap.2.2.1 (by rw [hv]; simp [Value.ownBlock, e])
    exact Or.inr ⟨g, cap, cur, hv, r0, (setBlock_other hgi).trans hg, r⟩

theorem new_tops {ns ns1 ns2 ns3 ms1 ms2 ms3 : List Nd} {dn es1 es2 : List (Nd × Int)} {x y z v r : Int} (hv : v = min (top ns x) (min (top ns y) (top ns z))) (hx : Ref ns x) (hy : Ref ns y) (hz : Ref ns z) (e1 : ns1 = ns ++ ms1) (e2 : ns2 = ns1 ++ ms2) (e3 : ns3 = ns2 ++ ms3)
    (d1 : DoneOk ns1 (dn ++ es1)) (d2 : DoneOk ns2 (dn ++ es1 ++ es2))
    (t1 : ∀ p ∈ es1, v + 1 ≤ top ns1 p.1.1 ∧ v + 1 ≤ top ns1 p.1.2.1 ∧ v + 1 ≤ top ns1 p.1.2.2) (t2 : ∀ p ∈ es2, v + 1 ≤ top ns2 p.1.1 ∧ v + 1 ≤ top ns2 p.1.2.1 ∧ v + 1 ≤ top ns2 p.1.2.2) :
    ∀ p ∈ es1 ++ es2 ++ [((x, y, z), r)], v ≤ top ns3 p.1.1 ∧ v ≤ top ns3 p.1.2.1 ∧ v ≤ top ns3 p.1.2.2 := by
  subst e1; subst e2; subst e3
  intro p hp
  rcases List.mem_append.1 hp with hp | hp
  · rcases List.mem_append.1 hp with hp | hp
    · have r := d1 p (List.mem_append_right _ hp)
      have t := t1 p hp
      rw [top_app (r.1.app _), top_app r.1, top_app (r.2.1.app _), top_app r.2.1, top_app (r.2.2.1.app _), top_app r.2.2.1]
      omega
    · have r := d2 p (List.mem_append_right _ hp)
      have t := t2 p hp
      rw [top_app r.1, top_app r.2.1, top_app r.2.2.1]
      omega
  · simp only [List.mem_cons, List.not_mem_nil, or_false] at hp
    subst hp
    simp only [top_app ((hx.app ms1).app ms2), top_app ((hy.app ms1).app ms2), top_app ((hz.app ms1).app ms2), top_app (hx.app ms1), top_app (hy.app ms1), top_app (hz.app ms1), top_app hx, top_app hy, top_app hz]
    omega

set_option maxRecDepth 100000 in
set_option maxHeartbeats 1000000 in
theorem ite_rec {w : World} {M : ML} {ns : List Nd} {dn : List (Nd × Int)} (hM : Mgr w M ns dn) (g : Bd.Good ns) (d : DoneOk ns dn) (x y z v : Int) (h : (x == -2) = false) (h2 : (y == z) = false) (h3 : (x == -1) = false) (h4 : (y == -2) = false ∨ (z == -1) = false)
    (hd : dn.lookup (x, y, z) = none) (hx : Ref ns x) (hy : Ref ns y) (hz : Ref ns z) (hv : v = min (top ns x) (min (top ns y) (top ns z))) (hv16 : v < 16) (hlen : ns.length + 2 ^ (16 - v).toNat ≤ 1000000000000)
    (ih : ∀ (w : World) (M : ML) (ns : List Nd) (dn : List (Nd × Int)) (a b c : Int), Mgr w M ns dn → Bd.Good ns → DoneOk ns dn → Ref ns a → Ref ns b → Ref ns c → v + 1 ≤ top ns a → v + 1 ≤ top ns b → v + 1 ≤ top ns c →
      ns.length + 2 ^ (16 - (v + 1)).toNat ≤ 1000000000000 → Calls Try.prog 81 #[.pointer (some ⟨M.b, 0, none⟩), .int .i64 a, .int .i64 b, .int .i64 c] w (ItePost w M ns dn a b c (v + 1))) :
    Calls Try.prog 81 #[.pointer (some ⟨M.b, 0, none⟩), .int .i64 x, .int .i64 y, .int .i64 z] w (ItePost w M ns dn x y z v) := by
  have hc := hM.c2
  have hlt := hM.lt (Or.inl rfl)
  have H := Lib.hid hM; clear hM
  have HD := Lib.hid hd; clear hd
  have HV := Lib.hid hv; clear hv
  have IH := Lib.hid ih; clear ih
  have hl9 : ns.length ≤ 9223372036854775807 := by have : 0 ≤ 2 ^ (16 - v).toNat := Nat.zero_le _; generalize 2 ^ (16 - v).toNat = p at *; omega
  have hl : ∀ q, (Instr.lookup 101 (.map (some M.bd)) (.agg #[.int .i64 x, .int .i64 y, .int .i64 z]) true).run Try.prog ((w.alloc (.cells #[.int .i64 x, .int .i64 y, .int .i64 z] 115)).drewN q) = .ok (.tuple #[.int .i64 0, .bool false]) ((w.alloc (.cells #[.int .i64 x, .int .i64 y, .int .i64 z] 115)).drewN q) := by
    intro q
    have := ((H.out.alloc (.cells #[.int .i64 x, .int .i64 y, .int .i64 z] 115)).drewN q).don.look key115 Try.underlying101 (x, y, z)
    rw [HD.out] at this
    exact this
  have hh : (y == -2) = false ∨ ((y == -2) = true ∧ (z == -1) = false) := by
    cases hy : (y == -2)
    · exact Or.inl rfl
    · exact Or.inr ⟨rfl, by rcases h4 with h4 | h4 <;> simp_all⟩
  clear h4
  rcases hh with h4 | ⟨h4, h5⟩
  all_goals
    go_enter Try.func81, Try.ntmps81
    go_wp2_with fail
    go_quiet (fail)
    go_wp2_with fail
    have H1 := Lib.hid ((H.out.alloc (.cells #[.int .i64 x, .int .i64 y, .int .i64 z] 115)).drewN nq)
    have hk0 : ((w.alloc (.cells #[.int .i64 x, .int .i64 y, .int .i64 z] 115)).drewN nq).heap[w.heap.size]? = some (.cells #[.int .i64 x, .int .i64 y, .int .i64 z] 115) := heap_alloc_new w _
    have HK := Lib.hid hk0
    have hS := Lib.hid ((Step.alloc w M (.cells #[.int .i64 x, .int .i64 y, .int .i64 z] 115)).trans (Step.drewN _ M nq))
    clear hl hc hk0
    generalize (w.alloc (.cells #[.int .i64 x, .int .i64 y, .int .i64 z] 115)).drewN nq = w1 at *
    refine (top_any H1.out hl9 hx).mono ?_
    rintro e w' ⟨rfl, rfl⟩
    go_wp2_with fail
    refine (top_any H1.out hl9 hy).mono ?_
    rintro e w' ⟨rfl, rfl⟩
    go_wp2_with fail
    refine (top_any H1.out hl9 hz).mono ?_
    rintro e w' ⟨rfl, rfl⟩
    have hmin : (if top ns z < (if top ns y < top ns x then top ns y else top ns x) then top ns z else (if top ns y < top ns x then top ns y else top ns x)) = v := by
      rw [HV.out]; split <;> split at * <;> omega
    go_wp2_with fail
    clear hmin
    refine (split_any H1.out hl9 hx hv16).mono ?_
    rintro e w' ⟨rfl, q1, rfl⟩
    go_wp2_with fail
    refine (split_any (H1.out.drewN _) hl9 hy hv16).mono ?_
    rintro e w' ⟨rfl, q2, rfl⟩
    go_wp2_with fail
    refine (split_any (H1.out.drewN _) hl9 hz hv16).mono ?_
    rintro e w' ⟨rfl, q3, rfl⟩
    go_wp2_with fail
    have H2 := Lib.hid (H1.out.drewN (q1 + q2 + q3))
    have HK2 : Hid ((w1.drewN (q1 + q2 + q3)).heap[w.heap.size]? = some (.cells #[.int .i64 x, .int .i64 y, .int .i64 z] 115)) := HK.out
    have hS2 := Lib.hid (hS.out.trans (Step.drewN w1 M (q1 + q2 + q3)))
    clear HK hS H1
    generalize w1.drewN (q1 + q2 + q3) = w2 at *
    have tx : v ≤ top ns x := by rw [HV.out]; omega
    have ty : v ≤ top ns y := by rw [HV.out]; omega
    have tz : v ≤ top ns z := by rw [HV.out]; omega
    have x0 := g.ord.spl0 hx tx hv16
    have y0 := g.ord.spl0 hy ty hv16
    have z0 := g.ord.spl0 hz tz hv16
    have x1 := g.ord.spl1 hx tx hv16
    have y1 := g.ord.spl1 hy ty hv16
    have z1 := g.ord.spl1 hz tz hv16
    have epow : 2 ^ (16 - v).toNat = 2 ^ (16 - (v + 1)).toNat + 2 ^ (16 - (v + 1)).toNat := by
      rw [show (16 - v).toNat = (16 - (v + 1)).toNat + 1 from by omega, Nat.pow_succ]; omega
    obtain ⟨pw, hpw⟩ : ∃ pw : Nat, 2 ^ (16 - (v + 1)).toNat = pw := ⟨_, rfl⟩
    rw [epow, hpw] at hlen
    have EP := Lib.hid hpw; clear hpw epow
    refine (IH.out w2 M ns dn _ _ _ H2.out g d x0.1 y0.1 z0.1 x0.2 y0.2 z0.2 (by rw [EP.out]; omega)).mono ?_
    rintro e w3 ⟨ns1, low, es1, v1, rfl, r1, m1, d1, t1, s1⟩
    have R1 := Lib.hid r1; clear r1
    have M1 := Lib.hid m1; clear m1
    have D1 := Lib.hid d1; clear d1
    have T1 := Lib.hid t1; clear t1
    have S1 := Lib.hid s1; clear s1
    go_wp2_with fail
    obtain ⟨ms1, hns1, lms1⟩ := R1.out.ext
    have HN1 := Lib.hid hns1; clear hns1
    refine (IH.out w3 { M with v := v1 } ns1 (dn ++ es1) _ _ _ M1.out R1.out.good D1.out (by rw [HN1.out]; exact x1.1.app _) (by rw [HN1.out]; exact y1.1.app _) (by rw [HN1.out]; exact z1.1.app _)
      (by rw [HN1.out, top_app x1.1]; exact x1.2) (by rw [HN1.out, top_app y1.1]; exact y1.2) (by rw [HN1.out, top_app z1.1]; exact z1.2) (by rw [HN1.out, List.length_append, EP.out]; rw [EP.out] at lms1; omega)).mono ?_
    rintro e w4 ⟨ns2, high, es2, v2, rfl, r2, m2, d2, t2, s2⟩
    have R2 := Lib.hid r2; clear r2
    have M2 := Lib.hid m2; clear m2
    have D2 := Lib.hid d2; clear d2
    have T2 := Lib.hid t2; clear t2
    have S2 := Lib.hid s2; clear s2
    go_wp2_with fail
    obtain ⟨ms2, hns2, lms2⟩ := R2.out.ext
    have HN2 := Lib.hid hns2; clear hns2
    refine (node_any M2.out v low high (by rw [HN2.out, HN1.out, List.length_append, List.length_append]; rw [EP.out] at lms1 lms2; omega)).mono ?_
    rintro e w5 ⟨rfl, v3, m3, s3⟩
    have M3 := Lib.hid m3; clear m3
    have S3 := Lib.hid s3; clear s3
    have nf : Hid (¬ M.foot w.heap.size) := fun hf => absurd (H.out.lt hf) (by omega)
    have lt2 : w.heap.size < w2.heap.size := lt_of_some HK2.out
    have SA := Lib.hid ((S1.out.trans S2.out).trans S3.out)
    have HK5 : Hid (w5.heap[w.heap.size]? = some (.cells #[.int .i64 x, .int .i64 y, .int .i64 z] 115)) := (SA.out.keep _ lt2 nf.out).trans HK2.out
    have e0 : w5.cell? ⟨w.heap.size, 0, none⟩ = some (.int .i64 x) := by simp [World.cell?, HK5.out]
    have e1 : w5.cell? ⟨w.heap.size, 1, none⟩ = some (.int .i64 y) := by simp [World.cell?, HK5.out]
    have e2 : w5.cell? ⟨w.heap.size, 2, none⟩ = some (.int .i64 z) := by simp [World.cell?, HK5.out]
    have e3 : w5.cell? ⟨M.b, 2, none⟩ = some (.map (some M.bd)) := M3.out.c2
    have RS := Lib.hid (ite_step g hx hy hz (by rw [HV.out]; have a1 := (g.ord.top_lt hx).1; have a2 := (g.ord.top_lt hy).1; have a3 := (g.ord.top_lt hz).1; omega) hv16 tx ty tz R1.out R2.out)
    clear x0 y0 z0 x1 y1 z1 tx ty tz hlen lms1 lms2 lt2
    go_wp2_with fail
    go_still_tail 6, (by kernel_rfl)
    go_wp2_with (at_mapUpdate; refine wpList_mapIs_store key115 Try.underlying101 _ rfl _ _ _ rfl M.bd (dn ++ es1 ++ es2) (x, y, z) (nodeS ns2 v low high).2 rfl rfl rfl (M3.out.don.of_block rfl) (fresh_key HD.out HV.out hx hy hz HN1.out HN2.out T1.out T2.out) ?_; intro ob hmi; have HMI := Lib.hid hmi; clear hmi)
    go_ret
    refine ⟨_, _, es1 ++ es2 ++ [((x, y, z), (nodeS ns2 v low high).2)], v3, rfl, RS.out, ?_, ?_, ?_, ?_⟩
    · have := mgr_done M3.out (dn' := dn ++ (es1 ++ es2 ++ [((x, y, z), (nodeS ns2 v low high).2)])) (by simpa using HMI.out)
      exact this
    · have h0 : DoneOk (nodeS ns2 v low high).1 (dn ++ es1 ++ es2) := by
        obtain ⟨ms3, e3, _⟩ := (nodeRes_of R1.out R2.out HN2.out (v := v) (by rw [HV.out]; have a1 := (g.ord.top_lt hx).1; have a2 := (g.ord.top_lt hy).1; have a3 := (g.ord.top_lt hz).1; omega) hv16).ext
        rw [e3]; exact D2.out.app R2.out.good.ord _
      have := h0.push g hx hy hz HV.out RS.out
      simpa using this
    · obtain ⟨ms3, e3, _⟩ := (nodeRes_of R1.out R2.out HN2.out (v := v) (by rw [HV.out]; have a1 := (g.ord.top_lt hx).1; have a2 := (g.ord.top_lt hy).1; have a3 := (g.ord.top_lt hz).1; omega) hv16).ext
      exact new_tops HV.out hx hy hz HN1.out HN2.out e3 D1.out D2.out T1.out T2.out
    · exact (hS2.out.trans SA.out).trans (step_done (M := { M with v := v3 }))

theorem ite_any (k : Nat) : ∀ (w : World) (M : ML) (ns : List Nd) (dn : List (Nd × Int)) (a b c m : Int), (16 - m).toNat ≤ k → Mgr w M ns dn → Bd.Good ns → DoneOk ns dn → Ref ns a → Ref ns b → Ref ns c → m ≤ top ns a → m ≤ top ns b → m ≤ top ns c →
    ns.length + 2 ^ (16 - m).toNat ≤ 1000000000000 → Calls Try.prog 81 #[.pointer (some ⟨M.b, 0, none⟩), .int .i64 a, .int .i64 b, .int .i64 c] w (ItePost w M ns dn a b c m) := by
  induction k with
  | zero =>
    intro w M ns dn a b c m hk hM g d ha hb hc ta tb' tc hl
    have t16 := g.ord.top_lt ha
    have h0 : a < 0 := by
      by_cases h0 : 0 ≤ a
      · have := t16.2.2 h0; omega
      · omega
    have := ha.1
    by_cases e : a = -2
    · exact (ite_1 M.b a b c w (by simp [e])).mono fun e' w' ⟨h1, h2⟩ => by subst h1; subst h2; exact ItePost.idle (ite_b g hb tb' (Or.inl e)) hM d (Step.refl _ _)
    · by_cases e2 : b = c
      · exact (ite_2 M.b a b c w (by simpa using e) (by simpa using e2)).mono fun e' w' ⟨h1, h2⟩ => by subst h1; subst h2; exact ItePost.idle (ite_b g hb tb' (Or.inr e2)) hM d (Step.refl _ _)
      · have e3 : a = -1 := by omega
        exact (ite_3 M.b a b c w (by simpa using e) (by simpa using e2) (by simpa using e3)).mono fun e' w' ⟨h1, h2⟩ => by subst h1; subst h2; exact ItePost.idle (ite_c g hc tc e3) hM d (Step.refl _ _)
  | succ k ih =>
    intro w M ns dn a b c m hk hM g d ha hb hc ta tb' tc hl
    by_cases e : a = -2
    · exact (ite_1 M.b a b c w (by simp [e])).mono fun e' w' ⟨h1, h2⟩ => by subst h1; subst h2; exact ItePost.idle (ite_b g hb tb' (Or.inl e)) hM d (Step.refl _ _)
    by_cases e2 : b = c
    · exact (ite_2 M.b a b c w (by simpa using e) (by simpa using e2)).mono fun e' w' ⟨h1, h2⟩ => by subst h1; subst h2; exact ItePost.idle (ite_b g hb tb' (Or.inr e2)) hM d (Step.refl _ _)
    by_cases e3 : a = -1
    · exact (ite_3 M.b a b c w (by simpa using e) (by simpa using e2) (by simpa using e3)).mono fun e' w' ⟨h1, h2⟩ => by subst h1; subst h2; exact ItePost.idle (ite_c g hc tc e3) hM d (Step.refl _ _)
    by_cases e4 : b = -2 ∧ c = -1
    · exact (ite_4 M.b a b c w (by simpa using e) (by simpa using e2) (by simpa using e3) (by simpa using e4.1) (by simpa using e4.2)).mono fun e' w' ⟨h1, h2⟩ => by subst h1; subst h2; exact ItePost.idle (ite_a g ha ta e4) hM d (Step.refl _ _)
    have e4' : (b == -2) = false ∨ (c == -1) = false := by
      by_cases x : b = -2
      · exact Or.inr (by simpa using fun y => e4 ⟨x, y⟩)
      · exact Or.inl (by simpa using x)
    cases hd : dn.lookup (a, b, c) with
    | some r =>
      refine (ite_hit hM a b c r (by simpa using e) (by simpa using e2) (by simpa using e3) e4' hd).mono fun e' w' ⟨h1, h2, h3⟩ => ?_
      subst h1
      exact ItePost.idle (d.hit g (mem_of_lookup hd) ta tb' tc) h2 d h3
    | none =>
      have a0 : 0 ≤ a := by have := ha.1; omega
      have ta16 := (g.ord.top_lt ha).2.2 a0
      have hmv : m ≤ min (top ns a) (min (top ns b) (top ns c)) := by omega
      have hp : 2 ^ (16 - min (top ns a) (min (top ns b) (top ns c))).toNat ≤ 2 ^ (16 - m).toNat := pow_mono (by omega)
      refine (ite_rec hM g d a b c _ (by simpa using e) (by simpa using e2) (by simpa using e3) e4' hd ha hb hc rfl (by omega) (by omega) ?_).mono ?_
      · intro w M ns' dn a' b' c' hM g d ha hb hc ta tb' tc hl
        exact ih w M ns' dn a' b' c' _ (by omega) hM g d ha hb hc ta tb' tc hl
      · rintro e' w' ⟨ns', r, es, v', h1, h2, h3, h4, h5, h6⟩
        exact ⟨ns', r, es, v', h1, h2.mono hmv, h3, h4, fun p hp => by have := h5 p hp; omega, h6⟩

end Go.Proofs.Ythhogbligfmpdaa
