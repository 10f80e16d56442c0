/- The manager's state; its methods not, and, or, xor; a new manager. -/
import Derived.Test.YthhogbligfmpdaaWd
import Derived.Test.YthhogbligfmpdaaPa
set_option linter.unusedVariables false
set_option linter.unusedSimpArgs false
namespace Go.Proofs.Ythhogbligfmpdaa
open Go.RowKit Bd

structure St (w : World) (M : ML) (ns : List Nd) (dn : List (Nd × Int)) : Prop where
  mgr : Mgr w M ns dn
  good : Bd.Good ns
  don : DoneOk ns dn

/-- What an operation that yields the reference of a function comes to. -/
def RPost (w : World) (M : ML) (ns : List Nd) (f : Nat → Bool) (grow : Nat) (e : Ending) (w' : World) : Prop :=
  ∃ ns' r dn' v', e = .returned (.int .i64 r) ∧ (∃ ms, ns' = ns ++ ms ∧ ms.length ≤ grow) ∧ Ref ns' r ∧ Tab ns' r f ∧ St w' { M with v := v' } ns' dn' ∧ Step w M w' { M with v := v' }

theorem RPost.congr {w : World} {M : ML} {ns : List Nd} {f g : Nat → Bool} {k : Nat} {e : Ending} {w' : World} (h : RPost w M ns f k e w') (hf : ∀ x, x < 65536 → f x = g x) : RPost w M ns g k e w' := by
  obtain ⟨ns', r, dn', v', h1, h2, h3, h4, h5, h6⟩ := h
  exact ⟨ns', r, dn', v', h1, h2, h3, h4.congr hf, h5, h6⟩

theorem St.of_step {w w' : World} {M : ML} {ns : List Nd} {dn : List (Nd × Int)} (h : St w M ns dn) (hb : ∀ k, M.foot k → w'.heap[k]? = w.heap[k]?) : St w' M ns dn := ⟨h.mgr.of_blocks hb, h.good, h.don⟩
theorem St.alloc {w : World} {M : ML} {ns : List Nd} {dn : List (Nd × Int)} (h : St w M ns dn) (o : Obj) : St (w.alloc o) M ns dn := ⟨h.mgr.alloc o, h.good, h.don⟩

theorem ite_tab {w : World} {M : ML} {ns : List Nd} {dn : List (Nd × Int)} (h : St w M ns dn) {a b c : Int} {f g k : Nat → Bool} (ha : Ref ns a) (hb : Ref ns b) (hc : Ref ns c) (ta : Tab ns a f) (tb' : Tab ns b g) (tc : Tab ns c k) (hl : ns.length + 65536 ≤ 1000000000000) :
    Calls Try.prog 81 #[.pointer (some ⟨M.b, 0, none⟩), .int .i64 a, .int .i64 b, .int .i64 c] w (RPost w M ns (fun x => if f x then g x else k x) 65536) := by
  have p16 : (2 : Nat) ^ ((16 : Int) - 0).toNat = 65536 := by decide
  refine (ite_any 16 w M ns dn a b c 0 (by omega) h.mgr h.good h.don ha hb hc (h.good.ord.top_lt ha).1 (h.good.ord.top_lt hb).1 (h.good.ord.top_lt hc).1 (by rw [p16]; exact hl)).mono ?_
  rintro e w' ⟨ns', r, es, v', h1, h2, h3, h4, _, h6⟩
  obtain ⟨ms, em, lm⟩ := h2.ext
  rw [p16] at lm
  exact ⟨ns', r, dn ++ es, v', h1, ⟨ms, em, by omega⟩, h2.ref, Tab.ite ta tb' tc h2, ⟨h3, h2.good, h4⟩, h6⟩

theorem ref_false (ns : List Nd) : Ref ns (-1) := ⟨by omega, by omega⟩
theorem ref_true (ns : List Nd) : Ref ns (-2) := ⟨by omega, by omega⟩

set_option maxRecDepth 100000 in
set_option maxHeartbeats 400000 in
theorem not_any {w : World} {M : ML} {ns : List Nd} {dn : List (Nd × Int)} (h : St w M ns dn) {a : Int} {f : Nat → Bool} (ha : Ref ns a) (ta : Tab ns a f) (hl : ns.length + 65536 ≤ 1000000000000) :
    Calls Try.prog 56 #[.pointer (some ⟨M.b, 0, none⟩), .int .i64 a] w (RPost w M ns (fun x => !f x) 65536) := by
  have C := Lib.hid (ite_tab h ha (ref_false ns) (ref_true ns) ta (tab_false ns) (tab_true ns) hl)
  clear h ta
  go_enter Try.func56, Try.ntmps56
  go_wp2_with fail
  refine C.out.mono ?_
  intro e w' hp
  have HP := Lib.hid hp; clear hp
  obtain ⟨ns', r, dn', v', rfl, h2⟩ := HP.out
  have H2 := Lib.hid h2; clear h2
  go_wp2_with fail
  go_ret
  exact RPost.congr (f := fun x => if f x then false else true) ⟨ns', r, dn', v', rfl, H2.out⟩ (fun x _ => by cases f x <;> rfl)

set_option maxRecDepth 100000 in
set_option maxHeartbeats 400000 in
theorem and_any {w : World} {M : ML} {ns : List Nd} {dn : List (Nd × Int)} (h : St w M ns dn) {a b : Int} {f g : Nat → Bool} (ha : Ref ns a) (hb : Ref ns b) (ta : Tab ns a f) (tb' : Tab ns b g) (hl : ns.length + 65536 ≤ 1000000000000) :
    Calls Try.prog 52 #[.pointer (some ⟨M.b, 0, none⟩), .int .i64 a, .int .i64 b] w (RPost w M ns (fun x => f x && g x) 65536) := by
  have C := Lib.hid (ite_tab h ha hb (ref_false ns) ta tb' (tab_false ns) hl)
  clear h ta tb'
  go_enter Try.func52, Try.ntmps52
  go_wp2_with fail
  refine C.out.mono ?_
  intro e w' hp
  have HP := Lib.hid hp; clear hp
  obtain ⟨ns', r, dn', v', rfl, h2⟩ := HP.out
  have H2 := Lib.hid h2; clear h2
  go_wp2_with fail
  go_ret
  exact RPost.congr (f := fun x => if f x then g x else false) ⟨ns', r, dn', v', rfl, H2.out⟩ (fun x _ => by cases f x <;> rfl)

set_option maxRecDepth 100000 in
set_option maxHeartbeats 400000 in
theorem or_any {w : World} {M : ML} {ns : List Nd} {dn : List (Nd × Int)} (h : St w M ns dn) {a b : Int} {f g : Nat → Bool} (ha : Ref ns a) (hb : Ref ns b) (ta : Tab ns a f) (tb' : Tab ns b g) (hl : ns.length + 65536 ≤ 1000000000000) :
    Calls Try.prog 53 #[.pointer (some ⟨M.b, 0, none⟩), .int .i64 a, .int .i64 b] w (RPost w M ns (fun x => f x || g x) 65536) := by
  have C := Lib.hid (ite_tab h ha (ref_true ns) hb ta (tab_true ns) tb' hl)
  clear h ta tb'
  go_enter Try.func53, Try.ntmps53
  go_wp2_with fail
  refine C.out.mono ?_
  intro e w' hp
  have HP := Lib.hid hp; clear hp
  obtain ⟨ns', r, dn', v', rfl, h2⟩ := HP.out
  have H2 := Lib.hid h2; clear h2
  go_wp2_with fail
  go_ret
  exact RPost.congr (f := fun x => if f x then true else g x) ⟨ns', r, dn', v', rfl, H2.out⟩ (fun x _ => by cases f x <;> rfl)

set_option maxRecDepth 100000 in
set_option maxHeartbeats 400000 in
theorem xor_any {w : World} {M : ML} {ns : List Nd} {dn : List (Nd × Int)} (h : St w M ns dn) {a b : Int} {f g : Nat → Bool} (ha : Ref ns a) (hb : Ref ns b) (ta : Tab ns a f) (tb' : Tab ns b g) (hl : ns.length + 131072 ≤ 1000000000000) :
    Calls Try.prog 54 #[.pointer (some ⟨M.b, 0, none⟩), .int .i64 a, .int .i64 b] w (RPost w M ns (fun x => f x != g x) 131072) := by
  have C := Lib.hid (not_any h hb tb' (by omega))
  have HO := Lib.hid h.good.ord
  have TA := Lib.hid ta
  have TB := Lib.hid tb'
  clear h ta tb'
  go_enter Try.func54, Try.ntmps54
  go_wp2_with fail
  refine C.out.mono ?_
  rintro e w1 ⟨ns1, r1, dn1, v1, rfl, ⟨ms, em, lm⟩, rr, rt, st, sp⟩
  have EM := Lib.hid em; clear em
  have RT := Lib.hid rt; clear rt
  have SP := Lib.hid sp; clear sp
  have C2 := Lib.hid (ite_tab st (by rw [EM.out]; exact ha.app _) rr (by rw [EM.out]; exact hb.app _) (by rw [EM.out]; exact TA.out.app HO.out ha) RT.out (by rw [EM.out]; exact TB.out.app HO.out hb) (by rw [EM.out, List.length_append]; omega))
  have STH := Lib.hid st; clear st
  go_wp2_with fail
  refine C2.out.mono ?_
  rintro e w2 ⟨ns2, r2, dn2, v2, rfl, ⟨ms2, em2, lm2⟩, rr2, rt2, st2, sp2⟩
  have EM2 := Lib.hid em2; clear em2
  have RT2 := Lib.hid rt2; clear rt2
  have SP2 := Lib.hid sp2; clear sp2
  have ST2 := Lib.hid st2; clear st2
  go_wp2_with fail
  go_ret
  exact ⟨ns2, r2, dn2, v2, rfl, ⟨ms ++ ms2, by rw [EM2.out, EM.out, List.append_assoc], by rw [List.length_append]; omega⟩, rr2, RT2.out.congr (fun x _ => by cases f x <;> cases g x <;> rfl), ST2.out, SP.out.trans SP2.out⟩

/-- What is laid out for a new manager, and that all else is as it was. -/
def NewPost (w : World) (e : Ending) (w' : World) : Prop :=
  ∃ M : ML, e = .returned (.pointer (some ⟨M.b, 0, none⟩)) ∧ St w' M [] [] ∧ Below w.heap.size w w' ∧ (∀ k, M.foot k → w.heap.size ≤ k)

theorem good_nil : Bd.Good [] := ⟨fun i h => by simp at h, fun i h => by simp at h, by simp⟩

theorem new_lies (w : World) : NewPost w (.returned (.pointer (some ⟨w.heap.size + 1 + 1, 0, none⟩))) (((w.alloc (.map #[] 0)).alloc (.map #[] 0)).alloc (.cells #[.slice none 0 0, .map (some w.heap.size), .map (some (w.heap.size + 1))] 103)) := by
  have s1 : (w.alloc (.map #[] 0)).heap.size = w.heap.size + 1 := by simp
  have s2 : ((w.alloc (.map #[] 0)).alloc (.map #[] 0)).heap.size = w.heap.size + 1 + 1 := by simp
  have h0 := heap_alloc_new w (.map #[] 0)
  have h1 := heap_alloc_new (w.alloc (.map #[] 0)) (.map #[] 0)
  have h2 := heap_alloc_new ((w.alloc (.map #[] 0)).alloc (.map #[] 0)) (.cells #[.slice none 0 0, .map (some w.heap.size), .map (some (w.heap.size + 1))] 103)
  rw [s1] at h1
  rw [s2] at h2
  refine ⟨⟨w.heap.size + 1 + 1, w.heap.size, w.heap.size + 1, .slice none 0 0⟩, rfl, ⟨⟨h2, ?_, ?_, ?_, by show w.heap.size ≠ w.heap.size + 1; omega⟩, good_nil, fun p hp => by simp at hp⟩, ?_, ?_⟩
  · exact World.ownsRow_nil _ _ _ _
  · refine ⟨#[], 0, ?_, rfl⟩
    rw [Below.heap_alloc _ _ _ (by rw [s2]; show w.heap.size < _; omega), Below.heap_alloc _ _ _ (by rw [s1]; show w.heap.size < _; omega)]
    exact h0
  · refine ⟨#[], 0, ?_, rfl⟩
    rw [Below.heap_alloc _ _ _ (by rw [s2]; show w.heap.size + 1 < _; omega)]
    exact h1
  · exact (((Below.refl _ _).alloc (Nat.le_refl _) _).alloc (by rw [s1]; omega) _).alloc (by rw [s2]; omega) _
  · rintro k (h | h | h | h)
    · have : k = w.heap.size + 1 + 1 := h
      omega
    · have : k = w.heap.size := h
      omega
    · have : k = w.heap.size + 1 := h
      omega
    · simp [Value.ownBlock] at h

set_option maxRecDepth 100000 in
set_option maxHeartbeats 400000 in
theorem new_any (w : World) : Calls Try.prog 41 #[] w (NewPost w) := by
  have hmm := @run_makeMap Try.prog
  go_enter Try.func41, Try.ntmps41
  go_wp2_with fail
  go_ret
  exact new_lies w

end Go.Proofs.Ythhogbligfmpdaa
