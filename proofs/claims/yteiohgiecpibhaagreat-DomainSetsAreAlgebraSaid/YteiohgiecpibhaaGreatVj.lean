/- domain.join. -/
import Derived.Test.YteiohgiecpibhaaGreatVi
import Derived.Test.YteiohgiecpibhaaGreatMV
set_option linter.unusedVariables false
set_option linter.unusedSimpArgs false
set_option maxRecDepth 100000
set_option maxHeartbeats 4000000
namespace Go.Proofs.YteiohgiecpibhaaGreat
open Go.RowKit Go.Sort Fdm

/-- Clone, as a row of one's own. -/
theorem cloneO_any {w : World} {d : Dm} {a : Option Addr} {n c : Nat} (h : DmS w d a n c) (hn : n ≤ 1000000) : Calls Tryz.prog 67 #[.slice a n c] w fun e w' => ∃ v, e = .returned v ∧ DmO w' w.heap.size v d ∧ Below w.heap.size w w' := by
  have hl := h.len
  subst hl
  refine (clone67 (vs := spv d) (spv_len d) (spv_one d) (fun h0 => ?_) hn).mono ?_
  · obtain ⟨g, o, e, k⟩ := h.read (by omega)
    refine ⟨g, o, e, fun j u hu => ?_⟩
    obtain ⟨h1, h2, h3⟩ := spv_get hu
    have := k (j / 2) h1
    by_cases e : j % 2 = 0
    · rw [h2 e]
      have := this.1
      rwa [show o + j / 2 * 2 = o + j from by omega] at this
    · rw [h3 (by omega)]
      have := this.2
      rwa [show o + j / 2 * 2 + 1 = o + j from by omega] at this
  · rintro e w' ⟨v', rfl, o, b⟩
    exact ⟨v', rfl, ⟨o⟩, b⟩
theorem spv_append (a b : Dm) : spv (a ++ b) = spv a ++ spv b := by simp [spv]
/-- An append of a whole domain. -/
theorem wpList_catD {ops : Array Oper} {rest : List Oper} {o : Oper} {a : Act} {Q : Exit → Act → World → Prop} {w : World} (hgd : o.guard = none) (s x : Operand)
    (ho : o.op = .call { callee := .builtin .append, args := #[s, x], argTypes := #[23, 23] })
    (base : Nat) (v : Value) (d e : Dm) (g off n c : Nat) (hs : a.eval s = v) (hx : a.eval x = .slice (some ⟨g, off, none⟩) n c) (hO : DmO w base v d) (he : DmS w e (some ⟨g, off, none⟩) n c) (hn : 0 < n) (hb : base ≤ w.heap.size) (hl : d.length ≤ 1000000) (hl2 : n ≤ 1000000)
    (h : ∀ v' w', DmO w' base v' (d ++ e) → w.grownBy w' v.ownBlock → wpList Tryz.prog ops Q rest (a.put o.dst v') w') : wpList Tryz.prog ops Q (o :: rest) a w := by
  obtain ⟨i0, hi0, hz0, hz1, hz2⟩ := info_parts info63
  have hlen := he.len
  refine wpList_append_op hgd s x 23 ho base 63 i0 _ 2 16 Tryz.underlying23 hi0 hz0 hz1 hz2 rfl (by omega) (fun _ _ => trivial) v d.length (spv d) hs hO.op ⟨g, off, none⟩ n c (spv e) hx (by rw [spv_len, hlen]) ?_ (spv_one e) (fun _ _ => trivial) (by unfold maxLen; omega) (by omega) hb ?_
  · intro j u hu
    obtain ⟨g', o', q, k⟩ := he.read hn
    injection q with q
    injection q with q1 q2
    subst q1 q2
    obtain ⟨h1, h2, h3⟩ := spv_get hu
    have := k (j / 2) (by omega)
    rw [add_at]
    by_cases e : j % 2 = 0
    · rw [h2 e]
      have := this.1
      rwa [show off + j / 2 * 2 = off + j from by omega] at this
    · rw [h3 (by omega)]
      have := this.2
      rwa [show off + j / 2 * 2 + 1 = off + j from by omega] at this
  · intro v' w' h1 h2 _
    exact h v' w' ⟨by rw [spv_append, List.length_append, hlen]; exact h1⟩ h2
/-- Spans with bounds. -/
theorem lift_b : ∀ (l : Dm), (∀ s ∈ l, -16384 ≤ s.1 ∧ s.1 ≤ 16384) → ∃ L : List BSp, L.map (·.1) = l
  | [], _ => ⟨[], rfl⟩
  | s :: l, h => by
    obtain ⟨L, hL⟩ := lift_b l fun x hx => h x (by simp [hx])
    exact ⟨⟨s, h s (by simp)⟩ :: L, by simp [hL]⟩
theorem holds_of {w : World} {base cap n : Nat} {g : Nat} {l : Dm} {L : List BSp} (h : DmO w base (.slice (some ⟨g, 0, none⟩) n cap) l) (hL : L.map (·.1) = l) : HoldsK encS 2 w g 0 L.toArray := by
  have hl : L.length = l.length := by rw [← hL, List.length_map]
  have o := h.own
  have hn : n = l.length := by
    rcases o.2 with ⟨q, h0⟩ | ⟨g', c', cur, q, _⟩
    · cases q
    · injection q
  subst hn
  intro j hj
  rw [size_flatK] at hj
  have hj' : j < l.length * 2 := by simp at hj; omega
  refine ⟨?_, by rw [Nat.zero_add]; exact o.frozenAt j⟩
  rw [Nat.zero_add, o.cellAt j hj', get_flatK _ _ _ _ hj]
  have q := spv_at l (j / 2) (by omega)
  have e : L.toArray[j / 2]! = L[j / 2]'(by omega) := by rw [getElem!_pos L.toArray (j / 2) (by simp; omega)]; simp
  have e2 : sp l (j / 2) = (L[j / 2]'(by omega)).1 := by
    have z : sp l (j / 2) = sp (L.map (·.1)) (j / 2) := by rw [hL]
    rw [z]; unfold sp; rw [List.getD_eq_getElem?_getD, List.getElem?_map, List.getElem?_eq_getElem (by omega)]; rfl
  rw [e]
  rw [e2] at q
  by_cases z : j % 2 = 0
  · rw [z]
    have := q.1
    rw [show j / 2 * 2 = j from by omega] at this
    rw [this]; rfl
  · have z1 : j % 2 = 1 := by omega
    rw [z1]
    have := q.2
    rw [show j / 2 * 2 + 1 = j from by omega] at this
    rw [this]; rfl
/-- The spans behind the sort. -/
structure SrP (w : World) (g n : Nat) (a b l : Dm) : Prop where
  len : l.length = n
  perm : l.Perm (a ++ b)
  srt : List.Pairwise (fun x y : Sp => x.1 ≤ y.1) l
  at_ : ∀ i, i < n → w.cell? ⟨g, i * 2, none⟩ = some (.int .i64 (sp l i).1) ∧ w.cell? ⟨g, i * 2 + 1, none⟩ = some (.int .i64 (sp l i).2)
theorem srP_of {w : World} {g : Nat} {a b : Dm} {L : List BSp} {d' : Array BSp} (hL : L.map (·.1) = a ++ b) (hp : PermIn 0 L.toArray.size L.toArray d') (hs : SortedIn (ltOf cfS) 0 L.toArray.size d') (hh : HoldsK encS 2 w g 0 d') : ∃ l, SrP w g (a ++ b).length a b l := by
  obtain ⟨p1, p2, p3⟩ := hp
  have hsz : d'.size = L.length := by rw [p1]; simp
  have hl : L.length = (a ++ b).length := by rw [← hL, List.length_map]
  have pm : d'.toList.Perm L := by
    have e1 : d'.extract 0 L.toArray.size = d' := by rw [← p1]; simp
    have e2 : L.toArray.extract 0 L.toArray.size = L.toArray := by simp
    rw [e1, e2] at p3; simpa using p3
  have getI : ∀ i, (h : i < d'.size) → d'[i]! = d'[i] := fun i h => getElem!_pos d' i h
  refine ⟨d'.toList.map (·.1), by rw [List.length_map, Array.length_toList, hsz, hl], by rw [← hL]; exact pm.map _, ?_, fun i hi => ?_⟩
  · rw [List.pairwise_map, List.pairwise_iff_getElem]
    intro i j h1 h2 hij
    have h1' : i < d'.size := by simpa using h1
    have h2' : j < d'.size := by simpa using h2
    have := hs i j (Nat.zero_le _) hij (by simpa [hsz] using h2')
    rw [ltS, getI i h1', getI j h2'] at this
    simp at this
    simpa using this
  · have hi' : i < d'.size := by rw [hsz, hl]; exact hi
    have c0 := (hh.cell (i := i) (c := 0) hi' (by omega)).1
    have c1 := (hh.cell (i := i) (c := 1) hi' (by omega)).1
    rw [getI i hi'] at c0 c1
    have e : sp (d'.toList.map (·.1)) i = (d'[i]).1 := by
      unfold sp; rw [List.getD_eq_getElem?_getD, List.getElem?_map, List.getElem?_eq_getElem (by simpa using hi')]; simp
    rw [e]
    exact ⟨by simpa [encS] using c0, by simpa [encS] using c1⟩
end Go.Proofs.YteiohgiecpibhaaGreat
