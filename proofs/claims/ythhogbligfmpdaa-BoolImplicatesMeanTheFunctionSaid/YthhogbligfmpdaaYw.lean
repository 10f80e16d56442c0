/- slices.Compare and slices.SortFunc at lists of integers. -/
import Derived.Test.YthhogbligfmpdaaSi
import Derived.Test.YthhogbligfmpdaaYt
set_option linter.unusedVariables false
set_option linter.unusedSimpArgs false
namespace Go.Proofs.Ythhogbligfmpdaa
open Go.RowKit Bd

theorem compare96 (x y : Int) (w : World) : Calls Try.prog 96 #[.int .i64 x, .int .i64 y] w fun e w' => e = .returned (.int .i64 (Lib.compareInt x y)) ∧ w' = w := AnyG.cmp_Compare_int Try.cmpF x y w
theorem compare96' (x y : Int) (w : World) : Calls Try.prog 96 #[.int .i64 x, .int .i64 y] w fun e w' => e = .returned (.int .i64 (Lib.compareInt x y)) ∧ w = w' := (compare96 x y w).mono fun _ _ h => ⟨h.1, h.2.symm⟩

def CpL (l1 l2 : List Int) (n1 n2 : Nat) (iv : Value) : Prop := ∃ k : Nat, k ≤ n1 ∧ k ≤ n2 ∧ iv = .int .i64 k ∧ cmpL l1 l2 = cmpL (l1.drop k) (l2.drop k)

theorem drop_getD {l : List Int} {k : Nat} (h : k < l.length) : l.drop k = l.getD k 0 :: l.drop (k + 1) := by
  rw [List.drop_eq_getElem_cons h, List.getD_eq_getElem?_getD, List.getElem?_eq_getElem h]; rfl

set_option maxRecDepth 100000 in
set_option maxHeartbeats 400000 in
theorem compare_any {w : World} {l1 l2 : List Int} {a1 a2 : Option Addr} {n1 n2 c1 c2 : Nat} (h1 : IAt w l1 a1) (h2 : IAt w l2 a2) (e1 : l1.length = n1) (e2 : l2.length = n2) (m1 : n1 ≤ 9223372036854775807) (m2 : n2 ≤ 9223372036854775807) :
    Calls Try.prog 76 #[.slice a1 n1 c1, .slice a2 n2 c2] w fun e w' => e = .returned (.int .i64 (cmpL l1 l2)) ∧ w = w' := by
  have H1 := Lib.hid h1; clear h1
  have H2 := Lib.hid h2; clear h2
  have E1 := Lib.hid e1; clear e1
  have E2 := Lib.hid e2; clear e2
  go_enter Try.func76, Try.ntmps76
  go_wp2_with fail
  go_loop [11] (fun iv => CpL l1 l2 n1 n2 iv) (fun iv => n1 - (intOf iv).toNat)
  case atStart => exact ⟨0, by omega, by omega, rfl, rfl⟩
  case round =>
    obtain ⟨k, hk1, hk2, rfl, hc⟩ := hrel
    have HC := Lib.hid hc; clear hc
    by_cases hlt : k < n1
    · have i1 : (k : Int) < (n1 : Int) := by omega
      have hl1 : k < l1.length := by rw [E1.out]; exact hlt
      obtain ⟨b1, o1, rfl, d1⟩ := H1.out (by intro e; rw [e] at hl1; simp at hl1)
      have p1 := d1 k hl1
      clear d1
      have D1 := Lib.hid (drop_getD hl1)
      generalize l1.getD k 0 = x at *
      by_cases hg : k < n2
      · have i2 : ¬ ((n2 : Int) ≤ (k : Int)) := by omega
        have i3 : (k : Int) < (n2 : Int) := by omega
        have hl2 : k < l2.length := by rw [E2.out]; exact hg
        obtain ⟨b2, o2, rfl, d2⟩ := H2.out (by intro e; rw [e] at hl2; simp at hl2)
        have p2 := d2 k hl2
        clear d2
        have D2 := Lib.hid (drop_getD hl2)
        generalize l2.getD k 0 = y at *
        have C := Lib.hid (compare96' x y w)
        by_cases q1 : x < y
        · have e3 : Lib.compareInt x y = -1 := by unfold Lib.compareInt; rw [if_pos q1]
          have RS : Hid (cmpL l1 l2 = -1) := by show _ = _; rw [HC.out, D1.out, D2.out]; simp only [cmpL]; rw [if_pos q1]
          rw [e3] at C
          clear e3 q1
          go_wp2_with (go_at_call 96; refine C.out.mono ?_; rintro e w' ⟨rfl, rfl⟩)
          go_ret
          exact ⟨by rw [RS.out]; rfl, rfl⟩
        · by_cases q2 : y < x
          · have e3 : Lib.compareInt x y = 1 := by unfold Lib.compareInt; rw [if_neg q1, if_pos q2]
            have RS : Hid (cmpL l1 l2 = 1) := by show _ = _; rw [HC.out, D1.out, D2.out]; simp only [cmpL]; rw [if_neg q1, if_pos q2]
            rw [e3] at C
            clear e3 q1 q2
            go_wp2_with (go_at_call 96; refine C.out.mono ?_; rintro e w' ⟨rfl, rfl⟩)
            go_ret
            exact ⟨by rw [RS.out]; rfl, rfl⟩
          · have e3 : Lib.compareInt x y = 0 := by unfold Lib.compareInt; rw [if_neg q1, if_neg q2]
            have RS : Hid (cmpL l1 l2 = cmpL (l1.drop (k + 1)) (l2.drop (k + 1))) := by show _ = _; rw [HC.out, D1.out, D2.out]; simp only [cmpL]; rw [if_neg q1, if_neg q2]
            rw [e3] at C
            clear e3 q1 q2
            go_wp2_with (go_at_call 96; refine C.out.mono ?_; rintro e w' ⟨rfl, rfl⟩)
            go_round
            case rel => exact ⟨k + 1, by omega, by omega, by go_num, RS.out⟩
            case measure => simp [intOf]; omega
      · obtain rfl : k = n2 := by omega
        have RS : Hid (cmpL l1 l2 = 1) := by
          show _ = _
          rw [HC.out, D1.out, show l2.drop k = [] from List.drop_of_length_le (by rw [E2.out]; exact Nat.le_refl _)]
          rfl
        go_wp2_with fail
        go_ret
        exact ⟨by rw [RS.out]; rfl, rfl⟩
    · obtain rfl : k = n1 := by omega
      have i1 : ¬ ((k : Int) < (k : Int)) := by omega
      have D1 : Hid (l1.drop k = []) := List.drop_of_length_le (by rw [E1.out]; exact Nat.le_refl _)
      by_cases hg : k < n2
      · have i2 : (k : Int) < (n2 : Int) := by omega
        have RS : Hid (cmpL l1 l2 = -1) := by
          show _ = _
          rw [HC.out, D1.out, drop_getD (by rw [E2.out]; exact hg)]
          rfl
        go_wp2_with fail
        go_ret
        exact ⟨by rw [RS.out]; rfl, rfl⟩
      · obtain rfl : k = n2 := by omega
        have RS : Hid (cmpL l1 l2 = 0) := by
          show _ = _
          rw [HC.out, D1.out, show l2.drop k = [] from List.drop_of_length_le (by rw [E2.out]; exact Nat.le_refl _)]
          rfl
        go_wp2_with fail
        go_ret
        exact ⟨by rw [RS.out]; rfl, rfl⟩

open Go.Sort in
/-- An element: a list, where it lies. -/
structure El (w : World) (blk : Nat) where
  l : List Int
  a : Option Addr
  c : Nat
  ok : l ≠ [] → ∃ g, a = some ⟨g, 0, none⟩ ∧ g ≠ blk ∧ g < w.heap.size ∧ ∀ j, j < l.length → w.cell? ⟨g, j, none⟩ = some (.int .i64 (l.getD j 0))
  len : l.length ≤ 1000000
instance (w : World) (blk : Nat) : Inhabited (El w blk) := ⟨⟨[], none, 0, fun h => absurd rfl h, by simp⟩⟩
def El.enc {w : World} {blk : Nat} (x : El w blk) : Value := .slice x.a x.l.length x.c
def El.cf {w : World} {blk : Nat} (x y : El w blk) : Int := cmpL x.l y.l

section
open Go.Sort
variable {w : World} {blk : Nat}

theorem grown_sortE {n : Nat} {os : Array Obj} (d : Array (El w blk)) : w.grownBy (sortWorld El.enc w blk 0 n d os) (some blk) := by
  refine ⟨rfl, rfl, rfl, by simp [sortWorld], fun k hk hne => ?_⟩
  unfold sortWorld
  rw [heap_grow_old _ _ (by simpa using hk)]
  have : blk ≠ k := fun e => hne (by rw [e])
  simp [putRow, mapBlock, Sort.ahead, Array.getElem?_modify, this]

theorem El.at_ (x : El w blk) {n : Nat} {os : Array Obj} (d : Array (El w blk)) : IAt (sortWorld El.enc w blk 0 n d os) x.l x.a := by
  intro hne
  obtain ⟨g, e, h1, h2, hc⟩ := x.ok hne
  refine ⟨g, 0, e, fun i hi => ?_⟩
  rw [Nat.zero_add]
  exact (World.cell?_of_block (a := ⟨g, i, none⟩) ((grown_sortE d).block g h2 (fun e => by injection e with e; exact h1 e))).trans (hc i hi)

theorem swoE : SWO (ltOf (El.cf (w := w) (blk := blk))) where
  irrefl x := by simp [ltOf, El.cf, cmpL_self]
  trans x y z h k := decide_eq_true (cmpL_trans (of_decide_eq_true h) (of_decide_eq_true k))
  ntrans x y z h k := by
    refine decide_eq_false fun q => ?_
    have h : ¬ cmpL x.l y.l < 0 := of_decide_eq_false h
    have k : ¬ cmpL y.l z.l < 0 := of_decide_eq_false k
    have q : cmpL x.l z.l < 0 := q
    have f1 := cmpL_flip x.l y.l
    by_cases e : cmpL x.l y.l = 0
    · rw [cmpL_zero e] at q; exact k q
    · exact k (cmpL_trans (show cmpL y.l x.l < 0 by omega) q)

theorem cmpE (size : Nat) : CmpLays1 Try.prog 76 #[] (El.enc (w := w) (blk := blk)) El.cf blk 0 size w := by
  intro m os dk hs x y
  have := compare_any (c1 := x.c) (c2 := y.c) (x.at_ (n := m) (os := os) dk) (y.at_ (n := m) (os := os) dk) rfl rfl (by have := x.len; omega) (by have := y.len; omega)
  refine this.mono ?_
  rintro e w' ⟨rfl, rfl⟩
  exact ⟨rfl, 0, #[], by rw [grow_empty]; rfl⟩

/-- What the sort comes to. -/
def SoPost (w : World) (g : Nat) (ls : List (List Int)) (e : Ending) (w' : World) : Prop :=
  e = .returned (.tuple #[]) ∧ ∃ ls', ls'.Perm ls ∧ ls'.Pairwise (fun a b => lbf b a = false) ∧ LAt w' ls' (some ⟨g, 0, none⟩) ∧ w.grownBy w' (some g)

theorem sort_lists {S : Nat → Prop} {g n cap : Nat} {ls : List (List Int)} {vals : List Value} (h : OL S w (.slice (some ⟨g, 0, none⟩) n cap) ls vals) (hl : ls.length ≤ 1000000) (hs : ∀ l ∈ ls, l.length ≤ 1000000) (hn : ls.length = n) :
    Calls Try.prog 75 #[.slice (some ⟨g, 0, none⟩) n cap, .func (.func 76) #[] #[]] w (SoPost w g ls) := by
  subst hn
  have hg : g < w.heap.size := h.lt g (h.rs g rfl)
  have ex : ∀ i, ∃ x : El w g, i < ls.length → x.l = ls.getD i [] ∧ vals[i]? = some x.enc := by
    intro i
    by_cases hi : i < ls.length
    · obtain ⟨a, c, e, k⟩ := h.each i hi
      refine ⟨⟨ls.getD i [], a, c, fun hne => ?_, hs _ (by rw [List.getD_eq_getElem?_getD, List.getElem?_eq_getElem hi]; exact List.getElem_mem hi)⟩, fun _ => ⟨rfl, e⟩⟩
      obtain ⟨g', e1, e2, e3, e4⟩ := k hne
      exact ⟨g', e1, fun e => e3 (by rw [e]; rfl), h.lt g' e2, e4⟩
    · exact ⟨default, fun h => absurd h hi⟩
  obtain ⟨f, hf⟩ := Classical.axiomOfChoice ex
  obtain ⟨d, hd⟩ : ∃ d : Array (El w g), d = ((List.range ls.length).map f).toArray := ⟨_, rfl⟩
  have ds : d.size = ls.length := by rw [hd]; simp
  have dg : ∀ i, i < ls.length → d[i]! = f i := by
    intro i hi
    rw [getElem!_pos d i (by omega)]
    simp [hd]
  have dm : d.toList.map El.l = ls := by
    apply List.ext_getElem
    · simp [ds]
    · intro i h1 h2
      have := (hf i h2).1
      rw [List.getD_eq_getElem?_getD, List.getElem?_eq_getElem h2] at this
      simp only [Option.getD_some] at this
      rw [← this]
      simp [hd]
  have hH : Holds El.enc w g 0 d := by
    intro j hj
    rw [ds] at hj
    rw [Nat.zero_add]
    refine ⟨?_, h.row.frozenAt j⟩
    rw [h.row.cellAt j (by omega), (hf j hj).2, dg j hj]
  have eg : ∀ args w, (callFunc 76 args).run Try.prog w = .ok (.enter 76 args) w := enters_of Try.func76 (by kernel_rfl) rfl
  have C := Any.slices_SortFunc Try.sortF (El.enc (w := w) (blk := g)) (fun _ => rfl) El.cf swoE 76 #[] g 0 cap d w eg (cmpE d.size) hH hg (by omega)
  change Calls Try.prog 75 _ _ _ at C
  rw [ds] at C
  refine C.mono ?_
  rintro e w' ⟨rfl, d', q, os, hp, hst, rfl⟩
  have hs' : d'.size = ls.length := by rw [hp.1, ds]
  refine ⟨rfl, d'.toList.map El.l, ?_, ?_, ?_, grown_sortE d'⟩
  · have := hp.2.2
    rw [show d'.extract 0 ls.length = d' from by rw [← hs']; exact Array.extract_size, show d.extract 0 ls.length = d from by rw [← ds]; exact Array.extract_size] at this
    have := this.map El.l
    rwa [dm] at this
  · rw [List.pairwise_iff_getElem]
    intro i j hi hj hij
    have hj2 : j < ls.length := by simpa [hs'] using hj
    have := hst i j (Nat.zero_le _) hij hj2
    rw [getElem!_pos d' j (by omega), getElem!_pos d' i (by omega)] at this
    have this : ¬ cmpL d'[j].l d'[i].l < 0 := of_decide_eq_false this
    simp only [List.getElem_map, Array.getElem_toList]
    exact decide_eq_false this
  · intro hne
    refine ⟨g, 0, rfl, fun i hi => ?_⟩
    have hi2 : i < d'.size := by simpa using hi
    have sw : SW El.enc w g 0 d' (sortWorld El.enc w g 0 q d' os) := ⟨q, os, rfl⟩
    have hc := (sw.holds hg hH (by rw [hs', ds]) i hi2).1
    have eg2 : (d'.toList.map El.l).getD i [] = d'[i]!.l := by
      rw [List.getD_eq_getElem?_getD, List.getElem?_eq_getElem hi, getElem!_pos d' i hi2]
      simp
    rw [eg2]
    exact ⟨d'[i]!.a, d'[i]!.c, hc, d'[i]!.at_ d'⟩
end

end Go.Proofs.Ythhogbligfmpdaa
