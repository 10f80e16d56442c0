/- matched where the small domains are single numbers. -/
import Derived.Test.YteiohgiecpibhaaGreatMN
import Derived.Test.YteiohgiecpibhaaGreatMG
import Derived.Maps.OwnIn
set_option linter.unusedVariables false
set_option linter.unusedSimpArgs false
namespace Go.Proofs.YteiohgiecpibhaaGreat
open Go.RowKit Go.Shelf Fdm

attribute [local go_sem] Oper.semAt_some

/-- All blocks under k but two stay. -/
structure Bt2 (k s o : Nat) (w w' : World) : Prop where
  os : w'.os = w.os
  tape : w'.tape = w.tape
  output : w'.output = w.output
  size : w.heap.size ≤ w'.heap.size
  block : ∀ b, b < k → b ≠ s → b ≠ o → w'.heap[b]? = w.heap[b]?
def TrPost (w : World) (sm om : Nat) (ol : List (Int × Value)) (v : Int) (i : Nat) (r : Bool) (e : Ending) (w' : World) : Prop :=
  e = .returned (.bool r) ∧ Bt2 w.heap.size sm om w w' ∧ MpI w' om (if r then mpS ol v (.int .i64 (i : Int)) else ol)
theorem Bt2.own {β : Type} {k s o B : Nat} {w0 : World} (hk : k ≤ B) (hk2 : k ≤ w0.heap.size) : OwnFrom (β := β) B (fun _ W => Bt2 k s o w0 W) := fun _ W W' row h hg hr =>
  ⟨hg.os.trans h.os, hg.tape.trans h.tape, hg.output.trans h.output, Nat.le_trans h.size hg.size, fun b hb h1 h2 => (hg.block b (Nat.lt_of_lt_of_le hb (Nat.le_trans hk2 h.size)) fun e => by have := (hr b e.symm).1; omega).trans (h.block b hb h1 h2)⟩
theorem MpI.own {β : Type} {b B : Nat} {l : List (Int × Value)} (hb : b < B) : OwnFrom (β := β) B (fun _ W => MpI W b l) := fun _ W W' row h hg hr =>
  h.of_block (hg.block b h.lt fun e => by have := (hr b e.symm).1; omega)
theorem MpI.cell_none {w : World} {b i : Nat} {l : List (Int × Value)} (h : MpI w b l) : w.cell? ⟨b, i, none⟩ = none := by
  obtain ⟨es, ck, h1, _⟩ := h
  simp [World.cell?, h1]
theorem Bt2.cell {s o g off : Nat} {w w' : World} {x : Value} {ls lo : List (Int × Value)} (h : Bt2 w.heap.size s o w w') (hs : MpI w s ls) (ho : MpI w o lo) (hc : w.cell? ⟨g, off, none⟩ = some x) : w'.cell? ⟨g, off, none⟩ = some x :=
  (cells_same (h.block g (lt_of_cell hc) (by rintro rfl; rw [hs.cell_none] at hc; cases hc) (by rintro rfl; rw [ho.cell_none] at hc; cases hc)) _).trans hc
theorem Bt2.fin {k s o g D : Nat} {w w2 W W5 : World} {ob : Obj} (h : Bt2 k s o w2 W) (hb : Below w.heap.size w w2) (b5 : But g W W5) (hg : w.heap.size ≤ g) (hk : w.heap.size ≤ k) (hD : w.heap.size ≤ D) : Bt2 w.heap.size s o w (W5.putObj D ob) := by
  have gp := grownBy_putObj' W5 D ob
  refine ⟨gp.os.trans (b5.os.trans (h.os.trans hb.os)), gp.tape.trans (b5.tape.trans (h.tape.trans hb.tape)), gp.output.trans (b5.output.trans (h.output.trans hb.output)), Nat.le_trans hb.size (Nat.le_trans h.size (Nat.le_trans b5.size gp.size)), fun b hlt h1 h2 => ?_⟩
  have l2 : b < w2.heap.size := Nat.lt_of_lt_of_le hlt hb.size
  have lW : b < W.heap.size := Nat.lt_of_lt_of_le l2 h.size
  refine (gp.block b (Nat.lt_of_lt_of_le lW b5.size) (fun e => by have := Option.some.inj e; omega)).trans ((b5.block b lW (by omega)).trans ((h.block b (by omega) h1 h2).trans (hb.block b hlt)))
theorem MpI.fin {D b : Nat} {l : List (Int × Value)} {W W5 : World} {g : Nat} {ob : Obj} (h : MpI W b l) (b5 : But g W W5) (hg : b ≠ g) (hD : b ≠ D) : MpI (W5.putObj D ob) b l :=
  h.of_block ((World.putObj_heap_other hD).trans (b5.block b h.lt hg))
set_option maxRecDepth 100000 in
set_option maxHeartbeats 4000000 in
theorem try1_any {w : World} {i n bx bs bu bw bo bt sm om gd od xc b off cap : Nat} {v k0 : Int} {use : Bool} {ol : List (Int × Value)} (hv1 : -4611686018427387904 ≤ v) (hv2 : v ≤ 4611686018427387904)
    (hx : w.cell? ⟨bx, 0, none⟩ = some (.slice (some ⟨gd, od, none⟩) n xc)) (hi : i < n) (hxi : w.cell? ⟨gd, od + i, none⟩ = some (.slice (some ⟨b, off, none⟩) 1 cap)) (hc0 : w.cell? ⟨b, off, none⟩ = some (.int .i64 v)) (hc1 : w.cell? ⟨b, off + 1, none⟩ = some (.int .i64 v))
    (hs : w.cell? ⟨bs, 0, none⟩ = some (.map (some sm))) (hsm : MpI w sm []) (hu : w.cell? ⟨bu, 0, none⟩ = some (.bool use)) (hwi : w.cell? ⟨bw, 0, none⟩ = some (.int .i64 k0)) (ho : w.cell? ⟨bo, 0, none⟩ = some (.map (some om))) (hom : MpI w om ol) (hne : fi v ol = none) (hso : sm ≠ om) :
    Calls Tryz.prog 185 #[.int .i64 (i : Int), .pointer (some ⟨bx, 0, none⟩), .pointer (some ⟨bs, 0, none⟩), .pointer (some ⟨bu, 0, none⟩), .pointer (some ⟨bw, 0, none⟩), .pointer (some ⟨bo, 0, none⟩), .pointer (some ⟨bt, 0, none⟩)] w (TrPost w sm om ol v i (!(use && decide (v = k0)))) := by
  obtain ⟨R, hRr⟩ : ∃ R : Ending → World → Prop, R = TrPost w sm om ol v i (!(use && decide (v = k0))) := ⟨_, rfl⟩
  rw [← hRr]
  have HR := Lib.hid hRr
  obtain ⟨w1, hw1⟩ : ∃ w1, (w.alloc (.cells #[.int .i64 (i : Int)] 3)).alloc (.cells #[.bool false] 4) = w1 := ⟨_, rfl⟩
  obtain ⟨a0, a1, a2, a3⟩ := alloc2 w (.cells #[.int .i64 (i : Int)] 3) (.cells #[.bool false] 4)
  rw [hw1] at a0 a1 a2 a3
  have I0 := Lib.hid a0; have I1 := Lib.hid a1; have B1 := Lib.hid a2; have Z1 := Lib.hid a3
  have up : ∀ {p : Addr} {x : Value}, w.cell? p = some x → w1.cell? p = some x := fun h => cell_later a2 (Nat.le_refl _) h
  have Hs := Lib.hid (up hs); have Hu := Lib.hid (up hu); have Hw := Lib.hid (up hwi); have Ho := Lib.hid (up ho); have H0 := Lib.hid (up hc0); have H1 := Lib.hid (up hc1)
  have Sm := Lib.hid (hsm.below a2); have Om := Lib.hid (hom.below a2); have NE := Lib.hid hne; have SO := Lib.hid hso; have V1 := Lib.hid hv1; have V2 := Lib.hid hv2
  have x0 := up hx; have x1 := up hxi
  have t7 : w1.cell? ⟨w.heap.size, 0, none⟩ = some (.int .i64 (i : Int)) := by rw [cell_of_row _ _ _ _ _ _ a0]; rfl
  have LTs := Lib.hid hsm.lt; have LTo := Lib.hid hom.lt
  have hin : (i : Int) < (n : Int) := by omega
  clear hs hu hwi ho hc0 hc1 hsm hom hne hso hv1 hv2 hx hxi up a0 a1 a2 a3 hRr
  refine callsIn_wide.1 (callsIn_of_wp_marks (F := Fence.wide) (n := 5) Tryz.func185 rfl trivial ?_ rfl)
  simp only [Tryz.ntmps185, List.size_toArray, List.length_cons, List.length_nil, Nat.reduceAdd, Nat.reduceSub, Array.replicate_succ, Array.replicate_zero, List.push_toArray, List.append_toArray, List.nil_append, List.cons_append]
  have DV := Lib.hid (fun (a : Option Addr) (len cap : Nat) (w : World) => dvalues_in Fence.wide 4 trivial rfl a len cap w)
  gi_wp2
  refine ⟨trivial, (DV.out _ _ _ _).mono ?_⟩
  rintro e w2 ⟨rfl, rfl⟩
  gi_wp2
  obtain ⟨w2, hw2⟩ : ∃ w2, w1.alloc (.cells #[.slice (some ⟨b, off, none⟩) 1 cap] 23) = w2 := ⟨_, rfl⟩
  have q23 := heap_alloc_new w1 (.cells #[.slice (some ⟨b, off, none⟩) 1 cap] 23)
  have B12 : Below w1.heap.size w1 w2 := by rw [← hw2]; exact below_new _ _
  rw [hw2] at q23
  have cB : w2.cell? ⟨w1.heap.size, 0, none⟩ = some (.slice (some ⟨b, off, none⟩) 1 cap) := by rw [cell_of_row _ _ _ _ _ _ q23]; rfl
  have Z2 : Hid (w2.heap.size = w1.heap.size + 1) := Lib.hid (by rw [← hw2]; simp)
  rw [hw2]
  clear hw2
  obtain ⟨sk, hsk⟩ : ∃ sk, (use && decide (v = k0)) = sk := ⟨_, rfl⟩
  refine wpIn_rangeFunc_ownG (n := 5) (F := Fence.wide) rfl (by omega) (gf := 184) (lb := #[.pointer (some ⟨w1.heap.size, 0, none⟩)]) rfl trivial (enters_of Tryz.func184 (by kernel_rfl) rfl)
    (dvaluesU_stops Fence.wide 4 trivial rfl (by omega) w1.heap.size b off cap v V1.out V2.out w2 cB (cell_later B12 (Nat.le_refl _) H0.out) (cell_later B12 (Nat.le_refl _) H1.out)) (fun h k => h.trans k) (fun W l o o' _ hl ho _ => K63.put W l o o' hl ho) (Below.refl _ _) (fun _ => rfl)
    (fun pre W => (sk = false → pre = []) ∧ Bt2 w2.heap.size sm om w2 W ∧ MpI W sm [] ∧ MpI W om ol)
    (fun c _ W => c = .ret ∧ sk = false ∧ Bt2 w.heap.size sm om w2 W ∧ MpI W om (mpS ol v (.int .i64 (i : Int))) ∧ W.heap[w.heap.size + 1]? = some (.cells #[.bool true] 4 (0, 0)))
    ?own1 ?own2 ?start (fun _ => { tmps := #[.int .i64 (i : Int), .pointer (some ⟨bx, 0, none⟩), .pointer (some ⟨bs, 0, none⟩), .pointer (some ⟨bu, 0, none⟩), .pointer (some ⟨bw, 0, none⟩), .pointer (some ⟨bo, 0, none⟩), .pointer (some ⟨bt, 0, none⟩), .pointer (some ⟨w.heap.size, 0, none⟩), .pointer (some ⟨w.heap.size + 1, 0, none⟩), .int .i64 v, undef, undef, .slice (some ⟨gd, od, none⟩) n xc, .int .i64 (i : Int), .pointer (some ⟨gd, od + i, none⟩), .slice (some ⟨b, off, none⟩) 1 cap, .func (.func 184) #[] #[.pointer (some ⟨w1.heap.size, 0, none⟩)], .int .i64 v, undef, undef, undef, undef, undef, undef, undef, undef, undef, undef, undef, undef, undef, undef, undef, undef, undef, undef, undef, undef, undef, undef, undef, undef, undef, undef, undef, undef, undef], defers := [] }) ?assign ?body ?done ?stop
  case own1 =>
    rintro pre W W' row ⟨h1, h2, h3, h4⟩ hg hr
    exact ⟨h1, Bt2.own (Nat.le_refl _) (Nat.le_refl _) pre W W' row h2 hg hr, MpI.own (by have := LTs.out; have := B1.out.size; have := Z2.out; omega) pre W W' row h3 hg hr, MpI.own (by have := LTo.out; have := B1.out.size; have := Z2.out; omega) pre W W' row h4 hg hr⟩
  case own2 =>
    rintro c pre W W' row ⟨h1, h2, h3, h4, h5⟩ hg hr
    refine ⟨h1, h2, Bt2.own (by have := B1.out.size; have := Z2.out; omega) (by have := B1.out.size; have := Z2.out; omega) pre W W' row h3 hg hr, MpI.own (by have := LTo.out; have := B1.out.size; have := Z2.out; omega) pre W W' row h4 hg hr, (hg.block _ (Array.getElem?_eq_some_iff.1 h5).1 fun e => ?_).trans h5⟩
    have := (hr _ e.symm).1; have := Z1.out; have := Z2.out; omega
  case start => exact ⟨fun _ => rfl, ⟨rfl, rfl, rfl, Nat.le_refl _, fun _ _ _ _ => rfl⟩, Sm.out.below B12, Om.out.below B12⟩
  case assign =>
    intro l x W K hK
    gi_wp2
    exact hK
  case body =>
    rintro l pre x W ⟨hp, hB, hm, ho⟩ hlt
    have sm2 := Sm.out.below B12
    have om2 := Om.out.below B12
    have up : ∀ {g o : Nat} {y : Value}, w1.cell? ⟨g, o, none⟩ = some y → W.cell? ⟨g, o, none⟩ = some y := fun h => hB.cell sm2 om2 (cell_later B12 (Nat.le_refl _) h)
    have y1 := up Hs.out; have y2 := up Hu.out; have y3 := up Hw.out; have y4 := up Ho.out; have y5 := up t7
    have lk := hm.looksb v
    have e0 : fi v [] = none := rfl
    rw [e0] at lk
    replace lk : (Instr.lookup 128 (.map (some sm)) (.int .i64 v) false).run Tryz.prog W = .ok (.bool false) W := lk
    by_cases hk : use = true ∧ v = k0
    · obtain ⟨rfl, hvk⟩ := hk
      subst hvk
      have skt : sk = true := by rw [← hsk]; simp
      gi_wp2
      exact ⟨KeepsFrom.refl _ _, fun _ _ => rfl, hB, hm, ho⟩
    · have skf : sk = false := by rw [← hsk]; cases use with | false => rfl | true => simp; exact fun e => hk ⟨rfl, e⟩
      obtain ⟨o4, run4, m4⟩ := hm.storeb v (.bool true)
      obtain ⟨W4, hW4⟩ : ∃ W4, ChangeMaps.setBlock W sm o4 = W4 := ⟨_, rfl⟩
      have K4 : But sm W W4 := by rw [← hW4]; exact But.of_setBlock _ _ _
      rw [hW4] at run4 m4
      have ho4 : MpI W4 om ol := ho.of_block (K4.block om ho.lt (Ne.symm SO.out))
      have lo4 := ho4.looki v
      rw [NE.out] at lo4
      replace lo4 : (Instr.lookup 145 (.map (some om)) (.int .i64 v) true).run Tryz.prog W4 = .ok (.tuple #[.int .i64 0, .bool false]) W4 := lo4
      obtain ⟨o7, run7, m7⟩ := ho4.storei v (.int .i64 (i : Int))
      obtain ⟨W7, hW7⟩ : ∃ W7, ChangeMaps.setBlock W4 om o7 = W7 := ⟨_, rfl⟩
      have K7 : But om W4 W7 := by rw [← hW7]; exact But.of_setBlock _ _ _
      rw [hW7] at run7 m7
      have up4 : ∀ {g o : Nat} {y : Value}, W.cell? ⟨g, o, none⟩ = some y → W4.cell? ⟨g, o, none⟩ = some y := fun h => (cells_same (K4.block _ (lt_of_cell h) (by rintro rfl; rw [hm.cell_none] at h; cases h)) _).trans h
      have z4 := up4 y4; have z5 := up4 y5
      have r2 : w2.heap[w.heap.size + 1]? = some (.cells #[.bool false] 4 (0, 0)) := (B12.block _ (by have := Z1.out; omega)).trans I1.out
      have rW : W.heap[w.heap.size + 1]? = some (.cells #[.bool false] 4 (0, 0)) := (hB.block _ (by have := Z1.out; have := Z2.out; omega) (by have := LTs.out; omega) (by have := LTo.out; omega)).trans r2
      have r4 : W4.heap[w.heap.size + 1]? = some (.cells #[.bool false] 4 (0, 0)) := (K4.block _ (Array.getElem?_eq_some_iff.1 rW).1 (by have := LTs.out; omega)).trans rW
      have r7 : W7.heap[w.heap.size + 1]? = some (.cells #[.bool false] 4 (0, 0)) := (K7.block _ (Array.getElem?_eq_some_iff.1 r4).1 (by have := LTo.out; omega)).trans r4
      have c8 : W7.cell? ⟨w.heap.size + 1, 0, none⟩ = some (.bool false) := by rw [cell_of_row _ _ _ _ _ _ r7]; rfl
      have fz8 : W7.frozen? ⟨w.heap.size + 1, 0, none⟩ = false := by simp [World.frozen?, r7]
      obtain ⟨W8, hW8⟩ : ∃ W8, W7.setCell ⟨w.heap.size + 1, 0, none⟩ (.bool true) = W8 := ⟨_, rfl⟩
      have r8 : W8.heap[w.heap.size + 1]? = some (.cells #[.bool true] 4 (0, 0)) := by rw [← hW8]; simp [World.setCell, Array.getElem?_modify, r7]
      have K8 : But (w.heap.size + 1) W7 W8 := by rw [← hW8]; exact But.setCell _ _ _ _
      have FIN : Hid (KeepsFrom w2.heap.size W W8 ∧ Bt2 w.heap.size sm om w2 W8 ∧ MpI W8 om (mpS ol v (.int .i64 (i : Int))) ∧ W8.heap[w.heap.size + 1]? = some (.cells #[.bool true] 4 (0, 0))) := by
        have s1 := Z1.out; have s2 := Z2.out; have l1 := LTs.out; have l2 := LTo.out
        refine ⟨⟨Nat.le_trans K4.size (Nat.le_trans K7.size K8.size), fun k o hB hk ho => ?_⟩, ⟨K8.os.trans (K7.os.trans (K4.os.trans hB.os)), K8.tape.trans (K7.tape.trans (K4.tape.trans hB.tape)), K8.output.trans (K7.output.trans (K4.output.trans hB.output)), Nat.le_trans hB.size (Nat.le_trans K4.size (Nat.le_trans K7.size K8.size)), fun b hb h1 h2 => ?_⟩, m7.of_block (K8.block om m7.lt (by omega)), r8⟩
        · have h0 := (Array.getElem?_eq_some_iff.1 hk).1
          exact (K8.block k (Nat.lt_of_lt_of_le h0 (Nat.le_trans K4.size K7.size)) (by omega)).trans ((K7.block k (Nat.lt_of_lt_of_le h0 K4.size) (by omega)).trans ((K4.block k h0 (by omega)).trans hk))
        · have h0 : b < W.heap.size := by have := hB.size; omega
          exact (K8.block b (Nat.lt_of_lt_of_le h0 (Nat.le_trans K4.size K7.size)) (by omega)).trans ((K7.block b (Nat.lt_of_lt_of_le h0 K4.size) h2).trans ((K4.block b h0 h1).trans (hB.block b (by omega) h1 h2)))
      have SKF := Lib.hid skf
      clear m4 ho4 K4 K7 K8 up4 r2 rW r4 r7 r8 m7 hm hB ho skf hW4 hW7 hp
      cases use with
      | false =>
        clear hk
        gi_wp2
        refine ⟨fun f e => by (cases e), ?_⟩
        gi_wp2
        exact ⟨FIN.out.1, rfl, SKF.out, FIN.out.2⟩
      | true =>
        have hvk : ¬ v = k0 := fun e => hk ⟨rfl, e⟩
        clear hk
        gi_wp2
        refine ⟨fun f e => by (cases e), ?_⟩
        gi_wp2
        exact ⟨FIN.out.1, rfl, SKF.out, FIN.out.2⟩
  case done =>
    rintro D xs W hD rfl ⟨h1, h2, h3, h4⟩ hK
    have skt : sk = true := by cases sk with | true => rfl | false => exact absurd (h1 rfl) (by simp)
    have r2 : w2.heap[w.heap.size + 1]? = some (.cells #[.bool false] 4 (0, 0)) := (B12.block _ (by have := Z1.out; omega)).trans I1.out
    have rW : W.heap[w.heap.size + 1]? = some (.cells #[.bool false] 4 (0, 0)) := (h2.block _ (by have := Z1.out; have := Z2.out; omega) (by have := LTs.out; omega) (by have := LTo.out; omega)).trans r2
    have c8 : W.cell? ⟨w.heap.size + 1, 0, none⟩ = some (.bool false) := by rw [cell_of_row _ _ _ _ _ _ rW]; rfl
    have fz8 : W.frozen? ⟨w.heap.size + 1, 0, none⟩ = false := by simp [World.frozen?, rW]
    obtain ⟨W5, hW5⟩ : ∃ W5, W.setCell ⟨w.heap.size + 1, 0, none⟩ (.bool false) = W5 := ⟨_, rfl⟩
    have r5 : W5.heap[w.heap.size + 1]? = some (.cells #[.bool false] 4 (0, 0)) := by rw [← hW5]; simp [World.setCell, Array.getElem?_modify, rW]
    have b5 : But (w.heap.size + 1) W W5 := by rw [← hW5]; exact But.setCell _ _ _ _
    have D5 : W5.heap[D]? = some (.deferred (some [])) := (b5.block D (Array.getElem?_eq_some_iff.1 hK).1 (by have := Z1.out; have := Z2.out; omega)).trans hK
    have HK5 := Lib.hid D5; have R5 := Lib.hid r5; have B5 := Lib.hid b5; have M4 := Lib.hid h4; have H2 := Lib.hid h2
    clear rW r2 r5 b5 D5 hK h1 h2 h3 h4
    gi_wp2
    refine ⟨by simp, .inl ⟨_, _, rfl, run_takeDeferred HK5.out, ?_⟩⟩
    have c9 : (W5.putObj D (.deferred none)).cell? ⟨w.heap.size + 1, 0, none⟩ = some (.bool false) := by
      rw [cell_of_row _ _ _ _ _ _ ((World.putObj_heap_other (by have := Z1.out; have := Z2.out; omega)).trans R5.out)]; rfl
    refine ⟨.bool false, by simp [results, Tryz.results185, go_sem, c9], ?_⟩
    rw [HR.out, hsk, skt]
    exact ⟨rfl, H2.out.fin (over B1.out B12) B5.out (by omega) (by have := B1.out.size; have := Z2.out; omega) (by have := B1.out.size; have := Z2.out; omega), M4.out.fin B5.out (by have := LTo.out; omega) (by have := LTo.out; have := B1.out.size; have := Z2.out; omega)⟩
  case stop =>
    rintro D c pre W hD rfl ⟨rfl, h1, h2, h3, h4⟩ hK
    have HK5 := Lib.hid hK; have R5 := Lib.hid h4; have M4 := Lib.hid h3; have H2 := Lib.hid h2
    clear hK h4 h3 h2
    gi_wp2
    refine ⟨by simp, .inl ⟨_, _, rfl, run_takeDeferred HK5.out, ?_⟩⟩
    have c9 : (W.putObj D (.deferred none)).cell? ⟨w.heap.size + 1, 0, none⟩ = some (.bool true) := by
      rw [cell_of_row _ _ _ _ _ _ ((World.putObj_heap_other (by have := Z1.out; have := Z2.out; omega)).trans R5.out)]; rfl
    refine ⟨.bool true, by simp [results, Tryz.results185, go_sem, c9], ?_⟩
    rw [HR.out, hsk, h1]
    exact ⟨rfl, H2.out.fin (over B1.out B12) (But.refl (w.heap.size) W) (Nat.le_refl _) (Nat.le_refl _) (by have := B1.out.size; have := Z2.out; omega), M4.out.fin (But.refl (w.heap.size) W) (by have := LTo.out; omega) (by have := LTo.out; have := B1.out.size; have := Z2.out; omega)⟩
end Go.Proofs.YteiohgiecpibhaaGreat
set_option linter.unusedVariables false
set_option linter.unusedSimpArgs false
set_option maxRecDepth 100000
set_option maxHeartbeats 4000000
namespace Go.Proofs.YteiohgiecpibhaaGreat
open Go.RowKit Fdm

theorem run_storeF {P : Program} {w : World} {a : Addr} {m : Mode} (f : Fn) (x y : Array Value) : (store a (.func f x y) m).run P w = stored P w a (.func f x y) m := run_store P w a _ m rfl
attribute [local go_sem] run_storeF
def vl (D : List Dm) (l : List Int) (k : Nat) : Int := leastF (dm D (l.getD k 0).toNat)
/-- The small ones: numbers of domains that are one number each, no two of them the same. -/
structure Sml (D : List Dm) (l : List Int) (n : Nat) : Prop where
  at_ : ∀ k, k < l.length → l.getD k 0 = (((l.getD k 0).toNat : Nat) : Int) ∧ (l.getD k 0).toNat < n ∧ dm D (l.getD k 0).toNat = [(vl D l k, vl D l k)] ∧ -4611686018427387904 ≤ vl D l k ∧ vl D l k ≤ 4611686018427387904
  ne : ∀ j k, j < k → k < l.length → vl D l j ≠ vl D l k
def okA (D : List Dm) (l : List Int) (but wo : Int) (use : Bool) (k : Nat) : Bool := decide (l.getD k 0 = but) || !(use && decide (vl D l k = wo))
def okM (D : List Dm) (l : List Int) (but wo : Int) (use : Bool) : Bool := (List.range l.length).all (okA D l but wo use)
/-- What the loop keeps. -/
structure Mt (w : World) (a : Option Addr) (n c0 : Nat) (wo : Int) (use : Bool) (ol : List (Int × Value)) (W : World) : Prop where
  bx : W.heap[w.heap.size]? = some (.cells #[.slice a n c0] 28 (0, 0))
  bw : W.heap[w.heap.size + 1]? = some (.cells #[.int .i64 wo] 3 (0, 0))
  bu : W.heap[w.heap.size + 2]? = some (.cells #[.bool use] 4 (0, 0))
  mp : MpI W (w.heap.size + 3) ol
  bo : W.heap[w.heap.size + 4]? = some (.cells #[.map (some (w.heap.size + 3))] 145 (0, 0))
  bl : Below w.heap.size w W
theorem Mt.below {w W W' : World} {a : Option Addr} {n c0 : Nat} {wo : Int} {use : Bool} {ol : List (Int × Value)} (h : Mt w a n c0 wo use ol W) (hb : Below W.heap.size W W') : Mt w a n c0 wo use ol W' :=
  ⟨(hb.block _ (Array.getElem?_eq_some_iff.1 h.bx).1).trans h.bx, (hb.block _ (Array.getElem?_eq_some_iff.1 h.bw).1).trans h.bw, (hb.block _ (Array.getElem?_eq_some_iff.1 h.bu).1).trans h.bu, h.mp.below hb, (hb.block _ (Array.getElem?_eq_some_iff.1 h.bo).1).trans h.bo, over h.bl hb⟩
theorem Mt.bt2 {w W W' : World} {a : Option Addr} {n c0 sm : Nat} {wo : Int} {use : Bool} {ol ol' : List (Int × Value)} (h : Mt w a n c0 wo use ol W) (hb : Bt2 W.heap.size sm (w.heap.size + 3) W W') (hs : w.heap.size + 4 < sm) (hm : MpI W' (w.heap.size + 3) ol') : Mt w a n c0 wo use ol' W' := by
  have s4 := (Array.getElem?_eq_some_iff.1 h.bo).1
  exact ⟨(hb.block _ (by omega) (by omega) (by omega)).trans h.bx, (hb.block _ (by omega) (by omega) (by omega)).trans h.bw, (hb.block _ (by omega) (by omega) (by omega)).trans h.bu, hm, (hb.block _ (by omega) (by omega) (by omega)).trans h.bo, hb.os.trans h.bl.os, hb.tape.trans h.bl.tape, hb.output.trans h.bl.output, Nat.le_trans h.bl.size hb.size, fun b hlt => (hb.block b (by omega) (by omega) (by omega)).trans (h.bl.block b hlt)⟩
theorem mt_new (w : World) (a : Option Addr) (n c0 : Nat) (wo : Int) (use : Bool) : Mt w a n c0 wo use [] (((((w.alloc (.cells #[.slice a n c0] 28)).alloc (.cells #[.int .i64 wo] 3)).alloc (.cells #[.bool use] 4)).alloc (.map #[] 0)).alloc (.cells #[.map (some (w.heap.size + 3))] 145)) := by
  obtain ⟨a0, a1, a2, a3, a4⟩ := alloc3 w (.cells #[.slice a n c0] 28) (.cells #[.int .i64 wo] 3) (.cells #[.bool use] 4)
  obtain ⟨b0, b1, b2, b3⟩ := alloc2 (((w.alloc (.cells #[.slice a n c0] 28)).alloc (.cells #[.int .i64 wo] 3)).alloc (.cells #[.bool use] 4)) (.map #[] 0) (.cells #[.map (some (w.heap.size + 3))] 145)
  rw [a4] at b0 b1
  exact ⟨(b2.block _ (by rw [a4]; omega)).trans a0, (b2.block _ (by rw [a4]; omega)).trans a1, (b2.block _ (by rw [a4]; omega)).trans a2, ⟨_, _, b0, rfl⟩, b1, over a3 b2⟩
theorem matched_any {w : World} {D : List Dm} {l : List Int} {a la : Option Addr} {n c0 ln lc : Nat} {but wo : Int} {use : Bool} (hx : DsA w D a) (hn : D.length = n) (hc : n ≤ c0) (hc2 : c0 ≤ 9223372036854775807) (hl : InA w l la) (hll : l.length = ln) (hl1 : ln ≤ lc) (hl2 : lc ≤ 9223372036854775807) (S : Sml D l n) :
    Calls Tryz.prog 168 #[.slice a n c0, .slice la ln lc, .int .i64 but, .int .i64 wo, .bool use] w fun e w' => e = .returned (.bool (okM D l but wo use)) ∧ Below w.heap.size w w' := by
  obtain ⟨R, hRr⟩ : ∃ R : Ending → World → Prop, R = fun e w' => e = .returned (.bool (okM D l but wo use)) ∧ Below w.heap.size w w' := ⟨_, rfl⟩
  rw [← hRr]
  have HR := Lib.hid hRr
  have HX := Lib.hid hx; have DN := Lib.hid hn; have HL := Lib.hid hl; have LL := Lib.hid hll; have SS := Lib.hid S
  have hmm := @run_makeMap Tryz.prog
  clear hRr hx hn hl hll S
  go_enter Tryz.func168, Tryz.ntmps168
  go_upto_region 2 with fail
  have MT0 := Lib.hid (mt_new w a n c0 wo use)
  obtain ⟨w1, hw1⟩ : ∃ w1, (((((w.alloc (.cells #[.slice a n c0] 28)).alloc (.cells #[.int .i64 wo] 3)).alloc (.cells #[.bool use] 4)).alloc (.map #[] 0)).alloc (.cells #[.map (some (w.heap.size + 1 + 1 + 1))] 145)) = w1 := ⟨_, rfl⟩
  have MT1 : Hid (Mt w a n c0 wo use [] w1) := by show _; rw [← hw1]; exact MT0.out
  rw [hw1]
  clear hw1 MT0
  go_wp2_with fail
  go_loopw [19] (fun v19 wr => ∃ k ol, k ≤ ln ∧ v19 = .int .i64 ((k : Nat) : Int) ∧ Mt w a n c0 wo use ol wr ∧ (∀ j, k ≤ j → j < ln → fi (vl D l j) ol = none) ∧ (∀ j, j < k → okA D l but wo use j = true)) (fun v19 _ => ln - (intOf v19).toNat)
  case atStart => exact ⟨0, [], Nat.zero_le _, rfl, MT1.out, fun _ _ _ => rfl, fun j hj => absurd hj (Nat.not_lt_zero _)⟩
  case round =>
    obtain ⟨k, ol, hk, rfl, hM, hN, hO⟩ := hrel
    by_cases hlt : k < ln
    · obtain ⟨gl, oo, hla, kl⟩ := HL.out (by have := LL.out; intro e; rw [e] at this; simp at this; omega)
      subst hla
      have hk2 : k < l.length := by have := LL.out; omega
      obtain ⟨e1, e2, e3, e4, e5⟩ := SS.out.at_ k hk2
      have c22 := cell_later hM.bl (Nat.le_refl _) (kl k hk2)
      obtain ⟨z, hz⟩ : ∃ z, l.getD k 0 = z := ⟨_, rfl⟩
      obtain ⟨j, hj⟩ : ∃ j, z.toNat = j := ⟨_, rfl⟩
      rw [hz] at e1 e2 e3 c22
      rw [hj] at e1 e2 e3
      subst e1
      have h0 : ((k : Nat) : Int) < (ln : Int) := by omega
      clear kl
      by_cases hbt : ((j : Nat) : Int) = but
      · have OK : Hid (∀ i, i < k + 1 → okA D l but wo use i = true) := fun i hi => by
          by_cases q : i = k
          · subst q; unfold okA; rw [hz]; simp [hbt]
          · exact hO i (by omega)
        have M := Lib.hid hM
        have HN : Hid (∀ i, k + 1 ≤ i → i < ln → fi (vl D l i) ol = none) := fun i h1 h2 => hN i (by omega) h2
        clear hO hM hN hz hj e2 e3 e4 e5
        go_wp2_with fail
        go_roundw
        case measure => simp [intOf]; omega
        case rel => exact ⟨k + 1, ol, by omega, by simp, M.out, HN.out, OK.out⟩
      · have M := Lib.hid hM
        go_upto_region 9 with fail
        obtain ⟨q0, q1, q2, q3, q4⟩ := alloc3 wr (.map #[] 0) (.cells #[.map (some wr.heap.size)] 128) (.cells #[.func (.func 185) #[] #[.pointer (some ⟨w.heap.size, 0, none⟩), .pointer (some ⟨wr.heap.size + 1, 0, none⟩), .pointer (some ⟨w.heap.size + 1 + 1, 0, none⟩), .pointer (some ⟨w.heap.size + 1, 0, none⟩), .pointer (some ⟨w.heap.size + 1 + 1 + 1 + 1, 0, none⟩), .pointer (some ⟨wr.heap.size + 1 + 1, 0, none⟩)]] 66)
        obtain ⟨w4, hw4⟩ : ∃ w4, ((wr.alloc (.map #[] 0)).alloc (.cells #[.map (some wr.heap.size)] 128)).alloc (.cells #[.func (.func 185) #[] #[.pointer (some ⟨w.heap.size, 0, none⟩), .pointer (some ⟨wr.heap.size + 1, 0, none⟩), .pointer (some ⟨w.heap.size + 1 + 1, 0, none⟩), .pointer (some ⟨w.heap.size + 1, 0, none⟩), .pointer (some ⟨w.heap.size + 1 + 1 + 1 + 1, 0, none⟩), .pointer (some ⟨wr.heap.size + 1 + 1, 0, none⟩)]] 66) = w4 := ⟨_, rfl⟩
        rw [hw4] at q0 q1 q2 q3 q4
        rw [hw4]
        clear hw4
        have M4 := Lib.hid (M.out.below q3)
        have q2 : w4.heap[wr.heap.size + 1 + 1]? = some (.cells #[.func (.func 185) #[] #[.pointer (some ⟨w.heap.size, 0, none⟩), .pointer (some ⟨wr.heap.size + 1, 0, none⟩), .pointer (some ⟨w.heap.size + 1 + 1, 0, none⟩), .pointer (some ⟨w.heap.size + 1, 0, none⟩), .pointer (some ⟨w.heap.size + 1 + 1 + 1 + 1, 0, none⟩), .pointer (some ⟨wr.heap.size + 1 + 1, 0, none⟩)]] 66 (0, 0)) := q2
        have t0 : w4.cell? ⟨wr.heap.size + 1 + 1, 0, none⟩ = some (.func (.func 185) #[] #[.pointer (some ⟨w.heap.size, 0, none⟩), .pointer (some ⟨wr.heap.size + 1, 0, none⟩), .pointer (some ⟨w.heap.size + 1 + 1, 0, none⟩), .pointer (some ⟨w.heap.size + 1, 0, none⟩), .pointer (some ⟨w.heap.size + 1 + 1 + 1 + 1, 0, none⟩), .pointer (some ⟨wr.heap.size + 1 + 1, 0, none⟩)]) := by rw [cell_of_row _ _ _ _ _ _ q2]; rfl
        have LT4 : Hid (w.heap.size + 4 < wr.heap.size) := (Array.getElem?_eq_some_iff.1 M.out.bo).1
        have dne : D ≠ [] := by intro e; have := DN.out; rw [e] at this; simp at this; omega
        obtain ⟨gd, od, ea, kd⟩ := HX.out dne
        obtain ⟨u, cu, du⟩ := kd j (by have := DN.out; omega)
        obtain ⟨ua, uc, ue, ul1, ul2, ub⟩ := du.ex
        rw [e3] at ue ub
        obtain ⟨gv, ov, eu, bv, cv⟩ := ub (by simp)
        subst eu
        have ue : u = .slice (some ⟨gv, ov, none⟩) 1 uc := ue
        subst ue
        subst ea
        obtain ⟨v, hv⟩ : ∃ v, vl D l k = v := ⟨_, rfl⟩
        rw [hv] at e3 e4 e5 cv
        have cv0 := (cv 0 (by simp)).1
        have cv1 := (cv 0 (by simp)).2
        have BW : Below w.heap.size w w4 := M4.out.bl
        have TR := try1_any (w := w4) (i := j) (n := n) (bx := w.heap.size) (bs := wr.heap.size + 1) (bu := w.heap.size + 1 + 1) (bw := w.heap.size + 1) (bo := w.heap.size + 1 + 1 + 1 + 1) (bt := wr.heap.size + 1 + 1) (sm := wr.heap.size) (om := w.heap.size + 3) (gd := gd) (od := od) (xc := c0) (b := gv) (off := ov) (cap := uc) (v := v) (k0 := wo) (use := use) (ol := ol) e4 e5
          (by rw [cell_of_row _ _ _ _ _ _ M4.out.bx]; rfl) e2 (cell_later BW (Nat.le_refl _) cu) (cell_later BW (Nat.le_refl _) (by simpa [sp] using cv0)) (cell_later BW (Nat.le_refl _) (by simpa [sp] using cv1))
          (by rw [cell_of_row _ _ _ _ _ _ q1]; rfl) ⟨_, _, q0, rfl⟩ (by rw [cell_of_row w4 (w.heap.size + 1 + 1) 0 _ _ _ M4.out.bu]; rfl) (by rw [cell_of_row _ _ _ _ _ _ M4.out.bw]; rfl) (by rw [cell_of_row w4 (w.heap.size + 1 + 1 + 1 + 1) 0 _ _ _ M4.out.bo]; rfl) M4.out.mp (hv ▸ hN k (Nat.le_refl _) hlt) (by have := LT4.out; omega)
        have okk : okA D l but wo use k = !(use && decide (v = wo)) := by
          unfold okA; rw [hz, hv, decide_eq_false hbt, Bool.false_or]
        have V := Lib.hid hv
        have HO := Lib.hid hO
        have HNN : Hid (∀ i, k + 1 ≤ i → i < ln → fi (vl D l i) (mpS ol v (.int .i64 (j : Int))) = none) := fun i h1 h2 => by
          have e := mpS_fi ol v (.int .i64 (j : Int)) (vl D l i)
          rw [if_neg (by rw [← hv]; exact fun e => SS.out.ne k i (by omega) (by have := LL.out; omega) e.symm), hN i (by omega) h2] at e
          cases q : fi (vl D l i) (mpS ol v (.int .i64 (j : Int))) with
          | none => rfl
          | some x => rw [q] at e; simp at e
        obtain ⟨r, hr⟩ : ∃ r, (!(use && decide (v = wo))) = r := ⟨_, rfl⟩
        rw [hr] at okk TR
        have TRH := Lib.hid TR
        have OKK := Lib.hid okk
        clear TR okk hr hv hO hN hM hz hj e2 e3 e4 e5 cv cv0 cv1 cu kd du ub BW dne q0 q1 q2 q3 q4 c22 ul1 ul2 bv
        cases r with
        | true =>
          go_wp2_with (go_at_call 185; refine TRH.out.mono ?_; rintro e w5 ⟨rfl, hb, hm⟩; have BT := Lib.hid hb; have MM := Lib.hid hm; clear hb hm)
          have M5 : Mt w (some ⟨gd, od, none⟩) n c0 wo use (mpS ol v (.int .i64 (j : Int))) w5 := M4.out.bt2 BT.out LT4.out MM.out
          go_roundw
          case measure => simp [intOf]; omega
          case rel => exact ⟨k + 1, _, by omega, by simp, M5, HNN.out, fun i hi => by
              by_cases q : i = k
              · subst q; exact OKK.out
              · exact HO.out i (by omega)⟩
        | false =>
          have OKM : Hid (okM D l but wo use = false) := by
            show _ = _
            unfold okM
            rw [List.all_eq_false]
            exact ⟨k, List.mem_range.2 (by have := LL.out; omega), by rw [OKK.out]; simp⟩
          go_wp2_with (go_at_call 185; refine TRH.out.mono ?_; rintro e w5 ⟨rfl, hb, hm⟩; have BT := Lib.hid hb; have MM := Lib.hid hm; clear hb hm)
          have M5 : Mt w (some ⟨gd, od, none⟩) n c0 wo use ol w5 := M4.out.bt2 BT.out LT4.out MM.out
          rw [HR.out, OKM.out]
          exact ⟨rfl, M5.bl⟩
    · have h0 : ¬ ((k : Nat) : Int) < (ln : Int) := by omega
      have OK : Hid (okM D l but wo use = true) := by
        show _ = _
        unfold okM
        rw [List.all_eq_true]
        intro j hj
        exact hO j (by have := List.mem_range.1 hj; have := LL.out; omega)
      have M := Lib.hid hM
      clear hO hN hM
      go_wp2_with fail
      rw [HR.out, OK.out]
      exact ⟨rfl, M.out.bl⟩
end Go.Proofs.YteiohgiecpibhaaGreat
