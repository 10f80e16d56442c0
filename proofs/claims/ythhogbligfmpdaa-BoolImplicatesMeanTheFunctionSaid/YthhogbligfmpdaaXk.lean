/- The reference's numbered. -/
import Derived.Test.YthhogbligfmpdaaXe
set_option linter.unusedVariables false
set_option linter.unusedSimpArgs false
namespace Go.Proofs.Ythhogbligfmpdaa
open Go.RowKit Bd

/-- What may turn where a slice of one's own grows: its block; it may move to a new block. -/
structure Gw (w : World) (v : Value) (w' : World) (v' : Value) : Prop where
  os : w'.os = w.os
  tape : w'.tape = w.tape
  output : w'.output = w.output
  size : w.heap.size ≤ w'.heap.size
  keep : ∀ k, k < w.heap.size → v.ownBlock ≠ some k → w'.heap[k]? = w.heap[k]?
  loc : ∀ g, v'.ownBlock = some g → v.ownBlock = some g ∨ w.heap.size ≤ g

theorem Gw.refl (w : World) (v : Value) : Gw w v w v := ⟨rfl, rfl, rfl, Nat.le_refl _, fun _ _ _ => rfl, fun _ h => Or.inl h⟩
theorem Gw.trans {w w1 w2 : World} {v v1 v2 : Value} (h : Gw w v w1 v1) (k : Gw w1 v1 w2 v2) : Gw w v w2 v2 := by
  refine ⟨k.os.trans h.os, k.tape.trans h.tape, k.output.trans h.output, Nat.le_trans h.size k.size, ?_, ?_⟩
  · intro j hj hv
    rw [k.keep j (Nat.lt_of_lt_of_le hj h.size) ?_, h.keep j hj hv]
    intro e
    rcases h.loc j e with e' | e'
    · exact hv e'
    · omega
  · intro g hg
    rcases k.loc g hg with e | e
    · exact h.loc g e
    · exact Or.inr (Nat.le_trans h.size e)
theorem Gw.alloc (w : World) (v : Value) (o : Obj) : Gw w v (w.alloc o) v := ⟨rfl, rfl, rfl, by simp, fun k hk _ => Below.heap_alloc w o k hk, fun _ h => Or.inl h⟩
theorem Gw.drew (w : World) (v : Value) : Gw w v w.drew v := ⟨rfl, rfl, rfl, Nat.le_refl _, fun _ _ _ => rfl, fun _ h => Or.inl h⟩
theorem Gw.below {w0 w w' : World} {v v' : Value} (h : Gw w v w' v') (hb : Below w0.heap.size w0 w) (hv : ∀ g, v.ownBlock = some g → w0.heap.size ≤ g) : Below w0.heap.size w0 w' :=
  ⟨h.os.trans hb.os, h.tape.trans hb.tape, h.output.trans hb.output, Nat.le_trans hb.size h.size, fun k hk => (h.keep k (Nat.lt_of_lt_of_le hk hb.size) (fun e => absurd (hv k e) (by omega))).trans (hb.block k hk)⟩

def NbPost (B : Nat) (w : World) (v : Value) (L : List Int) (e : Ending) (w' : World) : Prop :=
  ∃ a cap, e = .returned (.slice a L.length cap) ∧ w'.ownsRow B 3 1 (.slice a L.length cap) L.length (L.map (Value.int .i64)) ∧ Gw w v w' (.slice a L.length cap)

def NbL (L : List Int) (r : Int) (iv : Value) : Prop := ∃ i : Nat, i ≤ L.length ∧ iv = .int .i64 i ∧ ∀ j : Nat, j < i → L.getD j 0 ≠ r

theorem notin_of {L : List Int} {r : Int} (h : ∀ j : Nat, j < L.length → L.getD j 0 ≠ r) : r ∉ L := by
  intro hm
  obtain ⟨i, hi, e⟩ := List.mem_iff_getElem.1 hm
  refine h i hi ?_
  rw [List.getD_eq_getElem?_getD, List.getElem?_eq_getElem hi]; exact e

/-- The append's outcome. -/
theorem gw_append {w w1 : World} {v v' : Value} {g : Nat} (hg : w.grownBy w1 v.ownBlock) (hv : v'.ownBlock = some g) (hl : v.ownBlock = some g ∨ g = w.heap.size) : Gw w v w1 v' :=
  ⟨hg.os, hg.tape, hg.output, hg.size, fun k hk hne => hg.block k hk (fun e => hne e.symm), fun x hx => by
    have : g = x := by rw [hv] at hx; injection hx
    subst this
    rcases hl with e | e
    · exact Or.inl e
    · right; omega⟩

set_option maxRecDepth 100000 in
set_option maxHeartbeats 1000000 in
theorem numb_any {w0 : World} {ds : List Nd} {aa : Option Addr} {n ca : Nat} {root : Int} (hd : DAt w0 ds aa) (o : Ord ds) (hn : ds.length = n) (hl : n ≤ 2000) (f : Nat) :
    ∀ (r : Int) (L : List Int) (a : Option Addr) (cap : Nat) (w : World), r < f → Ref ds r → Below w0.heap.size w0 w → L.Nodup → (∀ s ∈ L, Ref ds s ∧ 0 ≤ s) → w.ownsRow w0.heap.size 3 1 (.slice a L.length cap) L.length (L.map (Value.int .i64)) →
      Calls Try.prog 61 #[.agg #[.slice aa n ca, .int .i64 root], .int .i64 r, .slice a L.length cap] w (NbPost w0.heap.size w (.slice a L.length cap) (numb ds f r L)) := by
  have neg : ∀ (f : Nat) (r : Int) (L : List Int) (a : Option Addr) (cap : Nat) (w : World), r < 0 → w.ownsRow w0.heap.size 3 1 (.slice a L.length cap) L.length (L.map (Value.int .i64)) →
      Calls Try.prog 61 #[.agg #[.slice aa n ca, .int .i64 root], .int .i64 r, .slice a L.length cap] w (NbPost w0.heap.size w (.slice a L.length cap) (numb ds f r L)) := by
    intro f r L a cap w h0 hrow
    rw [numb_neg h0]
    have R := Lib.hid hrow; clear hrow
    go_enter Try.func61, Try.ntmps61
    go_wp2_with fail
    go_ret
    exact ⟨a, cap, rfl, R.out.alloc _, Gw.alloc _ _ _⟩
  induction f with
  | zero => intro r L a cap w hf hr _ _ _ hrow; exact neg 0 r L a cap w (by omega) hrow
  | succ f ih =>
    intro r L a cap w hf hr hb hnd hL hrow
    by_cases h0 : r < 0
    · exact neg _ r L a cap w h0 hrow
    · have hlen : L.length ≤ 2000 := Nat.le_trans (len_of_nodup _ _ hnd (fun s hs => ⟨(hL s hs).2, (hL s hs).1.2⟩)) (by omega)
      clear neg
      have IH := Lib.hid ih; clear ih
      have HD := Lib.hid hd; clear hd
      have OD := Lib.hid o; clear o
      have HN := Lib.hid hn; clear hn
      have RF := Lib.hid hr
      have HB := Lib.hid hb; clear hb
      have ND := Lib.hid hnd; clear hnd
      have HL := Lib.hid hL; clear hL
      have RW := Lib.hid hrow; clear hrow
      have hrn : r < (n : Int) := by have := hr.2; rw [HN.out] at this; exact this
      clear hr
      have N1 := Lib.hid (heap_alloc_new w (.cells #[.slice aa n ca, .int .i64 root] 27))
      have B1 : Hid (Below w.heap.size w (w.alloc (.cells #[.slice aa n ca, .int .i64 root] 27))) := (Below.refl _ _).alloc (Nat.le_refl _) _
      have S1 : Hid ((w.alloc (.cells #[.slice aa n ca, .int .i64 root] 27)).heap.size = w.heap.size + 1) := by show _ = _; simp
      have G1 := Lib.hid (Gw.alloc w (.slice a L.length cap) (.cells #[.slice aa n ca, .int .i64 root] 27))
      have R1 := Lib.hid (RW.out.alloc (.cells #[.slice aa n ca, .int .i64 root] 27))
      have vb : Hid (∀ g, (Value.slice a L.length cap).ownBlock = some g → w0.heap.size ≤ g ∧ g < w.heap.size) := fun g hg => RW.out.lt g hg
      go_enter Try.func61, Try.ntmps61
      go_wp2_with fail
      generalize w.alloc (.cells #[.slice aa n ca, .int .i64 root] 27) = w1 at *
      go_loop [7] (fun iv => NbL L r iv) (fun iv => L.length - (intOf iv).toNat)
      case atStart => exact ⟨0, Nat.zero_le _, rfl, fun j hj => absurd hj (by omega)⟩
      case round =>
        obtain ⟨i, hi, rfl, hne⟩ := hrel
        have NE := Lib.hid hne; clear hne
        by_cases hil : i < L.length
        · have i1 : (i : Int) < (L.length : Int) := by omega
          obtain ⟨g, rfl, hc⟩ : ∃ g, a = some ⟨g, 0, none⟩ ∧ w1.cell? ⟨g, i, none⟩ = some (.int .i64 (L.getD i 0)) := by
            have hr2 := R1.out
            rcases R1.out.2 with ⟨h1, h2⟩ | ⟨g, cap', cur, hv, _⟩
            · omega
            · injection hv with e1 e2 e3
              subst e1
              refine ⟨g, rfl, ?_⟩
              rw [hr2.cellAt i (by omega)]
              rw [List.getD_eq_getElem?_getD, List.getElem?_map, List.getElem?_eq_getElem hil]; rfl
          obtain ⟨x, hx⟩ : ∃ x, L.getD i 0 = x := ⟨_, rfl⟩
          rw [hx] at hc
          have HX := Lib.hid hx; clear hx
          by_cases he : x = r
          · subst he
            have hm : Hid (x ∈ L) := by
              show x ∈ L
              rw [← HX.out, List.getD_eq_getElem?_getD, List.getElem?_eq_getElem hil]; exact List.getElem_mem hil
            have EK : Hid (numb ds (f + 1) x L = L) := numb_known hm.out
            go_wp2_with fail
            go_ret
            rw [EK.out]
            exact ⟨_, cap, rfl, R1.out, G1.out⟩
          · have heb : (x == r) = false := by simpa using he
            have HE := Lib.hid he; clear he
            go_wp2_with fail
            go_round
            case rel => exact ⟨i + 1, by omega, by go_num, fun j hj => by
              rcases lt_succ hj with e | e
              · exact NE.out j e
              · rw [e, HX.out]; exact HE.out⟩
            case measure => simp [intOf]; omega
        · have hm : Hid (r ∉ L) := notin_of fun j hj => NE.out j (by omega)
          clear NE
          obtain ⟨k, rfl⟩ := Int.eq_ofNat_of_zero_le (by omega : 0 ≤ r)
          have hkd : k < ds.length := by rw [HN.out]; omega
          obtain ⟨bd, od, rfl, d1⟩ := HD.out (by intro e; rw [e] at hkd; simp at hkd)
          have bdl : bd < w0.heap.size := lt_of_cell (d1 k hkd).1
          have D1 := Lib.hid (d1 k hkd); clear d1
          have lo1 := OD.out.ref_lo RF.out (by omega)
          have hi1 := OD.out.ref_hi RF.out (by omega)
          have HB1 := Lib.hid (Below.over HB.out HB.out.size B1.out)
          have NN : Hid (numb ds (f + 1) k L = numb ds f (Bd.hi ds k) (numb ds f (lo ds k) L) ++ [(k : Int)]) := numb_new (by omega) hm.out
          have el : lo ds k = (nd ds k).2.1 := rfl
          have eh : Bd.hi ds k = (nd ds k).2.2 := rfl
          rw [el] at lo1 NN
          rw [eh] at hi1 NN
          clear el eh
          obtain ⟨p1, p2, p3⟩ := kid_cells HB1.out D1.out
          obtain ⟨y0, y1, _⟩ := cells2 N1.out
          obtain ⟨⟨vv, l0, h0'⟩, hnd⟩ : ∃ x, nd ds k = x := ⟨_, rfl⟩
          rw [hnd] at p1 p2 p3 lo1 hi1 NN D1
          simp only at p1 p2 p3 lo1 hi1
          have HND := Lib.hid hnd; clear hnd
          have C1 := Lib.hid (IH.out l0 L a cap w1.drew (by omega) lo1.1 HB1.out.drew ND.out HL.out R1.out.drew)
          have i1 : (k : Int) < (n : Int) := by omega
          have RL := Lib.hid (numb_refs OD.out f l0 L lo1.1 ND.out HL.out)
          go_upto_region 8 with fail
          go_region_held3 (fun W => W.cell? ⟨w.heap.size, 0, none⟩ = some (.slice (some ⟨bd, od, none⟩) n ca) ∧ W.cell? ⟨w.heap.size, 1, none⟩ = some (.int .i64 root) ∧ W.cell? ⟨bd, od + k * 3 + 1, none⟩ = some (.int .i64 l0))
            (first
              | exact ⟨y0, y1, p2⟩
              | exact ⟨s0, s1, s2⟩
              | go_keep)
            (first
              | (go_at_call 61; refine C1.out.mono ?_; rintro e w2 ⟨a2, cap2, rfl, row2, gw2⟩; have GW2 := Lib.hid gw2; have R2 := Lib.hid row2; clear gw2 row2; have s0 := (World.cell?_of_block (a := ⟨w.heap.size, 0, none⟩) (GW2.out.keep w.heap.size (by show _ < w1.heap.size; rw [S1.out]; omega) (fun e => absurd (vb.out _ e).2 (by omega)))).trans y0; have s1 := (World.cell?_of_block (a := ⟨w.heap.size, 1, none⟩) (GW2.out.keep w.heap.size (by show _ < w1.heap.size; rw [S1.out]; omega) (fun e => absurd (vb.out _ e).2 (by omega)))).trans y1; have s2 := (World.cell?_of_block (a := ⟨bd, od + k * 3 + 1, none⟩) (GW2.out.keep bd (by show _ < w1.heap.size; have := HB1.out.size; omega) (fun e => absurd (vb.out _ e).1 (by omega)))).trans p2; have s3 := (World.cell?_of_block (a := ⟨bd, od + k * 3 + 2, none⟩) (GW2.out.keep bd (by show _ < w1.heap.size; have := HB1.out.size; omega) (fun e => absurd (vb.out _ e).1 (by omega)))).trans p3))
          clear C1 y0 y1 p1 p2 p3
          have HB2 := Lib.hid (GW2.out.below HB1.out.drew (fun g hg => (vb.out g hg).1))
          have nb2 : Hid ((Value.slice a2 (numb ds f l0 L).length cap2).ownBlock ≠ some w.heap.size) := fun e => by
            rcases GW2.out.loc _ e with e' | e'
            · have := (vb.out _ e').2; omega
            · have e2 : w1.heap.size ≤ w.heap.size := e'
              rw [S1.out] at e2; omega
          have vb2 : Hid (∀ g, (Value.slice a2 (numb ds f l0 L).length cap2).ownBlock = some g → w0.heap.size ≤ g ∧ g < w2.heap.size) := fun g hg => R2.out.lt g hg
          have hz2 : w.heap.size < w2.heap.size := by have e2 : w1.heap.size ≤ w2.heap.size := GW2.out.size; rw [S1.out] at e2; omega
          obtain ⟨L1, hL1⟩ : ∃ L1, numb ds f l0 L = L1 := ⟨_, rfl⟩
          rw [hL1] at NN RL GW2 R2 nb2 vb2
          rw [hL1]
          clear hL1
          have C2 := Lib.hid (IH.out h0' L1 a2 cap2 w2.drew (by omega) hi1.1 HB2.out.drew RL.out.1 RL.out.2.1 R2.out.drew)
          have RL2 := Lib.hid (numb_refs OD.out f h0' L1 hi1.1 RL.out.1 RL.out.2.1)
          go_upto_region 9 with fail
          go_region_held3 (fun W => W.cell? ⟨w.heap.size, 0, none⟩ = some (.slice (some ⟨bd, od, none⟩) n ca) ∧ W.cell? ⟨w.heap.size, 1, none⟩ = some (.int .i64 root) ∧ W.cell? ⟨bd, od + k * 3 + 2, none⟩ = some (.int .i64 h0'))
            (first
              | exact ⟨s0, s1, s3⟩
              | exact ⟨r0, r1, r2⟩
              | go_keep)
            (first
              | (go_at_call 61; refine C2.out.mono ?_; rintro e w3 ⟨a3, cap3, rfl, row3, gw3⟩; have GW3 := Lib.hid gw3; have R3 := Lib.hid row3; clear gw3 row3; have r0 := (World.cell?_of_block (a := ⟨w.heap.size, 0, none⟩) (GW3.out.keep w.heap.size hz2 nb2.out)).trans s0; have r1 := (World.cell?_of_block (a := ⟨w.heap.size, 1, none⟩) (GW3.out.keep w.heap.size hz2 nb2.out)).trans s1; have r2 := (World.cell?_of_block (a := ⟨bd, od + k * 3 + 2, none⟩) (GW3.out.keep bd (by show _ < w2.heap.size; have := HB2.out.size; omega) (fun e => absurd (vb2.out _ e).1 (by omega)))).trans s3))
          clear C2 s0 s1 s2 s3 r0 r1 r2
          have hl3 : (numb ds f h0' L1).length ≤ 2000 := Nat.le_trans (len_of_nodup _ _ RL2.out.1 (fun s hs => ⟨(RL2.out.2.1 s hs).2, (RL2.out.2.1 s hs).1.2⟩)) (by rw [HN.out]; exact hl)
          obtain ⟨L2, hL2⟩ : ∃ L2, numb ds f h0' L1 = L2 := ⟨_, rfl⟩
          rw [hL2] at NN GW3 R3 hl3
          rw [hL2]
          clear hL2
          have GA := Lib.hid ((G1.out.trans ((Gw.drew _ _).trans GW2.out)).trans ((Gw.drew _ _).trans GW3.out))
          obtain ⟨i0, hi0, hz0, hz1, hz2'⟩ := info_parts info3
          obtain ⟨m2, hm2⟩ : ∃ m2, L2.length = m2 := ⟨_, rfl⟩
          rw [hm2] at R3 GA hl3
          rw [hm2]
          have HM2 := Lib.hid hm2; clear hm2
          have hw0 : w0.heap.size ≤ w3.heap.size := by have := HB.out.size; have := GA.out.size; omega
          go_wp2_with (at_builtin; refine wpList_append_lies _ rfl _ _ 53 rfl w0.heap.size 3 i0 (.int .i64 0) 1 8 Try.underlying53 hi0 hz0 hz1 hz2' rfl (by omega) (.slice a3 m2 cap3) m2 (L2.map (Value.int .i64)) rfl (R3.out.alloc _) ⟨w3.heap.size, 0, none⟩ 1 1 [.int .i64 k] rfl rfl (World.news_of_block (cs := #[.int .i64 k]) (t := 3) (fr := (0, 0)) (heap_alloc_new w3 _)) (by simp [Value.oneCell']) (by omega) (by unfold maxLen; omega) (by omega) (by simp; omega) (w3.heap.size + 1) (by simp) ?_; intro g4 cap4 w4 hown4 hgrow4 hat4 hlt4; have OW := Lib.hid hown4; have GR := Lib.hid hgrow4; have AT := Lib.hid hat4; clear hown4 hgrow4 hat4 hlt4)
          have EL : Hid ((L2 ++ [(k : Int)]).length = m2 + 1) := by show _ = _; rw [List.length_append, HM2.out]; rfl
          go_ret
          rw [NN.out]
          refine ⟨some ⟨g4, 0, none⟩, cap4, ?_, ?_, ?_⟩
          · rw [EL.out]; rfl
          · rw [EL.out, List.map_append]; exact OW.out
          · rw [EL.out]
            refine (GA.out.trans (Gw.alloc w3 _ (.cells #[.int .i64 k] 3))).trans (gw_append (g := g4) GR.out rfl ?_)
            rcases AT.out with e | e
            · exact Or.inl e
            · right; rw [e]; simp

end Go.Proofs.Ythhogbligfmpdaa
