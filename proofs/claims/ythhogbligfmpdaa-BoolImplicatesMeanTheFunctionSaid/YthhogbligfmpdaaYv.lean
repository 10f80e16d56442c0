/- Implicates: its closure, by induction. -/
import Derived.Test.YthhogbligfmpdaaYu
set_option linter.unusedVariables false
set_option linter.unusedSimpArgs false
namespace Go.Proofs.Ythhogbligfmpdaa
open Go.RowKit Bd

theorem cf_new {w w4 : World} {base g4 n cap4 : Nat} {F : Nat → Prop} {cl : List Int} {x : Int} (hb : w.heap.size ≤ base) (ow : w4.ownsRow base 3 1 (.slice (some ⟨g4, 0, none⟩) (n + 1) cap4) (n + 1) (cl.map (Value.int .i64) ++ [.int .i64 x])) (hn : cl.length = n) (hF : ∀ k, F k → k < w.heap.size) :
    CF w4 F (cl ++ [x]) (.slice (some ⟨g4, 0, none⟩) (n + 1) cap4) := by
  have l := ow.lt g4 rfl
  have hl : (cl ++ [x]).length = n + 1 := by simp [hn]
  refine ⟨Or.inr ⟨g4, cap4, by rw [hl], fun j hj => ?_⟩, fun g hg => ?_⟩
  · have e : cl.map (Value.int .i64) ++ [.int .i64 x] = (cl ++ [x]).map (Value.int .i64) := by simp
    have := ow.cellAt j (by omega)
    rw [this, e]
    exact map_get hj
  · have e : g4 = g := by injection hg
    subst e
    refine ⟨l.2, fun hf => ?_⟩
    have := hF _ hf
    omega

theorem owns_down {w : World} {T T' E k n : Nat} {v : Value} {xs : List Value} (h : w.ownsRow T E k v n xs) (hT : T' ≤ T) : w.ownsRow T' E k v n xs := by
  refine ⟨h.1, ?_⟩
  rcases h.2 with h2 | ⟨g, cap, cur, h1, h2, r⟩
  · exact Or.inl h2
  · exact Or.inr ⟨g, cap, cur, h1, Nat.le_trans hT h2, r⟩
theorem below_app {w w4 w5 : World} {T : Nat} {v : Value} (hb : Below T w w4) (gr : w4.grownBy w5 v.ownBlock) (hv : ∀ g, v.ownBlock = some g → T ≤ g) (hT : T ≤ w4.heap.size) : Below T w w5 :=
  ⟨gr.os.trans hb.os, gr.tape.trans hb.tape, gr.output.trans hb.output, Nat.le_trans hb.size gr.size, fun b hl => (gr.block b (by omega) (fun e => by have := hv b e.symm; omega)).trans (hb.block b hl)⟩

/-- A clone in a world that is w0 with new blocks. -/
def CmPost (w0 W : World) (l : List Int) (n : Nat) (e : Ending) (w' : World) : Prop :=
  ∃ a cap, e = .returned (.slice a n cap) ∧ w'.ownsRow w0.heap.size 3 1 (.slice a n cap) n (l.map (Value.int .i64)) ∧ Below w0.heap.size w0 w' ∧ Below W.heap.size W w'
theorem clone_over {w0 W : World} {F : Nat → Prop} {l : List Int} {v : Value} {n : Nat} (h : CF w0 F l v) (hb : Below w0.heap.size w0 W) (hn : l.length = n) (hl : n ≤ 1000000) : Calls Try.prog 60 #[v] W (CmPost w0 W l n) := by
  subst hn
  refine (clone_cl (h.step (FSp.of_below F hb)).at_ hl).mono ?_
  rintro e w' ⟨a, cap, rfl, ow, hs, bl⟩
  exact ⟨a, cap, rfl, owns_down ow hb.size, Below.over hb hb.size bl, bl⟩

section
variable {B : TB} {T : List Bool} {vs : List Int} {va : Option Addr} {vc : Nat} {root : Int}

/-- What the closure is asked. -/
structure TrPre (B : TB) (T : List Bool) (vs : List Int) (va : Option Addr) (vc : Nat) (root : Int) (i p : Nat) (w : World) (M : ML) (ns : List Nd) (dn : List (Nd × Int)) (S : Nat → Prop) (ov : Value) (ls : List (List Int)) (cl : List Int) (v : Value) : Prop where
  ts : TS B T vs va vc root w M ns dn S ov ls
  cf : CF w (Fo M S B.bo) cl v
  sel : ∀ t, Sel (vs.drop i) t → Sel vs (cl ++ t)
  ln : cl.length ≤ i
  sz : ns.length + 4718592 * p + 65536 ≤ 1000000000000
  ll : ls.length + p ≤ 10000

def TrCalls (B : TB) (T : List Bool) (vs : List Int) (va : Option Addr) (vc : Nat) (root : Int) (i p : Nat) (iv : Int) : Prop :=
  ∀ (w : World) (M : ML) (ns : List Nd) (dn : List (Nd × Int)) (S : Nat → Prop) (ov : Value) (ls : List (List Int)) (cl : List Int) (v : Value), TrPre B T vs va vc root i p w M ns dn S ov ls cl v →
    Calls Try.prog 72 #[.int .i64 iv, v, .pointer (some ⟨B.bv, 0, none⟩), .pointer (some ⟨B.bt, 0, none⟩), .pointer (some ⟨B.bm, 0, none⟩), .pointer (some ⟨B.br, 0, none⟩), .pointer (some ⟨B.bo, 0, none⟩)] w (TrPost B T vs va vc root w M ns S (ls ++ (enum (vs.drop i) cl).filter (primeB T)) (4718592 * p))

set_option maxRecDepth 100000 in
set_option maxHeartbeats 4000000 in
theorem try_step (hv8 : vs.length ≤ 8) (hrng : ∀ z ∈ vs, 0 ≤ z ∧ z < 16) {i p : Nat} (hi : i < vs.length) (hp : 3 ^ (vs.length - (i + 1)) = p) (ih : TrCalls B T vs va vc root (i + 1) p ((i : Int) + 1)) : TrCalls B T vs va vc root i (3 * p) (i : Int) := by
  intro w M ns dn S ov ls cl v pre
  have IH := Lib.hid ih; clear ih
  have PRE := Lib.hid pre
  obtain ⟨x, hx⟩ : ∃ x, vs.getD i 0 = x := ⟨_, rfl⟩
  obtain ⟨x0, x16⟩ : 0 ≤ x ∧ x < 16 := by rw [← hx]; exact hrng _ (getI_mem hi)
  have HD : Hid (vs.drop i = x :: vs.drop (i + 1)) := by
    show _ = _
    rw [List.drop_eq_getElem_cons hi, ← hx, List.getD_eq_getElem?_getD, List.getElem?_eq_getElem hi]; rfl
  have hln := pre.ln
  have hsz := pre.sz
  have hll := pre.ll
  obtain ⟨a, cap, rfl, _, _⟩ := pre.cf.form
  obtain ⟨n, hn⟩ : ∃ n, cl.length = n := ⟨_, rfl⟩
  have HN := Lib.hid hn
  have hne : vs ≠ [] := by intro e; rw [e] at hi; simp at hi
  obtain ⟨bq, oq, rfl, du⟩ := pre.ts.vi hne
  have CX : Hid (∀ {W : World} {M1 : ML} {ns1 : List Nd} {dn1 : List (Nd × Int)} {S1 : Nat → Prop} {ov1 : Value} {ls1 : List (List Int)}, TS B T vs (some ⟨bq, oq, none⟩) vc root W M1 ns1 dn1 S1 ov1 ls1 → W.cell? ⟨bq, oq + i, none⟩ = some (.int .i64 x)) := by
    intro W M1 ns1 dn1 S1 ov1 ls1 t
    obtain ⟨b', o', e', d'⟩ := t.vi hne
    injection e' with e'
    injection e' with e1 e2
    subst e1 e2
    have := d' i hi
    rw [hx] at this
    exact this
  have HX := Lib.hid hx
  have FIN : Hid (ls ++ (enum (vs.drop i) cl).filter (primeB T) = ls ++ (enum (vs.drop (i + 1)) cl).filter (primeB T) ++ (enum (vs.drop (i + 1)) (cl ++ [x + 1])).filter (primeB T) ++ (enum (vs.drop (i + 1)) (cl ++ [-x - 1])).filter (primeB T)) := by
    show _ = _
    rw [HD.out]
    simp only [enum, List.filter_append, List.append_assoc]
  have ELE : Hid (∀ q, ((enum (vs.drop (i + 1)) q).filter (primeB T)).length ≤ p) := fun q => by
    have := List.length_filter_le (primeB T) (enum (vs.drop (i + 1)) q)
    rw [enum_len, List.length_drop, hp] at this
    exact this
  have SL1 : Hid (∀ t, Sel (vs.drop (i + 1)) t → Sel vs (cl ++ t)) := fun t h => PRE.out.sel t (by rw [HD.out]; exact Or.inl h)
  have SL2 : Hid (∀ t, Sel (vs.drop (i + 1)) t → Sel vs (cl ++ [x + 1] ++ t)) := fun t h => by
    rw [List.append_assoc]; exact PRE.out.sel _ (by rw [HD.out]; exact Or.inr (Or.inl ⟨t, rfl, h⟩))
  have SL3 : Hid (∀ t, Sel (vs.drop (i + 1)) t → Sel vs (cl ++ [-x - 1] ++ t)) := fun t h => by
    rw [List.append_assoc]; exact PRE.out.sel _ (by rw [HD.out]; exact Or.inr (Or.inr ⟨t, rfl, h⟩))
  have K1 := Lib.hid (IH.out w M ns dn S ov ls cl _ ⟨pre.ts, pre.cf, SL1.out, by omega, by omega, by omega⟩)
  obtain ⟨c0, c1, c2, c3, c4⟩ := pre.ts.reads
  unfold TB.caps at c1
  obtain ⟨nv, hnv⟩ : ∃ nv, vs.length = nv := ⟨_, rfl⟩
  have HV := Lib.hid hnv
  rw [hnv] at c0 hi hv8
  rw [hn] at K1 hln ⊢
  obtain ⟨i0, hi0, hz0, hz1, hz2⟩ := info_parts info3
  have i1 : (i : Int) < (nv : Int) := by omega
  have i2 : (0 : Int) ≤ (i : Int) := by omega
  clear c2 c3 c4 pre hnv hn du hx hp hrng hne
  go_enter Try.func72, Try.ntmps72
  go_wp2_with fail
  refine K1.out.mono ?_
  clear K1 c0 c1
  rintro e w1 ⟨v1, ns1, dn1, S1, ov1, rfl, t1, f1, l1⟩
  have TS1 := Lib.hid t1; clear t1
  have FS1 := Lib.hid f1; clear f1
  have j2 : IntKind.i64.wrap ((i : Int) + 1) = (i : Int) + 1 := IntWalk.i64_in _ (by omega)
  have j3 : IntKind.i64.wrap (x + 1) = x + 1 := IntWalk.i64_in _ (by omega)
  have LN : Hid (∀ z : Int, (cl ++ [z]).length ≤ i + 1) := fun z => by rw [List.length_append, HN.out]; simp; omega
  obtain ⟨td, fd⟩ := TS1.out.below ((Below.refl w1.heap.size w1).drew)
  have TSd := Lib.hid td; clear td
  have FSd := Lib.hid (FS1.out.trans fd); clear fd
  have CFd := Lib.hid (PRE.out.cf.step FSd.out)
  have C60 : Hid (∀ (W : World), Below w1.drew.heap.size w1.drew W → Calls Try.prog 60 #[.slice a n cap] W (CmPost w1.drew W cl n)) := by
    intro W hb
    have := clone_over CFd.out hb HN.out (by omega)
    rw [HN.out] at this
    exact this
  obtain ⟨c0, c1, _⟩ := TS1.out.reads
  unfold TB.caps at c1
  rw [HV.out] at c0
  have c5 := CX.out TS1.out
  have SZ : Hid (ns1.length + 4718592 * p + 65536 ≤ 1000000000000) := by show _ ≤ _; omega
  have LL : Hid ((ls ++ (enum (vs.drop (i + 1)) cl).filter (primeB T)).length + p ≤ 10000) := by show _ ≤ _; have := ELE.out cl; rw [List.length_append]; omega
  go_upto_region 2 with fail
  go_region_held3 (fun W => W.cell? ⟨B.bt, 0, none⟩ = some (.func (.func 72) #[] #[.pointer (some ⟨B.bv, 0, none⟩), .pointer (some ⟨B.bt, 0, none⟩), .pointer (some ⟨B.bm, 0, none⟩), .pointer (some ⟨B.br, 0, none⟩), .pointer (some ⟨B.bo, 0, none⟩)]) ∧ W.cell? ⟨B.bv, 0, none⟩ = some (.slice (some ⟨bq, oq, none⟩) nv vc) ∧ W.cell? ⟨bq, oq + i, none⟩ = some (.int .i64 x))
    (first
      | exact ⟨c1, c0, c5⟩
      | exact ⟨u1, u0, u5⟩
      | exact ⟨y1, y0, y5⟩
      | exact ⟨z1, z0, z5⟩
      | go_keep)
    (first
      | (go_at_call 60; refine (C60.out _ (by first | exact Below.refl _ _ | exact (Below.refl _ _).alloc (Nat.le_refl _) _)).mono ?_; rintro e w4 ⟨a4, cap4, rfl, ow4, bl4, bw4⟩; have OW4 := Lib.hid ow4; have BL4 := Lib.hid bl4; have BW4 := Lib.hid bw4; clear ow4 bl4 bw4; obtain ⟨t4, _⟩ := TSd.out.below BL4.out; obtain ⟨u0, u1, _⟩ := t4.reads; unfold TB.caps at u1; rw [HV.out] at u0; have u5 := CX.out t4; clear t4)
      | (go_at_call 72; refine (IH.out w5 { M with v := v1 } ns1 dn1 S1 ov1 (ls ++ (enum (vs.drop (i + 1)) cl).filter (primeB T)) (cl ++ [x + 1]) (.slice (some ⟨g5, 0, none⟩) (n + 1) cap5) ⟨TS5.out, CF5.out.step (FSp.refl _ _), SL2.out, LN.out (x + 1), SZ.out, LL.out⟩).mono ?_; rintro e w6 ⟨v6, ns6, dn6, S6, ov6, rfl, t6, f6, l6⟩; have TS6 := Lib.hid t6; have F6 := Lib.hid (F5.out.trans f6); clear t6 f6; obtain ⟨z0, z1, _⟩ := TS6.out.reads; unfold TB.caps at z1; rw [HV.out] at z0; have z5 := CX.out TS6.out)
      | (refine step_append_lies _ (by rfl) _ _ _ (by rfl) w1.drew.heap.size 3 i0 _ 1 8 Try.underlying53 hi0 hz0 hz1 hz2 rfl (by omega) (.slice a4 n cap4) n (cl.map (Value.int .i64)) (by rfl) (OW4.out.alloc _) ⟨w4.heap.size, 0, none⟩ 1 1 [.int .i64 (x + 1)] (by rfl) (by rfl) (World.news_of_block (cs := #[.int .i64 (x + 1)]) (t := 3) (fr := (0, 0)) (heap_alloc_new w4 _)) (by simp [Value.oneCell']) (by omega) (by unfold maxLen; omega) (by omega) (Nat.le_trans BL4.out.size (by simp)) (w4.heap.size + 1) (by simp) ?_; intro g5 cap5 w5 hown5 hgrow5 hat5 hlt5; have BL5 : Hid (Below w1.drew.heap.size w1.drew w5) := (below_app (BL4.out.alloc BL4.out.size _) hgrow5 (fun g hg => (OW4.out.lt g hg).1) (Nat.le_trans BL4.out.size (by simp))); have CF5 := Lib.hid (cf_new (F := Fo { M with v := v1 } S1 B.bo) (Nat.le_refl w1.drew.heap.size) hown5 HN.out (fun k hk => TSd.out.folt hk)); clear hown5 hgrow5 hat5 hlt5; obtain ⟨t5, f5⟩ := TSd.out.below BL5.out; have TS5 := Lib.hid t5; have F5 := Lib.hid f5; clear t5 f5; obtain ⟨y0, y1, _⟩ := TS5.out.reads; unfold TB.caps at y1; rw [HV.out] at y0; have y5 := CX.out TS5.out)
      | (refine step_append_lies _ (by rfl) _ _ _ (by rfl) w1.drew.heap.size 3 i0 _ 1 8 Try.underlying53 hi0 hz0 hz1 hz2 rfl (by omega) (.slice a4 n cap4) n (cl.map (Value.int .i64)) (by rfl) OW4.out ⟨w1.drew.heap.size, 0, none⟩ 1 1 [.int .i64 (x + 1)] (by rfl) (by rfl) (World.news_of_block (cs := #[.int .i64 (x + 1)]) (t := 3) (fr := (0, 0)) ((BW4.out.block _ (by simp)).trans (heap_alloc_new _ _))) (by simp [Value.oneCell']) (by omega) (by unfold maxLen; omega) (by omega) BL4.out.size w4.heap.size rfl ?_; intro g5 cap5 w5 hown5 hgrow5 hat5 hlt5; have BL5 : Hid (Below w1.drew.heap.size w1.drew w5) := (below_app BL4.out hgrow5 (fun g hg => (OW4.out.lt g hg).1) BL4.out.size); have CF5 := Lib.hid (cf_new (F := Fo { M with v := v1 } S1 B.bo) (Nat.le_refl w1.drew.heap.size) hown5 HN.out (fun k hk => TSd.out.folt hk)); clear hown5 hgrow5 hat5 hlt5; obtain ⟨t5, f5⟩ := TSd.out.below BL5.out; have TS5 := Lib.hid t5; have F5 := Lib.hid f5; clear t5 f5; obtain ⟨y0, y1, _⟩ := TS5.out.reads; unfold TB.caps at y1; rw [HV.out] at y0; have y5 := CX.out TS5.out))
  all_goals
    have TS2 : Hid (TS B T vs (some ⟨bq, oq, none⟩) vc root w6 { M with v := v6 } ns6 dn6 S6 ov6 (ls ++ (enum (vs.drop (i + 1)) cl).filter (primeB T) ++ (enum (vs.drop (i + 1)) (cl ++ [x + 1])).filter (primeB T))) := TS6.out
    have FS2 : Hid (FSp w (Fo M S B.bo) w6 (Fo { M with v := v6 } S6 B.bo)) := FSd.out.trans F6.out
    have l2 : ns6.length ≤ ns.length + 9437184 * p := by omega
    clear TSd FSd CFd C60 c0 c1 c5 SZ LL j3 u0 u1 u5 y0 y1 y5 z0 z1 z5 TS6 F6 TS5 F5 CF5 BL5 OW4 BL4 BW4 l6 l1 TS1 FS1
    have j4 : IntKind.i64.wrap (-x) = -x := IntWalk.i64_in _ (by omega)
    have j5 : IntKind.i64.wrap (-x - 1) = -x - 1 := IntWalk.i64_in _ (by omega)
    have SZ : Hid (ns6.length + 4718592 * p + 65536 ≤ 1000000000000) := by show _ ≤ _; omega
    have LL : Hid ((ls ++ (enum (vs.drop (i + 1)) cl).filter (primeB T) ++ (enum (vs.drop (i + 1)) (cl ++ [x + 1])).filter (primeB T)).length + p ≤ 10000) := by show _ ≤ _; have := ELE.out cl; have := ELE.out (cl ++ [x + 1]); rw [List.length_append, List.length_append]; omega
    obtain ⟨wa, rfl⟩ : ∃ W, W = w6 := ⟨_, rfl⟩
    obtain ⟨va, rfl⟩ : ∃ V, V = v6 := ⟨_, rfl⟩
    obtain ⟨na, rfl⟩ : ∃ N, N = ns6 := ⟨_, rfl⟩
    obtain ⟨da, rfl⟩ : ∃ D, D = dn6 := ⟨_, rfl⟩
    obtain ⟨Sa, rfl⟩ : ∃ D, D = S6 := ⟨_, rfl⟩
    obtain ⟨oa, rfl⟩ : ∃ D, D = ov6 := ⟨_, rfl⟩
    obtain ⟨td, fd⟩ := TS2.out.below ((Below.refl wa.heap.size wa).drew)
    have TSd := Lib.hid td; clear td
    have FSd := Lib.hid (FS2.out.trans fd); clear fd
    have CFd := Lib.hid (PRE.out.cf.step FSd.out)
    have C60 : Hid (∀ (W : World), Below wa.drew.heap.size wa.drew W → Calls Try.prog 60 #[.slice a n cap] W (CmPost wa.drew W cl n)) := by
      intro W hb
      have := clone_over CFd.out hb HN.out (by omega)
      rw [HN.out] at this
      exact this
    obtain ⟨c0, c1, _⟩ := TS2.out.reads
    unfold TB.caps at c1
    rw [HV.out] at c0
    have c5 := CX.out TS2.out
    go_upto_region 3 with fail
    go_region_held3 (fun W => W.cell? ⟨B.bt, 0, none⟩ = some (.func (.func 72) #[] #[.pointer (some ⟨B.bv, 0, none⟩), .pointer (some ⟨B.bt, 0, none⟩), .pointer (some ⟨B.bm, 0, none⟩), .pointer (some ⟨B.br, 0, none⟩), .pointer (some ⟨B.bo, 0, none⟩)]) ∧ W.cell? ⟨B.bv, 0, none⟩ = some (.slice (some ⟨bq, oq, none⟩) nv vc) ∧ W.cell? ⟨bq, oq + i, none⟩ = some (.int .i64 x))
      (first
        | exact ⟨c1, c0, c5⟩
        | exact ⟨u1, u0, u5⟩
        | exact ⟨y1, y0, y5⟩
        | exact ⟨z1, z0, z5⟩
        | go_keep)
      (first
        | (go_at_call 60; refine (C60.out _ (by first | exact Below.refl _ _ | exact (Below.refl _ _).alloc (Nat.le_refl _) _)).mono ?_; rintro e w4 ⟨a4, cap4, rfl, ow4, bl4, bw4⟩; have OW4 := Lib.hid ow4; have BL4 := Lib.hid bl4; have BW4 := Lib.hid bw4; clear ow4 bl4 bw4; obtain ⟨t4, _⟩ := TSd.out.below BL4.out; obtain ⟨u0, u1, _⟩ := t4.reads; unfold TB.caps at u1; rw [HV.out] at u0; have u5 := CX.out t4; clear t4)
        | (go_at_call 72; refine (IH.out w5 { M with v := va } na da Sa oa (ls ++ (enum (vs.drop (i + 1)) cl).filter (primeB T) ++ (enum (vs.drop (i + 1)) (cl ++ [x + 1])).filter (primeB T)) (cl ++ [-x - 1]) (.slice (some ⟨g5, 0, none⟩) (n + 1) cap5) ⟨TS5.out, CF5.out.step (FSp.refl _ _), SL3.out, LN.out (-x - 1), SZ.out, LL.out⟩).mono ?_; rintro e w6 ⟨v6, ns6, dn6, S6, ov6, rfl, t6, f6, l6⟩; have TS6 := Lib.hid t6; have F6 := Lib.hid (F5.out.trans f6); clear t6 f6; obtain ⟨z0, z1, _⟩ := TS6.out.reads; unfold TB.caps at z1; rw [HV.out] at z0; have z5 := CX.out TS6.out)
        | (refine step_append_lies _ (by rfl) _ _ _ (by rfl) wa.drew.heap.size 3 i0 _ 1 8 Try.underlying53 hi0 hz0 hz1 hz2 rfl (by omega) (.slice a4 n cap4) n (cl.map (Value.int .i64)) (by rfl) (OW4.out.alloc _) ⟨w4.heap.size, 0, none⟩ 1 1 [.int .i64 (-x - 1)] (by rfl) (by rfl) (World.news_of_block (cs := #[.int .i64 (-x - 1)]) (t := 3) (fr := (0, 0)) (heap_alloc_new w4 _)) (by simp [Value.oneCell']) (by omega) (by unfold maxLen; omega) (by omega) (Nat.le_trans BL4.out.size (by simp)) (w4.heap.size + 1) (by simp) ?_; intro g5 cap5 w5 hown5 hgrow5 hat5 hlt5; have BL5 : Hid (Below wa.drew.heap.size wa.drew w5) := (below_app (BL4.out.alloc BL4.out.size _) hgrow5 (fun g hg => (OW4.out.lt g hg).1) (Nat.le_trans BL4.out.size (by simp))); have CF5 := Lib.hid (cf_new (F := Fo { M with v := va } Sa B.bo) (Nat.le_refl wa.drew.heap.size) hown5 HN.out (fun k hk => TSd.out.folt hk)); clear hown5 hgrow5 hat5 hlt5; obtain ⟨t5, f5⟩ := TSd.out.below BL5.out; have TS5 := Lib.hid t5; have F5 := Lib.hid f5; clear t5 f5; obtain ⟨y0, y1, _⟩ := TS5.out.reads; unfold TB.caps at y1; rw [HV.out] at y0; have y5 := CX.out TS5.out)
        | (refine step_append_lies _ (by rfl) _ _ _ (by rfl) wa.drew.heap.size 3 i0 _ 1 8 Try.underlying53 hi0 hz0 hz1 hz2 rfl (by omega) (.slice a4 n cap4) n (cl.map (Value.int .i64)) (by rfl) OW4.out ⟨wa.drew.heap.size, 0, none⟩ 1 1 [.int .i64 (-x - 1)] (by rfl) (by rfl) (World.news_of_block (cs := #[.int .i64 (-x - 1)]) (t := 3) (fr := (0, 0)) ((BW4.out.block _ (by simp)).trans (heap_alloc_new _ _))) (by simp [Value.oneCell']) (by omega) (by unfold maxLen; omega) (by omega) BL4.out.size w4.heap.size rfl ?_; intro g5 cap5 w5 hown5 hgrow5 hat5 hlt5; have BL5 : Hid (Below wa.drew.heap.size wa.drew w5) := (below_app BL4.out hgrow5 (fun g hg => (OW4.out.lt g hg).1) BL4.out.size); have CF5 := Lib.hid (cf_new (F := Fo { M with v := va } Sa B.bo) (Nat.le_refl wa.drew.heap.size) hown5 HN.out (fun k hk => TSd.out.folt hk)); clear hown5 hgrow5 hat5 hlt5; obtain ⟨t5, f5⟩ := TSd.out.below BL5.out; have TS5 := Lib.hid t5; have F5 := Lib.hid f5; clear t5 f5; obtain ⟨y0, y1, _⟩ := TS5.out.reads; unfold TB.caps at y1; rw [HV.out] at y0; have y5 := CX.out TS5.out))
    all_goals
      have TS8 := Lib.hid TS6.out
      have FS8 := Lib.hid (FSd.out.trans F6.out)
      clear c0 c1 c5 u0 u1 u5 y0 y1 y5 z0 z1 z5 TS6 F6
      go_wp2_with fail
      go_end0
      exact ⟨v6, ns6, dn6, S6, ov6, rfl, by rw [FIN.out]; exact TS8.out, FS8.out, by omega⟩
end

end Go.Proofs.Ythhogbligfmpdaa
