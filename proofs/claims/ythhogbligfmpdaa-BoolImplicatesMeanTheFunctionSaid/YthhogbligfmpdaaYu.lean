/- Implicates: its closure at a whole clause. -/
import Derived.Test.YthhogbligfmpdaaYt
import Derived.Test.YthhogbligfmpdaaXt
import Derived.Deep.RegionHeld3
set_option linter.unusedVariables false
set_option linter.unusedSimpArgs false
namespace Go.Proofs.Ythhogbligfmpdaa
open Go.RowKit Bd

section
variable {B : TB} {T : List Bool} {vs : List Int} {va : Option Addr} {vc : Nat} {root : Int} {w w' : World} {M M' : ML} {ns ns' : List Nd} {dn dn' : List (Nd × Int)} {S : Nat → Prop} {ov : Value} {ls : List (List Int)}

/-- What the closure comes to. -/
def TrPost (B : TB) (T : List Bool) (vs : List Int) (va : Option Addr) (vc : Nat) (root : Int) (w : World) (M : ML) (ns : List Nd) (S : Nat → Prop) (ls' : List (List Int)) (grow : Nat) (e : Ending) (w' : World) : Prop :=
  ∃ v' ns' dn' S' ov', e = .returned (.tuple #[]) ∧ TS B T vs va vc root w' { M with v := v' } ns' dn' S' ov' ls' ∧ FSp w (Fo M S B.bo) w' (Fo { M with v := v' } S' B.bo) ∧ ns'.length ≤ ns.length + grow

/-- The loop that leaves out one literal. -/
def TlL (B : TB) (T : List Bool) (vs : List Int) (va : Option Addr) (vc : Nat) (root : Int) (w : World) (M : ML) (ns : List Nd) (S : Nat → Prop) (ov : Value) (ls : List (List Int)) (cl : List Int) (n : Nat) (kv : Value) (wr : World) : Prop :=
  ∃ (k : Nat) (ns' : List Nd) (dn' : List (Nd × Int)) (v' : Value), k ≤ n ∧ kv = .int .i64 k ∧ (∀ i, i < k → ¬ Imp T (cl.eraseIdx i)) ∧ TS B T vs va vc root wr { M with v := v' } ns' dn' S ov ls ∧ FSp w (Fo M S B.bo) wr (Fo { M with v := v' } S B.bo) ∧ ns'.length ≤ ns.length + 524288 + k * 524288

theorem impB_false {T : List Bool} {cl : List Int} (h : ¬ Imp T cl) : impB T cl = false := by
  cases hb : impB T cl
  · rfl
  · exact absurd (impB_iff.1 hb) h
theorem primeB_false {T : List Bool} {cl : List Int} (h : ¬ Prime T cl) : primeB T cl = false := by
  cases hb : primeB T cl
  · rfl
  · exact absurd (primeB_iff.1 hb) h

def CnPost (w : World) (l : List Int) (n : Nat) (e : Ending) (w' : World) : Prop :=
  ∃ g cap, e = .returned (.slice (some ⟨g, 0, none⟩) n cap) ∧ w'.ownsRow w.heap.size 3 1 (.slice (some ⟨g, 0, none⟩) n cap) n (l.map (Value.int .i64)) ∧ Below w.heap.size w w'
theorem clone_ne {w : World} {l : List Int} {v : Value} {n : Nat} (h : CAt w l v) (hn : l.length = n) (hl : n ≤ 1000000) (hne : l ≠ []) : Calls Try.prog 60 #[v] w (CnPost w l n) := by
  subst hn
  refine (clone_cl h hl).mono ?_
  rintro e w' ⟨a, cap, rfl, ow, hs, bl⟩
  obtain ⟨g, rfl⟩ := hs.resolve_left hne
  exact ⟨g, cap, rfl, ow, bl⟩

set_option maxRecDepth 100000 in
set_option maxHeartbeats 2000000 in
theorem try_leaf {cl : List Int} {v : Value} (h : TS B T vs va vc root w M ns dn S ov ls) (hc : CF w (Fo M S B.bo) cl v) (hcl : Cl cl) (h8 : cl.length ≤ 8) (hv8 : vs.length ≤ 8) (hl : ns.length + 4718592 + 65536 ≤ 1000000000000) (hls : ls.length ≤ 10000) :
    Calls Try.prog 72 #[.int .i64 vs.length, v, .pointer (some ⟨B.bv, 0, none⟩), .pointer (some ⟨B.bt, 0, none⟩), .pointer (some ⟨B.bm, 0, none⟩), .pointer (some ⟨B.br, 0, none⟩), .pointer (some ⟨B.bo, 0, none⟩)] w (TrPost B T vs va vc root w M ns S (ls ++ [cl].filter (primeB T)) 4718592) := by
  have CFH := Lib.hid hc
  obtain ⟨a, cap, rfl, hI, hfar⟩ := hc.form
  obtain ⟨c0, c1, c2, c3, c4⟩ := h.reads
  have IM := Lib.hid (implied_any (cap := cap) h.st h.rf h.tb hcl hI (fun hne b o e hf => (hfar hne b o e).2 (Or.inl hf)) rfl (by omega) (by omega))
  clear hI hfar hc
  have H := Lib.hid h; clear h
  have CL := Lib.hid hcl; clear hcl
  obtain ⟨n, hn⟩ : ∃ n, cl.length = n := ⟨_, rfl⟩
  rw [hn] at IM h8 ⊢
  have HN := Lib.hid hn; clear hn
  obtain ⟨nv, hnv⟩ : ∃ nv, vs.length = nv := ⟨_, rfl⟩
  rw [hnv] at c0 hv8 ⊢
  clear hnv
  have i0 : ¬ ((nv : Int) < (nv : Int)) := by omega
  clear c1 c4
  by_cases hi : Imp T cl
  · rw [impB_iff.2 hi] at IM
    have HI := Lib.hid hi; clear hi
    go_enter Try.func72, Try.ntmps72
    go_wp2_with fail
    refine IM.out.mono ?_
    clear IM
    rintro e w1 ⟨ns1, dn1, v1, rfl, ⟨ms1, e1, l1⟩, st1, sp1⟩
    obtain ⟨t1, f1⟩ := H.out.step st1 sp1 e1
    have TS1 := Lib.hid t1; clear t1 st1 sp1
    have FS1 := Lib.hid f1; clear f1
    have L1 : ns1.length ≤ ns.length + 524288 := by rw [e1, List.length_append]; omega
    clear e1 l1 c0 c2 c3
    go_wp2_with fail
    go_loopw [53] (fun kv wr => TlL B T vs va vc root w M ns S ov ls cl n kv wr) (fun kv _ => n - (intOf kv).toNat)
    case atStart => exact ⟨0, ns1, dn1, v1, by omega, rfl, fun i hi => absurd hi (by omega), TS1.out, FS1.out, by omega⟩
    case round =>
      clear TS1 FS1 L1
      obtain ⟨k, ns2, dn2, v2, hk, rfl, hno, t2, f2, l2⟩ := hrel
      have NO := Lib.hid hno; clear hno
      have TS2 := Lib.hid t2; clear t2
      have FS2 := Lib.hid f2; clear f2
      by_cases hkn : k < n
      · have j1 : (k : Int) < (n : Int) := by omega
        have j2 : IntKind.i64.wrap ((k : Int) + 1) = (k : Int) + 1 := IntWalk.i64_in _ (by omega)
        have hne : Hid (cl ≠ []) := by intro e; have := HN.out; rw [e] at this; simp at this; omega
        obtain ⟨t3, f3⟩ := TS2.out.below ((Below.refl wr.heap.size wr).drew)
        have CF3 := Lib.hid ((CFH.out.step FS2.out).step f3)
        have TS3 := Lib.hid t3; clear t3
        have FS3 := Lib.hid (FS2.out.trans f3); clear f3
        have C60 := clone_ne CF3.out.at_ HN.out (by omega) hne.out
        rw [HN.out] at C60
        have C60 := Lib.hid C60
        have EL : (cl.eraseIdx k).length = n - 1 := by rw [List.length_eraseIdx, if_pos (by rw [HN.out]; exact hkn), HN.out]
        have C73 : Hid (∀ (W : World) (g2 c2 : Nat), Below wr.drew.heap.size wr.drew W → IAt W (cl.eraseIdx k) (some ⟨g2, 0, none⟩) → wr.drew.heap.size ≤ g2 → Calls Try.prog 73 #[.pointer (some ⟨M.b, 0, none⟩), .int .i64 root, .slice (some ⟨g2, 0, none⟩) (cl.eraseIdx k).length c2] W (ImPost W { M with v := v2 } ns2 (impB T (cl.eraseIdx k)) ((cl.eraseIdx k).length * 65536))) := by
          intro W g2 c2 hb hI hg
          obtain ⟨t4, _⟩ := TS3.out.below hb
          refine implied_any (M := { M with v := v2 }) t4.st t4.rf t4.tb (CL.out.sub (List.eraseIdx_sublist _ _)) hI (fun _ b o e hf => ?_) rfl (by omega) (by omega)
          injection e with e
          injection e with e1 e2
          subst e1
          have := TS3.out.st.mgr.lt hf
          omega
        obtain ⟨c0, c1, c2, c3, c4⟩ := TS2.out.reads
        clear c0 c1 c4
        have EN : Hid ((cl.eraseIdx k).length = n - 1) := EL
        clear EL
        go_upto_region 8 with fail
        go_region_held3 (fun W => W.cell? ⟨B.bm, 0, none⟩ = some (.pointer (some ⟨M.b, 0, none⟩)) ∧ W.cell? ⟨B.br, 0, none⟩ = some (.int .i64 root))
          (first
            | exact ⟨c2, c3⟩
            | exact ⟨x2, x3⟩
            | exact ⟨y2, y3⟩
            | exact ⟨z2, z3⟩
            | go_keep)
          (first
            | (go_at_call 60; refine C60.out.mono ?_; rintro e w4 ⟨g4, cap4, rfl, ow4, bl4⟩; obtain ⟨t4, _⟩ := TS3.out.below bl4; obtain ⟨_, _, x2, x3, _⟩ := t4.reads; have OW4 := Lib.hid ow4; have BL4 := Lib.hid bl4; clear ow4 bl4 t4)
            | (go_at_call 74; refine (delete_own OW4.out (by omega) BL4.out.size hkn).mono ?_; rintro e w5 ⟨rfl, ia5, hg5, bl5⟩; have BL5 := Lib.hid (BL4.out.trans bl5); obtain ⟨t5, _⟩ := TS3.out.below BL5.out; obtain ⟨_, _, y2, y3, _⟩ := t5.reads; have IA5 := Lib.hid ia5; have HG5 := Lib.hid hg5; clear ia5 hg5 bl5; have TS5 := Lib.hid t5; clear t5)
            | (go_at_call 73; refine (C73.out w5 g4 cap4 BL5.out IA5.out HG5.out).mono ?_; rintro e w6 ⟨ns6, dn6, v6, rfl, ⟨ms6, e6, l6⟩, st6, sp6⟩; obtain ⟨t6, f6⟩ := TS5.out.step st6 sp6 e6; obtain ⟨_, _, z2, z3, _⟩ := t6.reads; have TS6 := Lib.hid t6; have F6 := Lib.hid f6; clear t6 f6 st6 sp6))
        have FS6 := Lib.hid (FS3.out.trans ((TS3.out.below BL5.out).2.trans F6.out))
        have L6 : ns6.length ≤ ns2.length + (n - 1) * 65536 := by rw [e6, List.length_append, ← EN.out]; omega
        clear c2 c3 x2 x3 y2 y3 z2 z3 l6 e6 j2
        by_cases hik : Imp T (cl.eraseIdx k)
        · rw [impB_iff.2 hik]
          have PB : Hid ([cl].filter (primeB T) = []) := by
            show _ = _
            rw [List.filter_cons_of_neg (by rw [primeB_false (fun p => p.2 k (by rw [HN.out]; exact hkn) hik)]; simp)]; rfl
          clear hik
          go_wp2_with fail
          go_end0
          exact ⟨v6, ns6, dn6, S, ov, rfl, by rw [PB.out, List.append_nil]; exact TS6.out, FS6.out, by omega⟩
        · rw [impB_false hik]
          have NO2 : Hid (∀ i, i < k + 1 → ¬ Imp T (cl.eraseIdx i)) := fun i hi => by
            rcases lt_succ hi with e | e
            · exact NO.out i e
            · rw [e]; exact hik
          clear hik
          go_wp2_with fail
          go_roundw
          case rel => exact ⟨k + 1, ns6, dn6, v6, by omega, by go_num, NO2.out, TS6.out, FS6.out, by omega⟩
          case measure => simp [intOf]; omega
      · obtain rfl : k = n := by omega
        have j1 : ¬ ((k : Int) < (k : Int)) := by omega
        have PB : Hid ([cl].filter (primeB T) = [cl]) := by
          show _ = _
          rw [List.filter_cons_of_pos (primeB_iff.2 ⟨HI.out, fun i hi => NO.out i (by rw [HN.out] at hi; exact hi)⟩)]; rfl
        obtain ⟨t3, f3⟩ := TS2.out.below ((Below.refl wr.heap.size wr).drew)
        have CF3 := Lib.hid ((CFH.out.step FS2.out).step f3)
        have TS3 := Lib.hid t3; clear t3
        have FS3 := Lib.hid (FS2.out.trans f3); clear f3
        have C60 := clone_cl CF3.out.at_ (by rw [HN.out]; omega)
        rw [HN.out] at C60
        have C60 := Lib.hid C60
        obtain ⟨c0, c1, c2, c3, c4⟩ := TS2.out.reads
        have f4 : wr.frozen? ⟨B.bo, 0, none⟩ = false := (one_cell TS2.out.co).2
        clear c0 c1 c2 c3
        obtain ⟨vals, hvals⟩ := TS3.out.out
        have LV := Lib.hid hvals; clear hvals
        obtain ⟨oa, oc, rfl⟩ := LV.out.form
        have hz : B.bo < wr.heap.size := lt_of_some TS2.out.co
        have hzd : Hid (wr.drew.heap.size = wr.heap.size) := rfl
        obtain ⟨i0, hi0, hz0, hz1, hz2⟩ := info_parts info53
        have ow : Hid (∀ g, (Value.slice oa ls.length oc).ownBlock = some g → g ≠ B.bo) := fun g hg e => TS2.out.fo.2 (e ▸ LV.out.rs g hg)
        go_upto_region 10 with fail
        go_region_law (first
          | (refine step_append_lies _ (by rfl) _ _ _ (by rfl) 0 53 i0 _ 1 24 Try.underlying44 hi0 hz0 hz1 hz2 rfl (by omega) (.slice oa ls.length oc) ls.length vals (by rfl) ((LV.out.keep (w' := w4.alloc (.cells #[.slice a4 cl.length cap4] 53)) (fun b hb => (Below.heap_alloc w4 _ b (Nat.lt_of_lt_of_le (LV.out.lt b hb) BL4.out.size)).trans (BL4.out.block b (LV.out.lt b hb))) (by simp; have := BL4.out.size; omega)).row) ⟨w4.heap.size, 0, none⟩ 1 1 [.slice a4 cl.length cap4] (by rfl) (by rfl) (World.news_of_block (cs := #[.slice a4 cl.length cap4]) (t := 53) (fr := (0, 0)) (heap_alloc_new w4 _)) (by simp [Value.oneCell']) (by omega) (by unfold maxLen; omega) (by omega) (by simp) (w4.heap.size + 1) (by simp) ?_; intro g5 cap5 w5 hown5 hgrow5 hat5 hlt5; have OW5 := Lib.hid hown5; have GR5 := Lib.hid hgrow5; have AT5 := Lib.hid hat5; clear hown5 hgrow5 hat5 hlt5; have eb : w5.heap[B.bo]? = w4.heap[B.bo]? := ((GR5.out.block B.bo (by simp; omega) (fun e => ow.out _ e.symm rfl)).trans (Below.heap_alloc w4 _ B.bo lb)); have r0 := (World.cell?_of_block (a := ⟨B.bo, 0, none⟩) eb).trans s0; have rf : w5.frozen? ⟨B.bo, 0, none⟩ = false := (by have e2 : w5.frozen? ⟨B.bo, 0, none⟩ = w4.frozen? ⟨B.bo, 0, none⟩ := (by simp only [World.frozen?, eb]); rw [e2]; exact sf); clear eb)
          | (go_simp; go_at_call 60; refine C60.out.mono ?_; rintro e w4 ⟨a4, cap4, rfl, ow4, hs4, bl4⟩; have OW4 := Lib.hid ow4; have HS4 := Lib.hid hs4; have BL4 := Lib.hid bl4; have s0 := cell_later bl4 c4; have sf : w4.frozen? ⟨B.bo, 0, none⟩ = false := ((bl4.frozen (p := ⟨B.bo, 0, none⟩) (by show B.bo < wr.heap.size; omega)).trans f4); have lz : wr.heap.size ≤ w4.heap.size := bl4.size; clear bl4 ow4 hs4; have lb : B.bo < w4.heap.size := (by omega)))
        all_goals
          go_wp2_with fail
          go_end0
          have hin : cl ≠ [] → ∃ g, a4 = some ⟨g, 0, none⟩ ∧ wr.drew.heap.size ≤ g ∧ g < (w4.alloc (.cells #[.slice a4 cl.length cap4] 53)).heap.size ∧ ∀ j, j < cl.length → (w4.alloc (.cells #[.slice a4 cl.length cap4] 53)).cell? ⟨g, j, none⟩ = some (.int .i64 (cl.getD j 0)) := by
            intro hne
            obtain ⟨g, rfl⟩ := HS4.out.resolve_left hne
            have l := OW4.out.lt g rfl
            refine ⟨g, rfl, l.1, by simp; omega, fun j hj => ?_⟩
            have := OW4.out.cellAt j (by omega)
            exact (World.cell?_of_block (a := ⟨g, j, none⟩) (Below.heap_alloc w4 _ g l.2)).trans (this.trans (map_get hj))
          obtain ⟨S', t7, f7⟩ := TS3.out.push (w1 := w4.alloc (.cells #[.slice a4 cl.length cap4] 53)) (w2 := w5) (ov' := .slice (some ⟨g5, 0, none⟩) (ls.length + 1) cap5) (l := cl) (a := a4) (cc := cap4) (gr := g5) LV.out (BL4.out.alloc BL4.out.size _) hin GR5.out OW5.out rfl (by
            rcases AT5.out with e | e
            · exact Or.inl e
            · right; rw [e]; simp)
          exact ⟨v2, ns2, dn2, S', _, rfl, by rw [PB.out]; exact t7, FS3.out.trans f7, by omega⟩
  · rw [impB_false hi] at IM
    have PB : Hid ([cl].filter (primeB T) = []) := by
      show _ = _
      rw [List.filter_cons_of_neg (by rw [primeB_false (fun p => hi p.1)]; simp)]; rfl
    clear hi
    go_enter Try.func72, Try.ntmps72
    go_wp2_with fail
    refine IM.out.mono ?_
    clear IM
    rintro e w1 ⟨ns1, dn1, v1, rfl, ⟨ms1, e1, l1⟩, st1, sp1⟩
    obtain ⟨t1, f1⟩ := H.out.step st1 sp1 e1
    have TS1 := Lib.hid t1; clear t1 st1 sp1
    have FS1 := Lib.hid f1; clear f1
    have L1 : ns1.length ≤ ns.length + 524288 := by rw [e1, List.length_append]; omega
    clear e1 l1 c0 c2 c3
    go_wp2_with fail
    go_end0
    exact ⟨v1, ns1, dn1, S, ov, rfl, by rw [PB.out, List.append_nil]; exact TS1.out, FS1.out, by omega⟩
end

end Go.Proofs.Ythhogbligfmpdaa
