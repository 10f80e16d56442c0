/- The reference's Models. -/
import Derived.Test.YthhogbligfmpdaaXt
import Derived.Test.YthhogbligfmpdaaXl
set_option linter.unusedVariables false
set_option linter.unusedSimpArgs false
namespace Go.Proofs.Ythhogbligfmpdaa
open Go.RowKit Bd

/-- The lists of the first k entries, at most so many. -/
def rls (T : List Bool) (V mo k : Nat) : List (List Int) := ((hits T V k).map (bitsOf V)).take mo

theorem rls_skip {T : List Bool} {V mo k : Nat} (h : mo ≤ (rls T V mo k).length) : rls T V mo (k + 1) = rls T V mo k := by
  unfold rls at *
  rw [hits_succ, List.map_append, List.take_append_of_le_length]
  simp at h ⊢
  omega
theorem rls_no {T : List Bool} {V mo k : Nat} (h : T.getD (k * 2 ^ (16 - V)) false = false) : rls T V mo (k + 1) = rls T V mo k := by
  unfold rls
  rw [hits_succ, h]
  simp
theorem rls_yes {T : List Bool} {V mo k : Nat} (h : T.getD (k * 2 ^ (16 - V)) false = true) (hl : (rls T V mo k).length < mo) : rls T V mo (k + 1) = rls T V mo k ++ [bitsOf V k] := by
  have hh : ((hits T V k).map (bitsOf V)).length < mo := by
    unfold rls at hl
    rw [List.length_take] at hl
    omega
  unfold rls
  rw [hits_succ, h, List.map_append, List.take_of_length_le (by simp at hh ⊢; omega), List.take_of_length_le (by omega)]
  rfl
theorem rls_le (T : List Bool) (V mo k : Nat) : (rls T V mo k).length ≤ mo := List.length_take_le _ _

theorem LLs.gw {T : Nat} {w w' : World} {ov : Value} {ls : List (List Int)} {vals : List Value} (h : LLs T w ov ls vals) (hb : Below w.heap.size w w') : LLs T w' ov ls vals := h.keep fun b _ hb' => hb.block b hb'

/-- The state of the outer loop: lists in memory of one's own; the table as it was. -/
structure RmR (T0 : Nat) (w : World) (ls : List (List Int)) (wr : World) (ov : Value) : Prop where
  ll : ∃ vals, LLs T0 wr ov ls vals
  bel : Below w.heap.size w wr

def RmL (TT : List Bool) (V mo : Nat) (w : World) (N : Nat) (ov iv : Value) (wr : World) : Prop :=
  ∃ k a cap, k ≤ N ∧ iv = .int .i64 (k : Nat) ∧ ov = .slice a (rls TT V mo k).length cap ∧ RmR w.heap.size w (rls TT V mo k) wr ov

/-- The inner loop: the bits of a number so far. -/
def RmI (T0 V k : Nat) (w : World) (lv iv : Value) (wr : World) : Prop :=
  ∃ v a cap, v ≤ V ∧ iv = .int .i64 (v : Nat) ∧ lv = .slice a v cap ∧ wr.ownsRow T0 3 1 lv v (((bitsOf V k).take v).map (Value.int .i64)) ∧ Below w.heap.size w wr

theorem bits_step (V k v : Nat) (h : v < V) : (bitsOf V k).take (v + 1) = (bitsOf V k).take v ++ [(((k.testBit (V - 1 - v)).toNat : Nat) : Int)] := by
  have hl : v < (bitsOf V k).length := by rw [bitsOf_len]; exact h
  rw [List.take_succ_eq_append_getElem hl]
  have := bitsOf_get V k v h
  rw [List.getD_eq_getElem?_getD, List.getElem?_eq_getElem hl] at this
  simp at this
  rw [this]

def LxPost (w : World) (ls : List (List Int)) (e : Ending) (w' : World) : Prop := ∃ a cap, e = .returned (.slice a ls.length cap) ∧ LAt w' ls a ∧ Below w.heap.size w w'

theorem shl_in {k V : Nat} (hV : V ≤ 16) (hk : k < 2 ^ V) : k * 2 ^ (16 - V) < 65536 ∧ wrap64 ((k : Int) * 2 ^ (16 - V)) = ((k * 2 ^ (16 - V) : Nat) : Int) := by
  have h1 : k * 2 ^ (16 - V) < 65536 := by
    have : k * 2 ^ (16 - V) < 2 ^ V * 2 ^ (16 - V) := Nat.mul_lt_mul_of_pos_right hk (Nat.two_pow_pos _)
    rw [← Nat.pow_add, show V + (16 - V) = 16 from by omega, two16] at this
    exact this
  exact ⟨h1, wr_mul (by omega)⟩

theorem shl_wrap {k V x : Nat} (hV : V ≤ 16) (hk : k < 2 ^ V) (hx : k * 2 ^ (16 - V) = x) : x < 65536 ∧ IntKind.i64.wrap ((k : Int) * 2 ^ (16 - V)) = (x : Int) := by
  obtain ⟨s1, _⟩ := shl_in hV hk
  have e : (k : Int) * 2 ^ (16 - V) = ((k * 2 ^ (16 - V) : Nat) : Int) := by simp
  rw [e, hx]
  rw [hx] at s1
  exact ⟨s1, IntWalk.i64_in _ (by omega)⟩
theorem one_wrap {V N : Nat} (hN : 2 ^ V = N) (h : N ≤ 65536) : IntKind.i64.wrap ((2 : Int) ^ V) = (N : Int) ∧ IntKind.i64.wrap ((1 : Int) * 2 ^ V) = (N : Int) := by
  have e : (2 : Int) ^ V = ((2 ^ V : Nat) : Int) := by simp
  rw [Int.one_mul, e, hN]
  exact ⟨IntWalk.i64_in _ (by omega), IntWalk.i64_in _ (by omega)⟩
theorem shr_bit {k V v N : Nat} (hN : 2 ^ V = N) (hk : k < N) (hN6 : N ≤ 65536) : bits .and .i64 ((k : Int) / 2 ^ (V - 1 - v)) 1 = (((k.testBit (V - 1 - v)).toNat : Nat) : Int) := bit_of k _ (by omega)

set_option maxRecDepth 100000 in
set_option maxHeartbeats 1000000 in
theorem rmodels_any {w : World} {ds : List Nd} {a : Option Addr} {n cap V mo : Nat} {root : Int} (hd : DAt w ds a) (o : Ord ds) (hr : Ref ds root) (hn : ds.length = n) (hl : n ≤ 2000) (hV : V ≤ 16) (hmo : mo ≤ 65536) :
    Calls Try.prog 27 #[.agg #[.slice a n cap, .int .i64 root], .int .i64 V, .int .i64 mo] w (LxPost w (rls (tb ds 16 root) V mo (2 ^ V))) := by
  have N1 := Lib.hid (heap_alloc_new w (.cells #[.slice a n cap, .int .i64 root] 27))
  have B1 : Hid (Below w.heap.size w (w.alloc (.cells #[.slice a n cap, .int .i64 root] 27))) := (Below.refl _ _).alloc (Nat.le_refl _) _
  obtain ⟨z, hz⟩ : ∃ n : Nat, n = 65536 := ⟨_, rfl⟩
  have CT := Lib.hid (table_any (cap := cap) (n := z) (hd.below B1.out) o hr hn hl hz)
  clear hd o hr hn
  have hz1 : 65536 ≤ z := by omega
  have hz2 : z ≤ 65536 := by omega
  clear hz
  obtain ⟨i0, hi0, hy0, hy1, hy2⟩ := info_parts info3
  obtain ⟨j0, hj0, hx0, hx1, hx2⟩ := info_parts info53
  generalize tb ds 16 root = TT at *
  go_enter Try.func27, Try.ntmps27
  go_wp2_with fail
  generalize w.alloc (.cells #[.slice a n cap, .int .i64 root] 27) = w1 at *
  refine CT.out.mono ?_
  clear CT
  rintro e w2 ⟨g, hg, hgl, rfl, t1, _, bl2⟩
  have T1 := Lib.hid t1; clear t1
  have B2 := Lib.hid (Below.over B1.out B1.out.size bl2); clear bl2
  obtain ⟨N, hN⟩ : ∃ N, 2 ^ V = N := ⟨_, rfl⟩
  have hN6 : N ≤ 65536 := by rw [← hN, ← two16]; exact pow_mono hV
  have WN := Lib.hid (one_wrap hN hN6)
  have HN := Lib.hid hN; clear hN
  go_wp2_with fail
  go_loopw [8, 9] (fun ov iv wr => RmL TT V mo w2 N ov iv wr) (fun _ iv _ => N - (intOf iv).toNat)
  case atStart => exact ⟨0, none, 0, by omega, rfl, by simp [rls, hits], ⟨[], by simp [rls, hits]; exact LLs.nil _ _⟩, Below.refl _ _⟩
  case round =>
    obtain ⟨k, oa, oc, hk, rfl, rfl, hR⟩ := hrel
    have HR := Lib.hid hR; clear hR
    have hle := rls_le TT V mo k
    by_cases hkN : k < N
    · have T1r := Lib.hid (fun (j : Nat) (hj : j < z) => (World.cell?_of_block (a := ⟨g, j, none⟩) (HR.out.bel.block g hgl)).trans (T1.out j hj))
      have k6 : k < 65536 := by omega
      have kN : (k : Int) < (N : Int) := by omega
      obtain ⟨x, hx⟩ : ∃ x, k * 2 ^ (16 - V) = x := ⟨_, rfl⟩
      obtain ⟨x6, wx⟩ := shl_wrap hV (by rw [HN.out]; exact hkN) hx
      have WX := Lib.hid wx; clear wx
      have xz : (x : Int) < (z : Int) := by omega
      have tx := T1r.out x (by omega)
      obtain ⟨tb1, htb⟩ : ∃ b, TT.getD x false = b := ⟨_, rfl⟩
      have tc : wr.cell? ⟨g, x, none⟩ = some (.bool tb1) := by rw [tx]; show some (Value.bool (TT.getD x false)) = _; rw [htb]
      have HTB : Hid (TT.getD (k * 2 ^ (16 - V)) false = tb1) := by show _ = _; rw [hx]; exact htb
      clear tx hx htb
      have V16 : (V : Int) ≤ 16 := by omega
      by_cases hf : (rls TT V mo k).length < mo
      · have gd : decide ((rls TT V mo k).length < mo) = true := by simpa using hf
        cases tb1
        · have E := Lib.hid (rls_no (mo := mo) HTB.out)
          have wx := WX.out
          have wn1 := WN.out.1
          have wn2 := WN.out.2
          go_wp2_with fail
          clear wx wn1 wn2
          go_roundw
          case rel => exact ⟨k + 1, oa, oc, by omega, by go_num, by rw [E.out], by rw [E.out]; exact HR.out⟩
          case measure => simp [intOf]; omega
        · have E := Lib.hid (rls_yes HTB.out hf)
          have wx := WX.out
          have wn1 := WN.out.1
          have wn2 := WN.out.2
          go_wp2_with fail
          clear wx wn1 wn2 tc
          obtain ⟨wo, rfl⟩ : ∃ wo : World, wo = wr := ⟨_, rfl⟩
          go_loopw [10, 11] (fun lv iv wi => RmI wo.heap.size V k wo lv iv wi) (fun _ iv _ => V - (intOf iv).toNat)
          case atStart => exact ⟨0, none, 0, by omega, rfl, rfl, ⟨by simp, Or.inl ⟨rfl, rfl⟩⟩, Below.refl _ _⟩
          case round =>
            obtain ⟨v, la, lc, hv, rfl, rfl, row, bl⟩ := hrel
            have RW := Lib.hid row; clear row
            have BL := Lib.hid bl
            have bls : wo.heap.size ≤ wr.heap.size := bl.size
            clear bl
            by_cases hvV : v < V
            · have i1 : (v : Int) < (V : Int) := by omega
              have i2 : (0 : Int) ≤ (V : Int) - 1 - (v : Int) := by omega
              have i4 : (V : Int) - 1 - (v : Int) ≤ 15 := by omega
              have SB := Lib.hid (shr_bit (v := v) HN.out hkN hN6)
              have BS := Lib.hid (bits_step V k v hvV)
              go_wp2_with (at_builtin; refine wpList_append_lies _ rfl _ _ 53 rfl wo.heap.size 3 i0 (.int .i64 0) 1 8 Try.underlying53 hi0 hy0 hy1 hy2 rfl (by omega) (.slice la v lc) v (((bitsOf V k).take v).map (Value.int .i64)) rfl (RW.out.alloc _) ⟨wr.heap.size, 0, none⟩ 1 1 [.int .i64 (bits .and .i64 ((k : Int) / 2 ^ (V - 1 - v)) 1)] rfl rfl (World.news_of_block (cs := #[.int .i64 (bits .and .i64 ((k : Int) / 2 ^ (V - 1 - v)) 1)]) (t := 3) (fr := (0, 0)) (heap_alloc_new wr _)) (by simp [Value.oneCell']) (by omega) (by unfold maxLen; omega) (by omega) (by simp; omega) (wr.heap.size + 1) (by simp) ?_; intro g4 cap4 w4 hown4 hgrow4 hat4 hlt4; have OW := Lib.hid hown4; have GR := Lib.hid hgrow4; clear hown4 hgrow4 hat4 hlt4)
              have ow : Hid (∀ x, (Value.slice la v lc).ownBlock = some x → wo.heap.size ≤ x) := fun x hx => (RW.out.lt x hx).1
              have B4 : Hid (Below wo.heap.size wo w4) := ⟨GR.out.os.trans BL.out.os, GR.out.tape.trans BL.out.tape, GR.out.output.trans BL.out.output, by have := GR.out.size; simp at this; omega, fun b hb => by
                rw [GR.out.block b (by simp; omega) (fun e => by have := ow.out b e.symm; omega), Below.heap_alloc wr _ b (by omega)]
                exact BL.out.block b hb⟩
              go_roundw
              case rel => exact ⟨v + 1, some ⟨g4, 0, none⟩, cap4, by omega, by go_num, rfl, by
                have := OW.out
                rw [BS.out, List.map_append, ← SB.out]
                exact this, B4.out⟩
              case measure => simp [intOf]; omega
            · obtain rfl : v = V := by omega
              have i1 : ¬ ((v : Int) < (v : Int)) := by omega
              have hbl := bitsOf_len v k
              have RB : Hid (wr.ownsRow wo.heap.size 3 1 (.slice la v lc) v ((bitsOf v k).map (Value.int .i64))) := by
                have := RW.out
                rw [List.take_of_length_le (by rw [hbl]; exact Nat.le_refl _)] at this
                exact this
              have HBL := Lib.hid hbl; clear hbl
              obtain ⟨vals, hvals⟩ := HR.out.ll
              have LV := Lib.hid hvals; clear hvals
              have LV2 : Hid (LLs w2.heap.size wr (.slice oa (rls TT v mo k).length oc) (rls TT v mo k) vals) := LV.out.gw BL.out
              have w2s : w2.heap.size ≤ wo.heap.size := HR.out.bel.size
              have lle : (rls TT v mo k).length ≤ 65536 := by omega
              obtain ⟨len, hlen⟩ : ∃ len, (rls TT v mo k).length = len := ⟨_, rfl⟩
              have HLEN := Lib.hid hlen
              have LVR : Hid ((wr.alloc (.cells #[.slice la v lc] 53)).ownsRow w2.heap.size 53 1 (.slice oa len oc) len vals) := by
                have := LV2.out.row
                rw [hlen] at this
                exact this.alloc _
              rw [hlen] at lle
              rw [hlen]
              clear hlen
              go_wp2_with (at_builtin; refine wpList_append_lies _ rfl _ _ 44 rfl w2.heap.size 53 j0 (.slice none 0 0) 1 24 Try.underlying44 hj0 hx0 hx1 hx2 rfl (by omega) (.slice oa len oc) len vals rfl LVR.out ⟨wr.heap.size, 0, none⟩ 1 1 [.slice la v lc] rfl rfl (World.news_of_block (cs := #[.slice la v lc]) (t := 53) (fr := (0, 0)) (heap_alloc_new wr _)) (by simp [Value.oneCell']) (by omega) (by unfold maxLen; omega) (by omega) (by simp; omega) (wr.heap.size + 1) (by simp) ?_; intro g4 cap4 w4 hown4 hgrow4 hat4 hlt4; have OW := Lib.hid hown4; have GR := Lib.hid hgrow4; have AT := Lib.hid hat4; clear hown4 hgrow4 hat4 hlt4)
              have PU : Hid (LLs w2.heap.size w4 (.slice (some ⟨g4, 0, none⟩) (len + 1) cap4) (rls TT v mo k ++ [bitsOf v k]) (vals ++ [.slice la (bitsOf v k).length lc])) := by
                refine LV.out.push (w1 := wr.alloc (.cells #[.slice la v lc] 53)) (gr := g4) (l := bitsOf v k) (a := la) (cap := lc) (fun b _ hb => (Below.heap_alloc wr _ b (by omega)).trans (BL.out.block b hb)) (by simp; omega) (fun hne => ?_) ?_ ?_ rfl ?_
                · rcases RB.out.2 with ⟨_, h2⟩ | ⟨g5, cap5, cur, hv5, hg5, hc5, _⟩
                  · have : (bitsOf v k).length = 0 := by rw [HBL.out]; exact h2
                    exact absurd (List.length_eq_zero_iff.1 this) hne
                  · have hr5 := RB.out
                    rw [hv5] at hr5
                    injection hv5 with e1 e2 e3
                    refine ⟨g5, e1, by omega, hg5, by have := lt_of_some hc5; simp; omega, fun j hj => ?_⟩
                    have hj2 : j < v := by rw [HBL.out] at hj; exact hj
                    have c5 := hr5.cellAt j (by omega)
                    rw [map_get hj] at c5
                    exact (World.cell?_of_block (a := ⟨g5, j, none⟩) (Below.heap_alloc wr _ g5 (lt_of_some hc5))).trans c5
                · rw [HLEN.out]; exact GR.out
                · rw [HLEN.out, HBL.out]; exact OW.out
                · rcases AT.out with e | e
                  · left; rw [HLEN.out]; exact e
                  · right; rw [e]; simp
              have ow2 : Hid (∀ x, (Value.slice oa len oc).ownBlock = some x → w2.heap.size ≤ x) := fun x hx => (LVR.out.lt x hx).1
              have B5 : Hid (Below w2.heap.size w2 w4) := ⟨GR.out.os.trans (BL.out.os.trans HR.out.bel.os), GR.out.tape.trans (BL.out.tape.trans HR.out.bel.tape), GR.out.output.trans (BL.out.output.trans HR.out.bel.output), by have := GR.out.size; simp at this; omega, fun b hb => by
                rw [GR.out.block b (by simp; omega) (fun e => by have := ow2.out b e.symm; omega), Below.heap_alloc wr _ b (by omega), BL.out.block b (by omega)]
                exact HR.out.bel.block b hb⟩
              go_wp2_with fail
              go_roundw
              case rel =>
                refine ⟨k + 1, some ⟨g4, 0, none⟩, cap4, by omega, by go_num, ?_, ?_⟩
                · rw [E.out, List.length_append, HLEN.out]; rfl
                · rw [E.out]; exact ⟨⟨_, PU.out⟩, B5.out⟩
              case measure => simp [intOf]; omega
      · have gd : decide ((rls TT V mo k).length < mo) = false := by simpa using hf
        have E := Lib.hid (rls_skip (T := TT) (V := V) (mo := mo) (k := k) (by omega))
        have wn1 := WN.out.1
        have wn2 := WN.out.2
        clear tc
        go_wp2_with fail
        clear wn1 wn2
        go_roundw
        case rel => exact ⟨k + 1, oa, oc, by omega, by go_num, by rw [E.out], by rw [E.out]; exact HR.out⟩
        case measure => simp [intOf]; omega
    · have ek : Hid (k = 2 ^ V) := by show _ = _; rw [HN.out]; omega
      have kN : ¬ ((k : Int) < (N : Int)) := by omega
      have wn1 := WN.out.1
      have wn2 := WN.out.2
      obtain ⟨vals, hv⟩ := HR.out.ll
      have LA := Lib.hid hv.lAt.1
      have BF := Lib.hid (Below.over B2.out B2.out.size HR.out.bel)
      clear hv
      go_wp2_with fail
      go_ret
      rw [← ek.out]
      exact ⟨oa, oc, rfl, LA.out, BF.out⟩

end Go.Proofs.Ythhogbligfmpdaa
