/- The law BoolImplicatesMeanTheFunction: its walk. -/
import Derived.Test.YthhogbligfmpdaaZd
import Derived.Test.YthhogbligfmpdaaYr
set_option linter.unusedVariables false
set_option linter.unusedSimpArgs false
namespace Go.Proofs.Ythhogbligfmpdaa
open Go.RowKit Bd

theorem litF_ev {l : Int} (h : Bd.Lit l) (x : Nat) : evF (litF l) x = lt1 x l := by
  obtain ⟨h1, h2, h3⟩ := h
  unfold litF lt1 lk lv kO
  by_cases hp : 0 < l
  · rw [if_pos hp, if_pos hp, evF_var]
    have : lb l = false := by simp [lb, hp]
    rw [this, show (15 - (l - 1)).toNat = 15 - (l - 1).toNat from by omega]
    simp
  · rw [if_neg hp, if_neg hp]
    have : lb l = true := by simp [lb, hp]
    rw [this]
    have e : evF (.mk 3 0 [.mk 1 (-l - 1) []]) x = !(evF (.mk 1 (-l - 1) []) x) := by simp [evF, evF.evL, opF]
    rw [e, evF_var, show (15 - (-l - 1)).toNat = 15 - (-l - 1).toNat from by omega]
    simp
theorem clF_ev {cl : List Int} (h : ∀ l ∈ cl, Bd.Lit l) (x : Nat) : evF (clF cl) x = allT [cl] x := by
  have e : evF (clF cl) x = (evF.evL (cl.map litF) x).any id := by simp [clF, evF, opF]
  rw [e, evL_eq]
  unfold allT
  simp only [List.all_cons, List.all_nil, Bool.and_true, List.map_map, List.any_map]
  rw [Bool.eq_iff_iff, List.any_eq_true, List.any_eq_true]
  exact ⟨fun ⟨l, a, b⟩ => ⟨l, a, by rw [← litF_ev (h l a)]; exact b⟩, fun ⟨l, a, b⟩ => ⟨l, a, by show evF (litF l) x = true; rw [litF_ev (h l a)]; exact b⟩⟩
theorem litF_cnt (l : Int) : cnt (litF l) ≤ 2 := by
  unfold litF; split <;> simp [cnt, cnt.cntL]
theorem litF_fault {l : Int} (h : Bd.Lit l) : fault (litF l) = 0 := by
  obtain ⟨h1, h2, h3⟩ := h
  unfold litF
  by_cases hp : 0 < l
  · rw [if_pos hp]; simp [fault, fault.faultL, own, want, mostVar]; omega
  · rw [if_neg hp]; simp [fault, fault.faultL, own, want, mostVar]; omega
theorem clF_ok {cl : List Int} (h : ∀ l ∈ cl, Bd.Lit l) (hl : cl.length ≤ 100) : boolErr (clF cl) = 0 := by
  have c : cnt (clF cl) ≤ 1 + 2 * cl.length := by
    show 1 + cnt.cntL (cl.map litF) ≤ _
    have : ∀ s : List Int, cnt.cntL (s.map litF) ≤ 2 * s.length := by
      intro s
      induction s with
      | nil => simp [cnt.cntL]
      | cons a s ih =>
        have := litF_cnt a
        simp only [List.map_cons, cnt.cntL, List.length_cons]; omega
    have := this cl
    omega
  unfold boolErr
  rw [if_neg (by omega)]
  have f : fault.faultL (cl.map litF) = 0 := (faultL_zero _).2 fun f hf => by
    obtain ⟨l, hl, rfl⟩ := List.mem_map.1 hf
    exact litF_fault (h l hl)
  show (if own 5 0 (cl.map litF).length ≠ 0 then own 5 0 (cl.map litF).length else fault.faultL (cl.map litF)) = 0
  rw [f]
  simp [own, want, mostVar]

/-- The conjunction of the first i clauses. -/
def cjT (ls : List (List Int)) (i : Nat) : List Bool := tl (allT (ls.take i))
theorem cjT_len (ls : List (List Int)) (i : Nat) : (cjT ls i).length = 65536 := tl_length _
theorem cjT_step {ls : List (List Int)} {i : Nat} (h : i < ls.length) : opT 4 (cjT ls i) (tl (allT [ls.getD i []])) = cjT ls (i + 1) := by
  unfold opT cjT
  refine tl_congr fun x hx => ?_
  rw [fnT_tl _ hx, fnT_tl _ hx]
  unfold allT opB
  rw [if_pos rfl, List.take_succ_eq_append_getElem h, List.all_append, List.getD_eq_getElem?_getD, List.getElem?_eq_getElem h]
  rfl
theorem out_zero {T : List Bool} (h : (cnNodes T).length ≤ 2000) : outErr T = 0 := by unfold outErr; rw [if_pos h]
theorem cjT_err {vs : List Int} (hv : Vs vs) (h8 : vs.length ≤ 8) {ls : List (List Int)} (hs : ∀ s ∈ ls, Sel vs s) : outErr (tl (allT ls)) = 0 :=
  out_zero (cn_dep (tl_length _) (dep_all (fun v h => (hv.rng v h).1) hs) h8)

/-- A diagram in another block than B. -/
def DOf (B : Nat) (w : World) (O : List Nd) (a : Option Addr) : Prop := O ≠ [] → ∃ b, b ≠ B ∧ a = some ⟨b, 0, none⟩ ∧ ∀ i, i < O.length → w.cell? ⟨b, i * 3, none⟩ = some (.int .i64 (nd O i).1) ∧ w.cell? ⟨b, i * 3 + 1, none⟩ = some (.int .i64 (nd O i).2.1) ∧ w.cell? ⟨b, i * 3 + 2, none⟩ = some (.int .i64 (nd O i).2.2)
theorem DOf.dAt {B : Nat} {w : World} {O : List Nd} {a : Option Addr} (h : DOf B w O a) : DAt w O a := by
  intro hne
  obtain ⟨b, _, e, hc⟩ := h hne
  exact ⟨b, 0, e, fun i hi => by rw [Nat.zero_add]; exact hc i hi⟩
theorem DOf.blocks {B : Nat} {w w' : World} {O : List Nd} {a : Option Addr} (h : DOf B w O a) (hb : ∀ b, b ≠ B → b < w.heap.size → w'.heap[b]? = w.heap[b]?) : DOf B w' O a := by
  intro hne
  obtain ⟨b, hB, e, hc⟩ := h hne
  refine ⟨b, hB, e, fun i hi => ?_⟩
  have := hb b hB (lt_of_cell (hc i hi).1)
  exact ⟨(World.cell?_of_block (a := ⟨b, i * 3, none⟩) this).trans (hc i hi).1, (World.cell?_of_block (a := ⟨b, i * 3 + 1, none⟩) this).trans (hc i hi).2.1, (World.cell?_of_block (a := ⟨b, i * 3 + 2, none⟩) this).trans (hc i hi).2.2⟩
theorem DNew.dOf {T B : Nat} {w : World} {O : List Nd} {a : Option Addr} (h : DNew T w O a) (hB : ∀ b, T ≤ b → b < w.heap.size → b ≠ B) : DOf B w O a := by
  intro hne
  obtain ⟨b, hT, e, hc⟩ := h hne
  exact ⟨b, hB b hT (lt_of_cell (hc 0 (List.length_pos_iff.2 hne)).1), e, hc⟩

def MnL (ls : List (List Int)) (n : Nat) (w3 : World) (fv iv : Value) (wr : World) : Prop :=
  ∃ (i : Nat) (ba : Option Addr) (bc : Nat), i ≤ n ∧ fv = .int .i64 0 ∧ iv = .int .i64 i ∧ wr.heap[w3.heap.size]? = some (.cells #[.slice ba (outNodes (cjT ls i)).length bc, .int .i64 (outRoot (cjT ls i))] 27 (0, 0)) ∧ DOf w3.heap.size wr (outNodes (cjT ls i)) ba ∧ Below w3.heap.size w3 wr

set_option maxRecDepth 100000 in
set_option maxHeartbeats 2000000 in
theorem law12_any {w : World} {da : List Nd} {aa : Option Addr} {n ca : Nat} {ra : Int} (hda : DAt w da aa) (hn : da.length = n) (hl : n ≤ 9223372036854775807) :
    Calls Try.prog 12 #[.agg #[.slice aa n ca, .int .i64 ra]] w fun e w' => e = .returned (.bool true) ∧ Below w.heap.size w w' := by
  have BB1 : Hid (Below w.heap.size w (w.alloc (.cells #[.slice aa n ca, .int .i64 ra] 27))) := (Below.refl _ _).alloc (Nat.le_refl _) _
  have SS0 : Hid ((w.alloc (.cells #[.slice aa n ca, .int .i64 ra] 27)).heap.size = w.heap.size + 1) := by show _ = _; simp
  have X := Lib.hid (heap_alloc_new w (.cells #[.slice aa n ca, .int .i64 ra] 27))
  have C1 := Lib.hid (implicates_any (cap := ca) (root := ra) (hda.below BB1.out) hn hl)
  have HDA := Lib.hid hda; clear hda
  have HN := Lib.hid hn; clear hn
  obtain ⟨q1, q2⟩ := icL_len da ra
  have Q2 := Lib.hid q2; clear q2
  by_cases he : icE da ra = 0
  · obtain ⟨hc, h8⟩ : chk da ra = 0 ∧ (sup da).length ≤ 8 := by
      unfold icE at he
      split at he
      · rename_i h; exact absurd he h
      · split at he
        · omega
        · rename_i h1 h2; exact ⟨Classical.byContradiction h1, by omega⟩
    have hL : icL da ra = prs (tb da 16 ra) (sup da) := by unfold icL; rw [if_pos he]
    have VS := sup_vs da
    have PM := (prs_prl (T := tb da 16 ra) VS).mem
    obtain ⟨n1, n2, n3⟩ := dg_out hc
    obtain ⟨q5, OD, RF, _, _⟩ := chk_zero hc
    have hT : (tb da 16 ra).length = 65536 := by rw [tb_length, two16]
    rw [← hL] at PM
    have hEnd : tl (allT (icL da ra)) = tb da 16 ra := by
      refine Eq.trans (tl_congr fun x hx => ?_) (tl_fnT hT)
      rw [all_prime VS (dep_sup OD RF) PM hx]; rfl
    have hsel : ∀ s ∈ icL da ra, Sel (sup da) s := fun s hs => ((PM s).1 hs).1
    rw [he] at C1
    have CT0 : Hid (∀ (W : World), Calls Try.prog 13 #[.agg #[.int .i64 2, .int .i64 1, .slice none 0 0]] W (DEPost W (outNodes (cjT (icL da ra) 0)) (outRoot (cjT (icL da ra) 0)) 0)) := by
      intro W
      have := Build_any (F := .mk 2 1 []) (a := none) (fmAt_leaf W 2 1 none) 0 W (Below.refl _ _)
      have b0 : boolErr (.mk 2 1 []) = 0 := by simp [boolErr, cnt, cnt.cntL, fault, fault.faultL, own, want, mostVar]
      have e0 : tl (evF (.mk 2 1 [])) = cjT (icL da ra) 0 := by
        unfold cjT
        refine tl_congr fun x _ => ?_
        simp [evF, opF, allT]
      have e1 : outErr (cjT (icL da ra) 0) = 0 := cjT_err VS h8 (fun s hs => by simp at hs)
      unfold bldNodes bldRoot bldErr at this
      rw [if_pos b0, if_pos b0, if_pos b0, e0, e1] at this
      exact this
    have CB : Hid (∀ (i : Nat) (W : World) (a : Option Addr) (cap : Nat), i < (icL da ra).length → FmAt W (clF ((icL da ra).getD i [])) a → Calls Try.prog 13 #[.agg #[.int .i64 5, .int .i64 0, .slice a ((icL da ra).getD i []).length cap]] W (DEPost W (outNodes (tl (allT [(icL da ra).getD i []]))) (outRoot (tl (allT [(icL da ra).getD i []]))) 0)) := by
      intro i W a cap hi hf
      have hm : (icL da ra).getD i [] ∈ icL da ra := by rw [List.getD_eq_getElem?_getD, List.getElem?_eq_getElem hi]; exact List.getElem_mem hi
      have hlit := sel_lit VS (hsel _ hm)
      have b0 := clF_ok hlit (Nat.le_trans (Q2.out _ hm) (by omega))
      have this := Build_any (F := clF ((icL da ra).getD i [])) hf cap W (Below.refl _ _)
      have e0 : tl (evF (clF ((icL da ra).getD i []))) = tl (allT [(icL da ra).getD i []]) := tl_congr fun x _ => clF_ev hlit x
      have e1 : outErr (tl (allT [(icL da ra).getD i []])) = 0 := cjT_err VS h8 (fun s hs => by simp at hs; rw [hs]; exact hsel _ hm)
      unfold bldNodes bldRoot bldErr at this
      rw [if_pos b0, if_pos b0, if_pos b0, e0, e1] at this
      have e2 : (clF ((icL da ra).getD i [])).kids.length = ((icL da ra).getD i []).length := by show (((icL da ra).getD i []).map litF).length = _; simp
      rw [e2] at this
      exact this
    have CA : Hid (∀ (i : Nat) (W : World) (a1 a2 : Option Addr) (c1 c2 : Nat), i < (icL da ra).length → DAt W (outNodes (cjT (icL da ra) i)) a1 → DAt W (outNodes (tl (allT [(icL da ra).getD i []]))) a2 → Calls Try.prog 20 #[.int .i64 4, .agg #[.slice a1 (outNodes (cjT (icL da ra) i)).length c1, .int .i64 (outRoot (cjT (icL da ra) i))], .agg #[.slice a2 (outNodes (tl (allT [(icL da ra).getD i []]))).length c2, .int .i64 (outRoot (tl (allT [(icL da ra).getD i []])))]] W (DEPost W (outNodes (cjT (icL da ra) (i + 1))) (outRoot (cjT (icL da ra) (i + 1))) 0)) := by
      intro i W a1 a2 c1 c2 hi d1 d2
      have hm : (icL da ra).getD i [] ∈ icL da ra := by rw [List.getD_eq_getElem?_getD, List.getElem?_eq_getElem hi]; exact List.getElem_mem hi
      have no4 : ¬ ((4 : Int) ≠ 4 ∧ (4 : Int) ≠ 5 ∧ (4 : Int) ≠ 6) := by omega
      have e1 : outErr (cjT (icL da ra) i) = 0 := cjT_err VS h8 (fun s hs => hsel s (List.mem_of_mem_take hs))
      have e2 : outErr (tl (allT [(icL da ra).getD i []])) = 0 := cjT_err VS h8 (fun s hs => by simp at hs; rw [hs]; exact hsel _ hm)
      have this := ap_dg (c1 := c1) (c2 := c2) no4 (cjT_len _ _) (tl_length _) e1 e2 d1 d2
      have e3 : outErr (cjT (icL da ra) (i + 1)) = 0 := cjT_err VS h8 (fun s hs => hsel s (List.mem_of_mem_take hs))
      rw [cjT_step hi, e3] at this
      exact this
    have CO : Hid (∀ (i : Nat) (W : World) (a : Option Addr) (c : Nat), i < (icL da ra).length → IAt W ((icL da ra).getD i []) a → Calls Try.prog 40 #[.slice a ((icL da ra).getD i []).length c] W (CofPost W ((icL da ra).getD i []))) := by
      intro i W a c hi hI
      have hm : (icL da ra).getD i [] ∈ icL da ra := by rw [List.getD_eq_getElem?_getD, List.getElem?_eq_getElem hi]; exact List.getElem_mem hi
      exact clauseOf_any hI rfl (Q2.out _ hm) (sel_lit VS (hsel _ hm))
    have EN : Hid (∀ i, i = (icL da ra).length → outNodes (cjT (icL da ra) i) = da ∧ outRoot (cjT (icL da ra) i) = ra) := by
      rintro i rfl
      have : cjT (icL da ra) (icL da ra).length = tb da 16 ra := by unfold cjT; rw [List.take_of_length_le (Nat.le_refl _)]; exact hEnd
      rw [this]; exact ⟨n1, n2⟩
    have hn5 : n ≤ 2000 := by rw [HN.out] at q5; exact q5
    clear hL VS PM n1 n2 n3 q5 OD RF hT hEnd hsel hc h8 he
    generalize icL da ra = LS at *
    go_enter Try.func12, Try.ntmps12
    go_wp2_with fail
    generalize w.alloc (.cells #[.slice aa n ca, .int .i64 ra] 27) = w1 at *
    refine C1.out.mono ?_
    clear C1
    rintro e w2 ⟨a2, c2, rfl, la2, bl2⟩
    have L2 := Lib.hid la2; clear la2
    have B2 := Lib.hid (Below.over BB1.out BB1.out.size bl2)
    have P2 := Lib.hid ((bl2.block w.heap.size (by rw [SS0.out]; omega)).trans X.out)
    have z2 : w.heap.size + 1 ≤ w2.heap.size := by have := bl2.size; rw [SS0.out] at this; exact this
    clear bl2 BB1 SS0 X
    obtain ⟨m, hm⟩ : ∃ m, LS.length = m := ⟨_, rfl⟩
    have HM := Lib.hid hm
    rw [hm] at q1
    rw [hm]
    clear hm
    go_wp2_with fail
    refine (CT0.out w2).mono ?_
    clear CT0
    rintro e w3 ⟨a3, c3, rfl, dn3, bl3⟩
    have B3 := Lib.hid (Below.over B2.out B2.out.size bl3)
    have L3 := Lib.hid (L2.out.below bl3)
    have P3 := Lib.hid ((bl3.block w.heap.size (by omega)).trans P2.out)
    have z3 : w.heap.size + 1 ≤ w3.heap.size := by have := bl3.size; omega
    have A3 : Hid (Below w3.heap.size w3 (w3.alloc (.cells #[.slice a3 (outNodes (cjT LS 0)).length c3, .int .i64 (outRoot (cjT LS 0))] 27))) := (Below.refl _ _).alloc (Nat.le_refl _) _
    have D3 := Lib.hid ((dn3.dOf (B := w3.heap.size) (fun b _ hb => by omega)).blocks (fun b _ hb => A3.out.block b hb))
    have N3 := Lib.hid (heap_alloc_new w3 (.cells #[.slice a3 (outNodes (cjT LS 0)).length c3, .int .i64 (outRoot (cjT LS 0))] 27))
    clear bl3 dn3 L2 B2 P2
    go_wp2_with fail
    generalize w3.alloc (.cells #[.slice a3 (outNodes (cjT LS 0)).length c3, .int .i64 (outRoot (cjT LS 0))] 27) = w4 at *
    go_loopw [6, 7] (fun fv iv wr => MnL LS m w3 fv iv wr) (fun _ iv _ => m - (intOf iv).toNat)
    case atStart => exact ⟨0, a3, c3, by omega, rfl, rfl, N3.out, D3.out, A3.out⟩
    case round =>
      clear N3 D3 A3
      obtain ⟨i, ba, bc, hi, rfl, rfl, b5, d5, bl⟩ := hrel
      have B5 := Lib.hid b5; clear b5
      have D5 := Lib.hid d5; clear d5
      have BL := Lib.hid bl; clear bl
      have lt5 : w3.heap.size < wr.heap.size := lt_of_some B5.out
      by_cases him : i < m
      · have i1 : (i : Int) < (m : Int) := by omega
        have hil : i < LS.length := by rw [HM.out]; exact him
        obtain ⟨bq, oq, rfl, dq⟩ := L3.out (by intro e; rw [e] at hil; simp at hil)
        obtain ⟨ai, ci, p1, p2⟩ := dq i hil
        clear dq
        have p1 := cell_later BL.out p1
        have C40 := Lib.hid (CO.out i wr ai ci hil (p2.below BL.out))
        have CBi := Lib.hid (fun W a cap h => CB.out i W a cap hil h)
        have CAi := Lib.hid (fun W a1 a2 c1 c2 h1 h2 => CA.out i W a1 a2 c1 c2 hil h1 h2)
        clear p2
        generalize LS.getD i [] = cc at *
        generalize hO5 : outNodes (cjT LS i) = O5 at *
        generalize hr5 : outRoot (cjT LS i) = r5 at *
        generalize hO6 : outNodes (tl (allT [cc])) = O6 at *
        generalize hr6 : outRoot (tl (allT [cc])) = r6 at *
        clear hO5 hr5 hO6 hr6
        go_wp2_with fail
        refine C40.out.mono ?_
        clear C40 p1
        rintro e w5 ⟨a5, c5, rfl, fm5, bl5⟩
        have W5 := Lib.hid bl5
        have C13 := Lib.hid (CBi.out w5 a5 c5 fm5)
        clear bl5 fm5
        go_wp2_with fail
        refine C13.out.mono ?_
        clear C13
        rintro e w6 ⟨a6, c6, rfl, dn6, bl6⟩
        have W6 := Lib.hid (Below.over W5.out W5.out.size bl6)
        have D6 := Lib.hid dn6.dAt
        clear bl6 dn6
        have z6 : wr.heap.size ≤ w6.heap.size := W6.out.size
        have A6 : Hid (Below w6.heap.size w6 (w6.alloc (.cells #[.slice a6 O6.length c6, .int .i64 r6] 27))) := (Below.refl _ _).alloc (Nat.le_refl _) _
        have s6 : (w6.alloc (.cells #[.slice a6 O6.length c6, .int .i64 r6] 27)).heap.size = w6.heap.size + 1 := by simp
        have N6 := Lib.hid (heap_alloc_new w6 (.cells #[.slice a6 O6.length c6, .int .i64 r6] 27))
        have W7 := Lib.hid (Below.over W6.out W6.out.size A6.out)
        have E7 := Lib.hid ((W7.out.block w3.heap.size lt5).trans B5.out)
        have D7 := Lib.hid (D5.out.blocks (fun b _ hb => W7.out.block b hb))
        have D67 := Lib.hid (D6.out.below A6.out)
        obtain ⟨y0, y1, y2, y3⟩ := cells2 E7.out
        obtain ⟨x0, x1, _⟩ := cells2 N6.out
        have hne : w3.heap.size < w6.heap.size := by omega
        go_upto_region 11 with fail
        generalize w6.alloc (.cells #[.slice a6 O6.length c6, .int .i64 r6] 27) = w7 at *
        go_wp2_with fail
        refine (CAi.out w7 ba a6 bc c6 D7.out.dAt D67.out).mono ?_
        clear x0 x1
        rintro e w8 ⟨a8, c8, rfl, dn8, bl8⟩
        have E8 := Lib.hid ((bl8.block w3.heap.size (by omega)).trans E7.out)
        have W8 := Lib.hid (Below.over W7.out W7.out.size bl8)
        have D8 := Lib.hid (dn8.dOf (B := w3.heap.size) (fun b hb _ => by omega))
        clear dn8 bl8 y0 y1 y2 y3
        obtain ⟨y0, y1, y2, y3⟩ := cells2 E8.out
        generalize hO9 : outNodes (cjT LS (i + 1)) = O9 at *
        generalize hr9 : outRoot (cjT LS (i + 1)) = r9 at *
        have HO9 := Lib.hid hO9; clear hO9
        have HR9 := Lib.hid hr9; clear hr9
        have ot : Hid (∀ b, b ≠ w3.heap.size → ((w8.setCell ⟨w3.heap.size, 0, none⟩ (.slice a8 O9.length c8)).setCell ⟨w3.heap.size, 1, none⟩ (.int .i64 r9)).heap[b]? = w8.heap[b]?) := fun b hb => (Below.heap_setCell _ _ _ _ hb).trans (Below.heap_setCell _ _ _ _ hb)
        have E9 : Hid (((w8.setCell ⟨w3.heap.size, 0, none⟩ (.slice a8 O9.length c8)).setCell ⟨w3.heap.size, 1, none⟩ (.int .i64 r9)).heap[w3.heap.size]? = some (.cells #[.slice a8 O9.length c8, .int .i64 r9] 27 (0, 0))) := by
          show _ = _
          simp [World.setCell, Array.getElem?_modify, E8.out]
        have D9 := Lib.hid (D8.out.blocks (fun b hb _ => ot.out b hb))
        have B9 : Hid (Below w3.heap.size w3 ((w8.setCell ⟨w3.heap.size, 0, none⟩ (.slice a8 O9.length c8)).setCell ⟨w3.heap.size, 1, none⟩ (.int .i64 r9))) := ((Below.over BL.out BL.out.size W8.out).setCell (Nat.le_refl _) _).setCell (Nat.le_refl _) _
        go_wp2_with fail
        go_roundw
        case rel => exact ⟨i + 1, a8, c8, by omega, rfl, by go_num, by rw [HO9.out, HR9.out]; exact E9.out, by rw [HO9.out]; exact D9.out, B9.out⟩
        case measure => simp [intOf]; omega
      · obtain rfl : i = m := by omega
        have i1 : ¬ ((i : Int) < (i : Int)) := by omega
        obtain ⟨e1, e2⟩ := EN.out i HM.out.symm
        rw [e1] at B5 D5
        rw [e2] at B5
        clear e1 e2
        have B9 := Lib.hid (Below.over B3.out B3.out.size BL.out)
        obtain ⟨y0, y1, _⟩ := cells2 B5.out
        obtain ⟨x0, x1, _⟩ := cells2 ((BL.out.block w.heap.size (by omega)).trans P3.out)
        rw [HN.out] at y0
        have C18 := Lib.hid (same_true (c1 := bc) (c2 := ca) (r := ra) D5.out.dAt (HDA.out.below B9.out) HN.out (by omega))
        go_wp2_with fail
        refine C18.out.mono ?_
        clear C18 y0 y1 x0 x1
        rintro e wa ⟨rfl, bla⟩
        have BA := Lib.hid (Below.over B9.out B9.out.size bla)
        clear bla
        go_wp2_with fail
        refine (built_any wa).mono ?_
        rintro e wb ⟨rfl, blb⟩
        have BB := Lib.hid (Below.over BA.out BA.out.size blb)
        clear blb
        go_wp2_with fail
        go_ret
        exact ⟨rfl, BB.out⟩
  · have hb : (icE da ra != 0) = true := by simpa using he
    clear he
    generalize icE da ra = er at *
    generalize icL da ra = LS at *
    go_enter Try.func12, Try.ntmps12
    go_wp2_with fail
    generalize w.alloc (.cells #[.slice aa n ca, .int .i64 ra] 27) = w1 at *
    refine C1.out.mono ?_
    clear C1
    rintro e w2 ⟨a2, c2, rfl, la2, bl2⟩
    have B2 := Lib.hid (Below.over BB1.out BB1.out.size bl2)
    clear bl2 la2
    go_wp2_with fail
    refine (built_any w2).mono ?_
    rintro e wb ⟨rfl, blb⟩
    have BB := Lib.hid (Below.over B2.out B2.out.size blb)
    clear blb
    go_wp2_with fail
    go_ret
    exact ⟨rfl, BB.out⟩

end Go.Proofs.Ythhogbligfmpdaa
