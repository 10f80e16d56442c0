/- slices.SortFunc of spans by their lower ends (the shelf's pdqsortCmpFunc laid at this program by lay-plain.mjs). -/
import Derived.Shelf.SlSortCmp.WholeK
import Derived.Ground.SlsfProg
import Derived.Test.YteiohgiecpibhaaGreatProg
import Derived.Test.YteiohgiecpibhaaGreatMC
namespace Go.Proofs
open Go.Shelf
def Tryz.sortSp_ren : Go.Shelf.Ren := ⟨fun | 14 => 106 | 20 => 118 | 21 => 119 | 22 => 120 | 23 => 121 | 24 => 122 | 25 => 123 | 26 => 124 | 27 => 125 | 46 => 143 | 47 => 144 | 48 => 145 | 49 => 146 | 50 => 147 | 15 => 107 | 57 => 163 | 28 => 126 | 29 => 127 | n => n, fun | 24 => 63 | 22 => 22 | 3 => 3 | 25 => 107 | 4 => 4 | 0 => 0 | 46 => 136 | 45 => 135 | 50 => 125 | 66 => 157 | 39 => 121 | 55 => 144 | 70 => 161 | 76 => 167 | 77 => 168 | 53 => 142 | 5 => 5 | 9 => 9 | n => n, fun | n => n⟩
theorem Tryz.sortSp : Go.Proofs.SlLaysF0.n14 Tryz.prog Tryz.sortSp_ren := {
  mixed := by kernel_rfl
  f14 := ⟨Tryz.f106.name, by decide, Tryz.func106.trans (congrArg some (by kernel_rfl))⟩
  f15 := Tryz.func107.trans (congrArg some (by kernel_rfl))
  f20 := ⟨Tryz.f118.name, by decide, Tryz.func118.trans (congrArg some (by kernel_rfl))⟩
  f21 := ⟨Tryz.f119.name, by decide, Tryz.func119.trans (congrArg some (by kernel_rfl))⟩
  f22 := ⟨Tryz.f120.name, by decide, Tryz.func120.trans (congrArg some (by kernel_rfl))⟩
  f23 := ⟨Tryz.f121.name, by decide, Tryz.func121.trans (congrArg some (by kernel_rfl))⟩
  f24 := ⟨Tryz.f122.name, by decide, Tryz.func122.trans (congrArg some (by kernel_rfl))⟩
  f25 := ⟨Tryz.f123.name, by decide, Tryz.func123.trans (congrArg some (by kernel_rfl))⟩
  f26 := ⟨Tryz.f124.name, by decide, Tryz.func124.trans (congrArg some (by kernel_rfl))⟩
  f27 := ⟨Tryz.f125.name, by decide, Tryz.func125.trans (congrArg some (by kernel_rfl))⟩
  f28 := Tryz.func126.trans (congrArg some (by kernel_rfl))
  f29 := Tryz.func127.trans (congrArg some (by kernel_rfl))
  f46 := ⟨Tryz.f143.name, by decide, Tryz.func143.trans (congrArg some (by kernel_rfl))⟩
  f47 := Tryz.func144.trans (congrArg some (by kernel_rfl))
  f48 := Tryz.func145.trans (congrArg some (by kernel_rfl))
  f49 := ⟨Tryz.f146.name, by decide, Tryz.func146.trans (congrArg some (by kernel_rfl))⟩
  f50 := ⟨Tryz.f147.name, by decide, Tryz.func147.trans (congrArg some (by kernel_rfl))⟩
  f57 := ⟨Tryz.f163.name, by decide, Tryz.func163.trans (congrArg some (by kernel_rfl))⟩
  t0 := Tryz.underlying0
  a0 := Tryz.isAgg0
  z0 := Tryz.sizeOf0
  v0 := Tryz.zeroValue0
  t3 := Tryz.underlying3
  a3 := Tryz.isAgg3
  z3 := Tryz.sizeOf3
  v3 := Tryz.zeroValue3
  t4 := Tryz.underlying4
  a4 := Tryz.isAgg4
  z4 := Tryz.sizeOf4
  v4 := Tryz.zeroValue4
  t5 := Tryz.underlying5
  a5 := Tryz.isAgg5
  z5 := Tryz.sizeOf5
  v5 := Tryz.zeroValue5
  t9 := Tryz.underlying9
  a9 := Tryz.isAgg9
  z9 := Tryz.sizeOf9
  v9 := Tryz.zeroValue9
  t22 := Tryz.underlying22
  a22 := Tryz.isAgg22
  z22 := Tryz.sizeOf22
  v22 := Tryz.zeroValue22
  t25 := Tryz.underlying107
  a25 := Tryz.isAgg107
  z25 := Tryz.sizeOf107
  v25 := Tryz.zeroValue107
  t39 := Tryz.underlying121
  a39 := Tryz.isAgg121
  z39 := Tryz.sizeOf121
  v39 := Tryz.zeroValue121
  t45 := Tryz.underlying135
  a45 := Tryz.isAgg135
  z45 := Tryz.sizeOf135
  v45 := Tryz.zeroValue135
  t46 := Tryz.underlying136
  a46 := Tryz.isAgg136
  z46 := Tryz.sizeOf136
  v46 := Tryz.zeroValue136
  t50 := Tryz.underlying125
  a50 := Tryz.isAgg125
  z50 := Tryz.sizeOf125
  v50 := Tryz.zeroValue125
  t53 := Tryz.underlying142
  a53 := Tryz.isAgg142
  z53 := Tryz.sizeOf142
  v53 := Tryz.zeroValue142
  t55 := Tryz.underlying144
  a55 := Tryz.isAgg144
  z55 := Tryz.sizeOf144
  v55 := Tryz.zeroValue144
  t66 := Tryz.underlying157
  a66 := Tryz.isAgg157
  z66 := Tryz.sizeOf157
  v66 := Tryz.zeroValue157
  t70 := Tryz.underlying161
  a70 := Tryz.isAgg161
  z70 := Tryz.sizeOf161
  v70 := Tryz.zeroValue161
  t76 := Tryz.underlying167
  a76 := Tryz.isAgg167
  z76 := Tryz.sizeOf167
  v76 := Tryz.zeroValue167
  t77 := Tryz.underlying168
  a77 := Tryz.isAgg168
  z77 := Tryz.sizeOf168
  v77 := Tryz.zeroValue168 }
end Go.Proofs
set_option linter.unusedVariables false
set_option linter.unusedSimpArgs false
set_option maxRecDepth 100000
set_option maxHeartbeats 4000000
namespace Go.Proofs.YteiohgiecpibhaaGreat
open Go.Shelf Go.RowKit Go.Sort Fdm

/-- A span whose lower end is within the bounds. -/
abbrev BSp := { s : Sp // -16384 ≤ s.1 ∧ s.1 ≤ 16384 }
instance : Inhabited BSp := ⟨⟨(0, 0), by decide⟩⟩
def encS (x : BSp) : List Value := [.int .i64 x.1.1, .int .i64 x.1.2]
def cfS (x y : BSp) : Int := x.1.1 - y.1.1
theorem ltS (x y : BSp) : ltOf cfS x y = decide (x.1.1 < y.1.1) := by
  unfold ltOf cfS
  by_cases h : x.1.1 < y.1.1
  · rw [decide_eq_true h, decide_eq_true (by omega)]
  · rw [decide_eq_false h, decide_eq_false (by omega)]
theorem swoS : SWO (ltOf cfS) where
  irrefl x := by rw [ltS]; simp
  trans x y z h1 h2 := by rw [ltS] at *; simp at *; omega
  ntrans x y z h1 h2 := by rw [ltS] at *; simp at *; omega
theorem cmp77_any (x y : BSp) (W : World) : Calls Tryz.prog 77 #[.agg #[.int .i64 x.1.1, .int .i64 x.1.2], .agg #[.int .i64 y.1.1, .int .i64 y.1.2]] W fun e w' => e = .returned (.int .i64 (cfS x y)) ∧ ∃ q os', w' = grow (W.drewN q) os' := by
  have hx := x.2
  have hy := y.2
  have C : Hid (cfS x y = x.1.1 - y.1.1) := rfl
  obtain ⟨a, ha⟩ : ∃ a, x.1.1 = a := ⟨_, rfl⟩
  obtain ⟨b, hb⟩ : ∃ b, y.1.1 = b := ⟨_, rfl⟩
  obtain ⟨c, hc⟩ : ∃ c, x.1.2 = c := ⟨_, rfl⟩
  obtain ⟨d, hd⟩ : ∃ d, y.1.2 = d := ⟨_, rfl⟩
  rw [ha] at hx C
  rw [hb] at hy C
  rw [ha, hb, hc, hd]
  have w1 : IntKind.i64.wrap (a - b) = a - b := wrap_in (by omega) (by omega)
  clear ha hb hc hd
  go_enter Tryz.func77, Tryz.ntmps77
  go_wp2_with fail
  go_ret
  exact ⟨by rw [C.out]; rfl, 0, _, by rw [alloc_eq_grow, alloc_eq_grow, grow_grow]; rfl⟩
theorem cmpS (blk off size : Nat) (w : World) : CmpLays Tryz.prog 77 #[] encS 2 cfS blk off size w := fun _ _ _ _ x y => cmp77_any x y _
theorem grownS {w : World} {g n : Nat} {os : Array Obj} {d : Array BSp} {off : Nat} : w.grownBy (sortWorldK encS 2 w g off n d os) (some g) := by
  unfold sortWorldK putRowK
  refine ⟨rfl, rfl, rfl, by simp [putRow, mapBlock, Sort.ahead], fun k hk hne => ?_⟩
  rw [heap_grow_old _ _ (by simpa [putRow, mapBlock, Sort.ahead] using hk)]
  have : g ≠ k := fun e => hne (by rw [e])
  simp [putRow, mapBlock, Sort.ahead, Array.getElem?_modify, this]
theorem sort76_any (blk off cap : Nat) (d : Array BSp) (w : World) (hH : HoldsK encS 2 w blk off d) (hblk : blk < w.heap.size) (hsz : d.size < 1000000) :
    Calls Tryz.prog 76 #[.slice (some ⟨blk, off, none⟩) d.size cap, .func (.func 77) #[] #[]] w fun e w' => e = .returned (.tuple #[]) ∧ ∃ d' : Array BSp, PermIn 0 d.size d d' ∧ SortedIn (ltOf cfS) 0 d.size d' ∧ HoldsK encS 2 w' blk off d' ∧ w.grownBy w' (some blk) := by
  have L := Tryz.sortSp
  have eg : ∀ args w, (callFunc 77 args).run Tryz.prog w = .ok (.enter 77 args) w := enters_of Tryz.func77 (by kernel_rfl) rfl
  have hlim : Lib.bitLen d.size < 4611686018427387904 := Nat.lt_of_le_of_lt (Lib.bitLen_le d.size 62 (by omega) (by omega)) (by omega)
  have hk : ∀ x, (encS x).length = 2 := fun _ => rfl
  have h1 : ∀ x, ∀ v ∈ encS x, v.oneCell' = true := fun x v hv => by simp [encS] at hv; rcases hv with rfl | rfl <;> rfl
  have hp0 := AnyQ.pdqsortCmpFunc_all L 2 Tryz.isAgg63 Tryz.sizeOf63 encS cfS 77 #[] swoS blk off cap d w eg (cmpS blk off d.size w) ⟨hk, h1, hH, hblk⟩ (d.size + 1) 0 d.size (Lib.bitLen d.size) d w (by omega) rfl (SWK.start hH) (Nat.zero_le _) (Nat.le_refl _) (by omega) hlim (Or.inl rfl)
  have srt := pdq_sorts (ltOf cfS) swoS d 0 d.size (Lib.bitLen d.size) true true (Nat.zero_le _) (Nat.le_refl _) (Or.inl rfl)
  have hl0 : Calls Tryz.prog 107 #[.int .u64 (d.size : Int)] w fun e w' => e = .returned (.int .i64 (Lib.bitLen d.size : Nat)) ∧ w' = w := by
    have h := Any.bits_Len (SlLaysF0.n15.bits (P := Tryz.prog) (ρ := Tryz.sortSp_ren) { L with }) (d.size : Int) w (by omega) (by omega)
    rwa [Int.toNat_natCast] at h
  have hp : Hid (Calls Tryz.prog 106 #[.slice (some ⟨blk, off, none⟩) d.size cap, .int .i64 0, .int .i64 d.size, .int .i64 (Lib.bitLen d.size : Nat), .func (.func 77) #[] #[]] w fun e w' => e = .returned (.tuple #[]) ∧ ∃ d' : Array BSp, PermIn 0 d.size d d' ∧ SortedIn (ltOf cfS) 0 d.size d' ∧ HoldsK encS 2 w' blk off d' ∧ w.grownBy w' (some blk)) := Lib.hid (hp0.mono fun e w' ⟨he, hS⟩ => ⟨he, _, srt.1, srt.2, hS.holds hblk hH srt.1.1, by obtain ⟨n, os, rfl⟩ := hS; exact grownS⟩)
  have hl := Lib.hid hl0
  have wr : IntKind.u64.wrap (d.size : Int) = d.size := by simp [IntKind.wrap, IntKind.bits, IntKind.signed]; omega
  obtain ⟨R, hR⟩ : ∃ R : Ending → World → Prop, R = fun e w' => e = .returned (.tuple #[]) ∧ ∃ d' : Array BSp, PermIn 0 d.size d d' ∧ SortedIn (ltOf cfS) 0 d.size d' ∧ HoldsK encS 2 w' blk off d' ∧ w.grownBy w' (some blk) := ⟨_, rfl⟩
  rw [← hR] at hp ⊢
  have HR := Lib.hid hR
  clear hH hp0 hl0 srt hR h1 hk eg L
  obtain ⟨n, hn⟩ : ∃ n, d.size = n := ⟨_, rfl⟩
  obtain ⟨b, hb⟩ : ∃ b, Lib.bitLen n = b := ⟨_, rfl⟩
  rw [hn] at hp hl wr hsz ⊢
  rw [hb] at hp hl
  clear hn hb hlim
  go_enter Tryz.func76, Tryz.ntmps76
  go_wp2_with (first | (go_at_call 107; refine hl.out.mono ?_; rintro e w' ⟨rfl, rfl⟩) | (go_at_call 106; refine hp.out.mono ?_; rw [HR.out]; rintro e w' ⟨rfl, hx⟩; have HX := Lib.hid hx; clear hx))
  go_end0
  rw [HR.out]
  exact ⟨rfl, HX.out⟩
end Go.Proofs.YteiohgiecpibhaaGreat
