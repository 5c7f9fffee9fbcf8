/- Words and contracts for a claim. -/
import Derived.Test.YtegffliopblajaaBase9
import Derived.Shelf.SlGeneric
import Derived.Shelf.SlSortCmp.WholeK
import Derived.Ground.SlsfProg
import Derived.Ground.Names2Prog
import Derived.Shelf.Slices.Clone
section
namespace Go.Proofs
open Go.Shelf
def Try.lins_ren : Go.Shelf.Ren := ⟨fun | 20 => 88 | n => n, fun | 24 => 3 | 22 => 26 | 3 => 3 | 25 => 103 | 4 => 4 | 0 => 0 | n => n, fun | n => n⟩
theorem Try.lins : Go.Proofs.SlLaysF.n20 Try.prog Try.lins_ren := {
  mixed := by kernel_rfl
  f20 := ⟨Try.f88.name, by decide, Try.func88.trans (congrArg some (by kernel_rfl))⟩
  t0 := Try.underlying0
  a0 := Try.isAgg0
  z0 := Try.sizeOf0
  v0 := Try.zeroValue0
  t3 := Try.underlying3
  a3 := Try.isAgg3
  z3 := Try.sizeOf3
  v3 := Try.zeroValue3
  t4 := Try.underlying4
  a4 := Try.isAgg4
  z4 := Try.sizeOf4
  v4 := Try.zeroValue4
  t22 := Try.underlying26
  a22 := Try.isAgg26
  z22 := Try.sizeOf26
  v22 := Try.zeroValue26
  a24 := Try.isAgg3
  z24 := Try.sizeOf3
  t25 := Try.underlying103
  a25 := Try.isAgg103
  z25 := Try.sizeOf103
  v25 := Try.zeroValue103 }
def Try.lsrt_ren : Go.Shelf.Ren := ⟨fun | 6 => 83 | 15 => 93 | 14 => 92 | 28 => 104 | 29 => 105 | 20 => 96 | 21 => 97 | 22 => 98 | 23 => 99 | 24 => 100 | 25 => 101 | 26 => 102 | 27 => 103 | 46 => 107 | 47 => 108 | 48 => 109 | 49 => 110 | 50 => 111 | 57 => 112 | n => n, fun | 22 => 22 | 24 => 47 | 25 => 100 | 3 => 3 | 39 => 137 | 0 => 0 | 53 => 148 | 55 => 150 | 4 => 4 | 46 => 141 | 45 => 140 | 50 => 145 | 5 => 5 | 9 => 9 | 66 => 151 | 70 => 155 | 76 => 157 | 77 => 158 | n => n, fun | n => n⟩
theorem Try.lsrt : Go.Proofs.SlLaysF0.n6 Try.prog Try.lsrt_ren := {
 mixed := by kernel_rfl
 f6 := ⟨Try.f83.name, by decide, Try.func83.trans (congrArg some (by kernel_rfl))⟩
 f14 := ⟨Try.f92.name, by decide, Try.func92.trans (congrArg some (by kernel_rfl))⟩
 f15 := Try.func93.trans (congrArg some (by kernel_rfl))
 f20 := ⟨Try.f96.name, by decide, Try.func96.trans (congrArg some (by kernel_rfl))⟩
 f21 := ⟨Try.f97.name, by decide, Try.func97.trans (congrArg some (by kernel_rfl))⟩
 f22 := ⟨Try.f98.name, by decide, Try.func98.trans (congrArg some (by kernel_rfl))⟩
 f23 := ⟨Try.f99.name, by decide, Try.func99.trans (congrArg some (by kernel_rfl))⟩
 f24 := ⟨Try.f100.name, by decide, Try.func100.trans (congrArg some (by kernel_rfl))⟩
 f25 := ⟨Try.f101.name, by decide, Try.func101.trans (congrArg some (by kernel_rfl))⟩
 f26 := ⟨Try.f102.name, by decide, Try.func102.trans (congrArg some (by kernel_rfl))⟩
 f27 := ⟨Try.f103.name, by decide, Try.func103.trans (congrArg some (by kernel_rfl))⟩
 f28 := Try.func104.trans (congrArg some (by kernel_rfl))
 f29 := Try.func105.trans (congrArg some (by kernel_rfl))
 f46 := ⟨Try.f107.name, by decide, Try.func107.trans (congrArg some (by kernel_rfl))⟩
 f47 := Try.func108.trans (congrArg some (by kernel_rfl))
 f48 := Try.func109.trans (congrArg some (by kernel_rfl))
 f49 := ⟨Try.f110.name, by decide, Try.func110.trans (congrArg some (by kernel_rfl))⟩
 f50 := ⟨Try.f111.name, by decide, Try.func111.trans (congrArg some (by kernel_rfl))⟩
 f57 := ⟨Try.f112.name, by decide, Try.func112.trans (congrArg some (by kernel_rfl))⟩
 t0 := Try.underlying0
 a0 := Try.isAgg0
 z0 := Try.sizeOf0
 v0 := Try.zeroValue0
 t3 := Try.underlying3
 a3 := Try.isAgg3
 z3 := Try.sizeOf3
 v3 := Try.zeroValue3
 t4 := Try.underlying4
 a4 := Try.isAgg4
 z4 := Try.sizeOf4
 v4 := Try.zeroValue4
 t5 := Try.underlying5
 a5 := Try.isAgg5
 z5 := Try.sizeOf5
 v5 := Try.zeroValue5
 t9 := Try.underlying9
 a9 := Try.isAgg9
 z9 := Try.sizeOf9
 v9 := Try.zeroValue9
 t22 := Try.underlying22
 a22 := Try.isAgg22
 z22 := Try.sizeOf22
 v22 := Try.zeroValue22
 t25 := Try.underlying100
 a25 := Try.isAgg100
 z25 := Try.sizeOf100
 v25 := Try.zeroValue100
 t39 := Try.underlying137
 a39 := Try.isAgg137
 z39 := Try.sizeOf137
 v39 := Try.zeroValue137
 t45 := Try.underlying140
 a45 := Try.isAgg140
 z45 := Try.sizeOf140
 v45 := Try.zeroValue140
 t46 := Try.underlying141
 a46 := Try.isAgg141
 z46 := Try.sizeOf141
 v46 := Try.zeroValue141
 t50 := Try.underlying145
 a50 := Try.isAgg145
 z50 := Try.sizeOf145
 v50 := Try.zeroValue145
 t53 := Try.underlying148
 a53 := Try.isAgg148
 z53 := Try.sizeOf148
 v53 := Try.zeroValue148
 t55 := Try.underlying150
 a55 := Try.isAgg150
 z55 := Try.sizeOf150
 v55 := Try.zeroValue150
 t66 := Try.underlying151
 a66 := Try.isAgg151
 z66 := Try.sizeOf151
 v66 := Try.zeroValue151
 t70 := Try.underlying155
 a70 := Try.isAgg155
 z70 := Try.sizeOf155
 v70 := Try.zeroValue155
 t76 := Try.underlying157
 a76 := Try.isAgg157
 z76 := Try.sizeOf157
 v76 := Try.zeroValue157
 t77 := Try.underlying158
 a77 := Try.isAgg158
 z77 := Try.sizeOf158
 v77 := Try.zeroValue158 }
def Try.lclo_ren : Go.Shelf.Ren := ⟨fun | 15 => 62 | n => n, fun | 22 => 26 | 3 => 3 | 4 => 4 | n => n, fun | n => n⟩
theorem Try.lclo : Go.Proofs.Lays2.n15 Try.prog Try.lclo_ren := {
  mixed := by kernel_rfl
  f15 := Try.func62.trans (congrArg some (by kernel_rfl))
  t3 := Try.underlying3
  a3 := Try.isAgg3
  z3 := Try.sizeOf3
  v3 := Try.zeroValue3
  t4 := Try.underlying4
  a4 := Try.isAgg4
  z4 := Try.sizeOf4
  v4 := Try.zeroValue4
  t22 := Try.underlying26
  a22 := Try.isAgg26
  z22 := Try.sizeOf26
  v22 := Try.zeroValue26
  i3 := by kernel_rfl }
end Go.Proofs
end
section
namespace Go.Proofs.Ytegffliopblajaa.P
open Go.Shelf Go.RowKit Go.Lib Go.Sort Go.Stb Go.Proofs
set_option linter.unusedVariables false
set_option linter.unusedSimpArgs false
variable {α : Type} [Inhabited α]
set_option maxHeartbeats 8000000 in
set_option maxRecDepth 1000000 in
theorem stable80 (enc : α → Value) (cf : α → α → Int) (g : Nat) (cb : Array Value) (blk off cap sz : Nat) (d0 : Array α) (w0 : World)
  (eg : ∀ args w, (callFunc g args).run Try.prog w = .ok (.enter g args) w) (hcmp : CmpLays1 Try.prog g cb enc cf blk off d0.size w0) (R : Row1 enc w0 blk off d0) (hs : d0.size = sz) (hsz : sz ≤ 40) (d : Array α) (w : World) (hz : d.size = sz) (S : SW enc w0 blk off d w) :
  Calls Try.prog 80 #[.slice (some ⟨blk, off, none⟩) sz cap, .int .i64 sz, .func (.func g) #[] cb] w fun e w' => e = .returned (.tuple #[]) ∧ SW enc w0 blk off (stb (ltOf cf) d) w' := by
 have ins : ∀ (a b : Nat) (dk : Array α) (wk : World), dk.size = sz → SW enc w0 blk off dk wk → a ≤ b → b ≤ sz → Calls Try.prog 88 #[.slice (some ⟨blk, off, none⟩) sz cap, .int .i64 a, .int .i64 b, .func (.func g) #[] cb] wk fun e w' => e = .returned (.tuple #[]) ∧ SW enc w0 blk off (Sort.insertionSort (ltOf cf) dk a b) w' := by
  intro a b dk wk hk Sk hab hb
  have := Any.insertionSortCmpFunc_s Try.lins enc cf g cb blk off cap a b d0 dk w0 wk eg hcmp R (by omega) Sk hab (by omega) (by omega)
  rw [hk] at this
  exact this
 have isz : ∀ (a b : Nat) (dk : Array α), (Sort.insertionSort (ltOf cf) dk a b).size = dk.size := fun a b dk => ins_size _ _ _ _
 have sym := symM89 enc cf g cb blk off cap sz d0 w0 eg hcmp R hs (by omega)
 have INS : Aside _ := ins
 have SYM : Aside _ := sym
 have ISZ : Aside _ := isz
 have S0 : Aside _ := S
 clear ins sym isz S hcmp
 by_cases c1 : sz < 20
 ·
  have e : stb (ltOf cf) d = Sort.insertionSort (ltOf cf) d 0 sz := by unfold stb; rw [hz, if_pos (by omega)]
  have E : Aside _ := e
  clear e
  have z1 : ¬ (20 : Int) ≤ (sz : Int) := by omega
  have z2 : ¬ (20 : Int) < (sz : Int) := by omega
  go_enter Try.func80, Try.ntmps80
  go_wp2
  refine wp_loop_rounds 1 ?_
  rw [rounds_succ]
  go_wp2_with fail
  refine (INS.out 0 sz d _ hz S0.out (Nat.zero_le _) (Nat.le_refl _)).mono ?_
  rintro e w1 ⟨rfl, S1⟩
  have S2 : Aside _ := S1
  clear S1 S0
  go_wp2
  refine wp_loop_rounds 1 ?_
  rw [rounds_succ]
  go_wp2
  go_end0
  exact ⟨rfl, by rw [E.out]; exact S2.out⟩
 ·
  by_cases c2 : sz = 20
  ·
   subst c2
   have e : stb (ltOf cf) d = Sort.insertionSort (ltOf cf) (Sort.insertionSort (ltOf cf) d 0 20) 20 20 := by unfold stb; rw [hz, if_pos (by omega), ins_none]
   have E : Aside _ := e
   clear e
   go_enter Try.func80, Try.ntmps80
   go_wp2
   refine wp_loop_rounds 2 ?_
   rw [rounds_succ]
   go_wp2_with fail
   refine (INS.out 0 20 d _ hz S0.out (by omega) (by omega)).mono ?_
   rintro e w1 ⟨rfl, S1⟩
   have S2 : Aside _ := S1
   clear S1 S0
   go_wp2
   rw [rounds_succ]
   go_wp2_with fail
   refine (INS.out 20 20 _ _ (by rw [ISZ.out]; exact hz) S2.out (by omega) (by omega)).mono ?_
   rintro e w2 ⟨rfl, S3⟩
   have S4 : Aside _ := S3
   clear S3 S2
   go_wp2
   refine wp_loop_rounds 1 ?_
   rw [rounds_succ]
   go_wp2
   go_end0
   exact ⟨rfl, by rw [E.out]; exact S4.out⟩
  ·
   by_cases c3 : sz < 40
   ·
    have e : stb (ltOf cf) d = symM (ltOf cf) sz 0 20 sz (Sort.insertionSort (ltOf cf) (Sort.insertionSort (ltOf cf) d 0 20) 20 sz) := by unfold stb; rw [hz, if_neg (by omega)]
    have E : Aside _ := e
    clear e
    have z1 : (20 : Int) ≤ (sz : Int) := by omega
    have z2 : (20 : Int) < (sz : Int) := by omega
    have z3 : ¬ (40 : Int) ≤ (sz : Int) := by omega
    have z4 : ¬ (40 : Int) < (sz : Int) := by omega
    go_enter Try.func80, Try.ntmps80
    go_wp2
    refine wp_loop_rounds 2 ?_
    rw [rounds_succ]
    go_wp2_with fail
    refine (INS.out 0 20 d _ hz S0.out (by omega) (by omega)).mono ?_
    rintro e w1 ⟨rfl, S1⟩
    have S2 : Aside _ := S1
    clear S1 S0
    go_wp2
    rw [rounds_succ]
    go_wp2_with fail
    refine (INS.out 20 sz _ _ (by rw [ISZ.out]; exact hz) S2.out (by omega) (by omega)).mono ?_
    rintro e w2 ⟨rfl, S3⟩
    have S4 : Aside _ := S3
    clear S3 S2
    go_wp2
    refine wp_loop_rounds 2 ?_
    rw [rounds_succ]
    go_wp2
    refine wp_loop_rounds 1 ?_
    rw [rounds_succ]
    go_wp2_with fail
    refine (SYM.out sz 0 20 sz _ _ (by rw [ISZ.out, ISZ.out]; exact hz) S4.out (by omega) (by omega) (by omega) (by omega)).mono ?_
    rintro e w3 ⟨rfl, S5⟩
    have S6 : Aside _ := S5
    clear S5 S4
    go_wp2
    rw [rounds_succ]
    go_wp2
    go_end0
    exact ⟨rfl, by rw [E.out]; exact S6.out⟩
   ·
    obtain rfl : sz = 40 := by omega
    have e : stb (ltOf cf) d = symM (ltOf cf) 40 0 20 40 (Sort.insertionSort (ltOf cf) (Sort.insertionSort (ltOf cf) (Sort.insertionSort (ltOf cf) d 0 20) 20 40) 40 40) := by unfold stb; rw [hz, if_neg (by omega), ins_none]
    have E : Aside _ := e
    clear e
    go_enter Try.func80, Try.ntmps80
    go_wp2
    refine wp_loop_rounds 3 ?_
    rw [rounds_succ]
    go_wp2_with fail
    refine (INS.out 0 20 d _ hz S0.out (by omega) (by omega)).mono ?_
    rintro e w1 ⟨rfl, S1⟩
    have S2 : Aside _ := S1
    clear S1 S0
    go_wp2
    rw [rounds_succ]
    go_wp2_with fail
    refine (INS.out 20 40 _ _ (by rw [ISZ.out]; exact hz) S2.out (by omega) (by omega)).mono ?_
    rintro e w2 ⟨rfl, S3⟩
    have S4 : Aside _ := S3
    clear S3 S2
    go_wp2
    rw [rounds_succ]
    go_wp2_with fail
    refine (INS.out 40 40 _ _ (by rw [ISZ.out, ISZ.out]; exact hz) S4.out (by omega) (by omega)).mono ?_
    rintro e w3 ⟨rfl, S5⟩
    have S6 : Aside _ := S5
    clear S5 S4
    go_wp2
    refine wp_loop_rounds 2 ?_
    rw [rounds_succ]
    go_wp2
    refine wp_loop_rounds 2 ?_
    rw [rounds_succ]
    go_wp2_with fail
    refine (SYM.out 40 0 20 40 _ _ (by rw [ISZ.out, ISZ.out, ISZ.out]; exact hz) S6.out (by omega) (by omega) (by omega) (by omega)).mono ?_
    rintro e w4 ⟨rfl, S7⟩
    have S8 : Aside _ := S7
    clear S7 S6
    go_wp2
    rw [rounds_succ]
    go_wp2
    rw [rounds_succ]
    go_wp2
    go_end0
    exact ⟨rfl, by rw [E.out]; exact S8.out⟩
set_option maxHeartbeats 8000000 in
set_option maxRecDepth 1000000 in
theorem stable58 (enc : α → Value) (cf : α → α → Int) (g : Nat) (cb : Array Value) (blk off cap : Nat) (d : Array α) (w : World)
    (eg : ∀ args w, (callFunc g args).run Try.prog w = .ok (.enter g args) w) (hcmp : CmpLays1 Try.prog g cb enc cf blk off d.size w) (R : Row1 enc w blk off d) (hsz : d.size ≤ 40) :
    Calls Try.prog 58 #[.slice (some ⟨blk, off, none⟩) d.size cap, .func (.func g) #[] cb] w fun e w' => e = .returned (.tuple #[]) ∧ SW enc w blk off (stb (ltOf cf) d) w' := by
  have HC : Aside (CmpLays1 Try.prog g cb enc cf blk off d.size w) := hcmp
  clear hcmp
  go_enter Try.func58, Try.ntmps58
  go_wp2_with fail
  refine (stable80 enc cf g cb blk off cap d.size d w eg HC.out R rfl hsz d w rfl (SW.start R.hH)).mono ?_
  rintro e w1 ⟨rfl, S1⟩
  have S2 : Aside _ := S1
  clear S1
  go_wp2
  go_end0
  exact ⟨rfl, S2.out⟩
end Go.Proofs.Ytegffliopblajaa.P
end
section
namespace Go.Proofs.Ytegffliopblajaa.P
open Go.RowKit Go.Proofs.YtegffliopblajaaW.PrintWords Go.Proofs.YtegffliopblajaaW.PrintLast Go.Proofs.YtegffliopblajaaW.PrintMore
attribute [local go_sem] max2_int min2_int max_two min_two max_three min_three max_four min_four
set_option linter.unusedVariables false
set_option linter.unusedSimpArgs false
def punch_passes.l0 : Nat → Int → List Int → Int → Int → Option (Int)
  | 0, _, _, _, _ => none
  | k + 1, x3, x6, x7, x8 => if x8 < x7 then (if 0 ≤ x8 then (if x8 < (x6.length : Int) then (punch_passes.l0 k (mx x3 (wrap64 ((rd x6 x8) + 1))) x6 x7 (wrap64 (x8 + 1))) else (none)) else (none)) else (some x3)
def punch_passes.f (k : Nat) (l0 : List Int) : Option (Int) := punch_passes.l0 k 0 l0 (l0.length : Int) 0
set_option maxHeartbeats 8000000 in
set_option maxRecDepth 100000 in
theorem punch_passes.calls (k : Nat) (A0 : Option Addr) (c0 : Nat) (l0 : List Int) (r : Int) (w : World) (hr0 : Kd.C (Kd.int .i64) w A0 l0.length l0) (hc0 : l0.length ≤ c0) (h : punch_passes.f k l0 = some r) :
  Calls Try.prog 63 #[.slice A0 l0.length c0] w fun e w' => e = .returned (.int .i64 r) ∧ Below w.heap.size w w' := by
 have HR0 := zA hr0
 have HC0 := zA hc0
 clear hr0 hc0
 have HB := zA (Below.refl w.heap.size w)
 have H : (punch_passes.l0 k 0 l0 (l0.length : Int) 0) = some r := h
 clear h
 have H' := zA H
 clear H
 go_enter Try.func63, Try.ntmps63
 go_wp2
 go_loopg [3, 8] k (fun kq v3 v8 w' => ∃ (x3_1 : Int) (x8_1 : Int), v3 = .int .i64 x3_1 ∧ v8 = .int .i64 x8_1 ∧ Aside0 (punch_passes.l0 kq x3_1 l0 (l0.length : Int) x8_1 = some r) ∧ Aside0 (kq ≤ k) ∧ Aside0 (Below w.heap.size w w'))
 case atStart => exact ⟨(0), (0), zqQ, zqQ, H', ⟨Nat.le_refl _⟩, ⟨zqA HB.out⟩⟩
 case round =>
  clear H'
  obtain ⟨x3_1, x8_1, rfl, rfl, HA, HK1, HB⟩ := hrel
  cases gk with
  | zero => exact absurd HA.out (by simp [punch_passes.l0])
  | succ k1 =>
   have H := HA.out
   clear HA
   simp only [punch_passes.l0] at H
   by_cases c2 : x8_1 < (l0.length : Int)
   ·
    rw [if_pos c2] at H
    have c2b0 : decide (x8_1 < (l0.length : Int)) = true := decide_eq_true c2
    clear c2
    by_cases c3 : 0 ≤ x8_1
    ·
     rw [if_pos c3] at H
     have c3b0 : decide (0 ≤ x8_1) = true := decide_eq_true c3
     clear c3
     by_cases c4 : x8_1 < (l0.length : Int)
     ·
      rw [if_pos c4] at H
      have c4b0 : decide (x8_1 < (l0.length : Int)) = true := decide_eq_true c4
      clear c4
      obtain ⟨ji5, hji5⟩ : ∃ j_ : Int, (mx x3_1 (wrap64 ((rd l0 x8_1) + 1))) = j_ := ⟨_, rfl⟩
      replace H : (punch_passes.l0 k1 ji5 l0 (l0.length : Int) (wrap64 (x8_1 + 1))) = some r := by first | (rw [hji5] at H; exact H) | (simp only [hji5] at H ⊢; exact H)
      have hji5_ : (if x3_1 < (wrap64 ((rd l0 x8_1) + 1)) then (wrap64 ((rd l0 x8_1) + 1)) else x3_1) = ji5 := hji5
      have H' := zA H
      clear H
      have p688 : 0 ≤ (x8_1 : Int) := of_decide_eq_true (zqD)
      have q688 : x8_1 < (l0.length : Int) := of_decide_eq_true (zqD)
      obtain ⟨ad688, e688, hx688_0⟩ := Kd.at_int HR0.out x8_1 p688 q688
      cases e688
      replace hx688_0 := (HB.out.cell (World.block_lt_of_cell? w _ hx688_0)).trans hx688_0
      replace p688 := eq_true p688; replace q688 := eq_true q688
      go_wp2
      go_roundg k1
      case measure => have := HK1.out; omega
      case rel => exact ⟨(ji5), (wrap64 (x8_1 + 1)), (by first | rfl | (simp; done) | (simp only [← hji5] <;> (first | rfl | simp)) | (simp [*]; done)), zqQ, H', ⟨by have := HK1.out; omega⟩, ⟨zqA HB.out⟩⟩
     ·
      rw [if_neg c4] at H
      exact absurd H (by simp)
    ·
     rw [if_neg c3] at H
     exact absurd H (by simp)
   ·
    rw [if_neg c2] at H
    have c2b0 : decide (x8_1 < (l0.length : Int)) = false := decide_eq_false c2
    clear c2
    obtain rfl := Option.some.inj H
    go_wp2
    go_ret
    exact ⟨zqR, zqA HB.out⟩
def cmp_isNaN_int.f (a0 : Int) : Option (Bool) := some (a0 != a0)
set_option maxHeartbeats 8000000 in
set_option maxRecDepth 100000 in
theorem cmp_isNaN_int.calls (a0 : Int) (r : Bool) (w : World) (h : cmp_isNaN_int.f a0 = some r) :
    Calls Try.prog 87 #[.int .i64 a0] w fun e w' => e = .returned (.bool r) ∧ Drawn0 w w' := by
  have H : (some (a0 != a0)) = some r := h
  clear h
  obtain rfl := Option.some.inj H
  go_enter Try.func87, Try.ntmps87
  go_wp2
  go_ret
  exact ⟨by first | rfl | (simp; done) | (simp [*]; done), by repeat (first | exact Drawn0.refl _ | apply Drawn0.step)⟩
def cmp_Compare_int.f (a0 : Int) (a1 : Int) : Option (Int) := (cmp_isNaN_int.f a0).bind fun t689 => ((cmp_isNaN_int.f a1).bind fun t690 => (if t689 = true then (if t690 = true then (some 0) else (some (-1))) else (if t690 = true then (some 1) else (if a0 < a1 then (some (-1)) else (if a0 > a1 then (some 1) else (some 0))))))
set_option maxHeartbeats 8000000 in
set_option maxRecDepth 100000 in
theorem cmp_Compare_int.calls (a0 : Int) (a1 : Int) (r : Int) (w : World) (h : cmp_Compare_int.f a0 a1 = some r) :
  Calls Try.prog 79 #[.int .i64 a0, .int .i64 a1] w fun e w' => e = .returned (.int .i64 r) ∧ Drawn0 w w' := by
 have H : ((cmp_isNaN_int.f a0).bind fun t689 => ((cmp_isNaN_int.f a1).bind fun t690 => (if t689 = true then (if t690 = true then (some 0) else (some (-1))) else (if t690 = true then (some 1) else (if a0 < a1 then (some (-1)) else (if a0 > a1 then (some 1) else (some 0))))))) = some r := h
 clear h
 replace H := Option.bind_eq_some_iff.mp H
 obtain ⟨t689, A30, H⟩ := H
 replace H : ((cmp_isNaN_int.f a1).bind fun t690 => (if t689 = true then (if t690 = true then (some 0) else (some (-1))) else (if t690 = true then (some 1) else (if a0 < a1 then (some (-1)) else (if a0 > a1 then (some 1) else (some 0)))))) = some r := H
 have A3 := zA A30
 clear A30
 replace H := Option.bind_eq_some_iff.mp H
 obtain ⟨t690, A40, H⟩ := H
 replace H : (if t689 = true then (if t690 = true then (some 0) else (some (-1))) else (if t690 = true then (some 1) else (if a0 < a1 then (some (-1)) else (if a0 > a1 then (some 1) else (some 0))))) = some r := H
 have A4 := zA A40
 clear A40
 by_cases c5 : t689 = true
 ·
  subst c5
  have H1 : (if t690 = true then (some 0) else (some (-1))) = some r := by rw [if_pos rfl] at H; exact H
  clear H; have H := H1; clear H1
  by_cases c6 : t690 = true
  ·
   subst c6
   have H1 : (some 0) = some r := by rw [if_pos rfl] at H; exact H
   clear H; have H := H1; clear H1
   obtain rfl := Option.some.inj H
   go_enter Try.func79, Try.ntmps79
   go_wp2_with (first | ((with_reducible refine gate_callee (f := 87) rfl ?_); refine goesL_ (some 8) rfl rfl Try.func87 (by kernel_rfl) rfl #[.int .i64 a0] rfl zqE ?_; (with_reducible refine (cmp_isNaN_int.calls a0 true _ A3.out).mono ?_); rintro e w' ⟨rfl, ⟨nd, rfl⟩⟩; refine ⟨_, rfl, ?_⟩) | ((with_reducible refine gate_callee (f := 87) rfl ?_); refine goesL_ (some 10) rfl rfl Try.func87 (by kernel_rfl) rfl #[.int .i64 a1] rfl zqE ?_; (with_reducible refine (cmp_isNaN_int.calls a1 true _ A4.out).mono ?_); rintro e w' ⟨rfl, ⟨nd, rfl⟩⟩; refine ⟨_, rfl, ?_⟩))
   go_ret
   exact ⟨by first | rfl | (simp; done) | (simp [*]; done), by repeat (first | exact Drawn0.refl _ | apply Drawn0.step)⟩
  ·
   replace c6 := Bool.eq_false_iff.mpr c6
   subst c6
   have H1 : (some (-1)) = some r := by rw [if_neg (show ¬ (false = true) by decide)] at H; exact H
   clear H; have H := H1; clear H1
   obtain rfl := Option.some.inj H
   go_enter Try.func79, Try.ntmps79
   go_wp2_with (first | ((with_reducible refine gate_callee (f := 87) rfl ?_); refine goesL_ (some 8) rfl rfl Try.func87 (by kernel_rfl) rfl #[.int .i64 a0] rfl zqE ?_; (with_reducible refine (cmp_isNaN_int.calls a0 true _ A3.out).mono ?_); rintro e w' ⟨rfl, ⟨nd, rfl⟩⟩; refine ⟨_, rfl, ?_⟩) | ((with_reducible refine gate_callee (f := 87) rfl ?_); refine goesL_ (some 10) rfl rfl Try.func87 (by kernel_rfl) rfl #[.int .i64 a1] rfl zqE ?_; (with_reducible refine (cmp_isNaN_int.calls a1 false _ A4.out).mono ?_); rintro e w' ⟨rfl, ⟨nd, rfl⟩⟩; refine ⟨_, rfl, ?_⟩))
   go_ret
   exact ⟨by first | rfl | (simp; done) | (simp [*]; done), by repeat (first | exact Drawn0.refl _ | apply Drawn0.step)⟩
 ·
  replace c5 := Bool.eq_false_iff.mpr c5
  subst c5
  have H1 : (if t690 = true then (some 1) else (if a0 < a1 then (some (-1)) else (if a0 > a1 then (some 1) else (some 0)))) = some r := by rw [if_neg (show ¬ (false = true) by decide)] at H; exact H
  clear H; have H := H1; clear H1
  by_cases c7 : t690 = true
  ·
   subst c7
   have H1 : (some 1) = some r := by rw [if_pos rfl] at H; exact H
   clear H; have H := H1; clear H1
   obtain rfl := Option.some.inj H
   go_enter Try.func79, Try.ntmps79
   go_wp2_with (first | ((with_reducible refine gate_callee (f := 87) rfl ?_); refine goesL_ (some 8) rfl rfl Try.func87 (by kernel_rfl) rfl #[.int .i64 a0] rfl zqE ?_; (with_reducible refine (cmp_isNaN_int.calls a0 false _ A3.out).mono ?_); rintro e w' ⟨rfl, ⟨nd, rfl⟩⟩; refine ⟨_, rfl, ?_⟩) | ((with_reducible refine gate_callee (f := 87) rfl ?_); refine goesL_ (some 10) rfl rfl Try.func87 (by kernel_rfl) rfl #[.int .i64 a1] rfl zqE ?_; (with_reducible refine (cmp_isNaN_int.calls a1 true _ A4.out).mono ?_); rintro e w' ⟨rfl, ⟨nd, rfl⟩⟩; refine ⟨_, rfl, ?_⟩))
   go_ret
   exact ⟨by first | rfl | (simp; done) | (simp [*]; done), by repeat (first | exact Drawn0.refl _ | apply Drawn0.step)⟩
  ·
   replace c7 := Bool.eq_false_iff.mpr c7
   subst c7
   have H1 : (if a0 < a1 then (some (-1)) else (if a0 > a1 then (some 1) else (some 0))) = some r := by rw [if_neg (show ¬ (false = true) by decide)] at H; exact H
   clear H; have H := H1; clear H1
   by_cases c8 : a0 < a1
   ·
    rw [if_pos c8] at H
    have c8b0 : decide (a0 < a1) = true := decide_eq_true c8
    clear c8
    obtain rfl := Option.some.inj H
    go_enter Try.func79, Try.ntmps79
    go_wp2_with (first | ((with_reducible refine gate_callee (f := 87) rfl ?_); refine goesL_ (some 8) rfl rfl Try.func87 (by kernel_rfl) rfl #[.int .i64 a0] rfl zqE ?_; (with_reducible refine (cmp_isNaN_int.calls a0 false _ A3.out).mono ?_); rintro e w' ⟨rfl, ⟨nd, rfl⟩⟩; refine ⟨_, rfl, ?_⟩) | ((with_reducible refine gate_callee (f := 87) rfl ?_); refine goesL_ (some 10) rfl rfl Try.func87 (by kernel_rfl) rfl #[.int .i64 a1] rfl zqE ?_; (with_reducible refine (cmp_isNaN_int.calls a1 false _ A4.out).mono ?_); rintro e w' ⟨rfl, ⟨nd, rfl⟩⟩; refine ⟨_, rfl, ?_⟩))
    go_ret
    exact ⟨by first | rfl | (simp; done) | (simp [*]; done), by repeat (first | exact Drawn0.refl _ | apply Drawn0.step)⟩
   ·
    rw [if_neg c8] at H
    have c8b0 : decide (a0 < a1) = false := decide_eq_false c8
    clear c8
    by_cases c9 : a0 > a1
    ·
     rw [if_pos c9] at H
     have c9b0 : decide (a1 < a0) = true := decide_eq_true c9
     clear c9
     obtain rfl := Option.some.inj H
     go_enter Try.func79, Try.ntmps79
     go_wp2_with (first | ((with_reducible refine gate_callee (f := 87) rfl ?_); refine goesL_ (some 8) rfl rfl Try.func87 (by kernel_rfl) rfl #[.int .i64 a0] rfl zqE ?_; (with_reducible refine (cmp_isNaN_int.calls a0 false _ A3.out).mono ?_); rintro e w' ⟨rfl, ⟨nd, rfl⟩⟩; refine ⟨_, rfl, ?_⟩) | ((with_reducible refine gate_callee (f := 87) rfl ?_); refine goesL_ (some 10) rfl rfl Try.func87 (by kernel_rfl) rfl #[.int .i64 a1] rfl zqE ?_; (with_reducible refine (cmp_isNaN_int.calls a1 false _ A4.out).mono ?_); rintro e w' ⟨rfl, ⟨nd, rfl⟩⟩; refine ⟨_, rfl, ?_⟩))
     go_ret
     exact ⟨by first | rfl | (simp; done) | (simp [*]; done), by repeat (first | exact Drawn0.refl _ | apply Drawn0.step)⟩
    ·
     rw [if_neg c9] at H
     have c9b0 : decide (a1 < a0) = false := decide_eq_false c9
     clear c9
     obtain rfl := Option.some.inj H
     go_enter Try.func79, Try.ntmps79
     go_wp2_with (first | ((with_reducible refine gate_callee (f := 87) rfl ?_); refine goesL_ (some 8) rfl rfl Try.func87 (by kernel_rfl) rfl #[.int .i64 a0] rfl zqE ?_; (with_reducible refine (cmp_isNaN_int.calls a0 false _ A3.out).mono ?_); rintro e w' ⟨rfl, ⟨nd, rfl⟩⟩; refine ⟨_, rfl, ?_⟩) | ((with_reducible refine gate_callee (f := 87) rfl ?_); refine goesL_ (some 10) rfl rfl Try.func87 (by kernel_rfl) rfl #[.int .i64 a1] rfl zqE ?_; (with_reducible refine (cmp_isNaN_int.calls a1 false _ A4.out).mono ?_); rintro e w' ⟨rfl, ⟨nd, rfl⟩⟩; refine ⟨_, rfl, ?_⟩))
     go_ret
     exact ⟨by first | rfl | (simp; done) | (simp [*]; done), by repeat (first | exact Drawn0.refl _ | apply Drawn0.step)⟩
end Go.Proofs.Ytegffliopblajaa.P
end
section
namespace Go.Proofs.Ytegffliopblajaa.P
open Go.Shelf Go.RowKit Go.Lib Go.Sort Go.Stb Go.Proofs Go.Proofs.YtegffliopblajaaW.PrintWords Go.Proofs.YtegffliopblajaaW.PrintLast Go.Proofs.YtegffliopblajaaW.PrintMore
set_option linter.unusedVariables false
set_option linter.unusedSimpArgs false
def cmpI (x y : Int) : Int := if x < y then -1 else if x > y then 1 else 0
theorem cmpI_f (x y : Int) : cmp_Compare_int.f x y = some (cmpI x y) := by
  have e : ∀ z, cmp_isNaN_int.f z = some false := fun z => by unfold cmp_isNaN_int.f; simp
  unfold cmp_Compare_int.f cmpI
  rw [e, e]
  show (if false = true then (if false = true then some (0 : Int) else some (-1)) else if false = true then some 1 else if x < y then some (-1) else if x > y then some 1 else some 0) = _
  rw [if_neg (by decide), if_neg (by decide)]
  by_cases c : x < y
  · rw [if_pos c, if_pos c]
  · rw [if_neg c, if_neg c]
    by_cases c2 : x > y
    · rw [if_pos c2, if_pos c2]
    · rw [if_neg c2, if_neg c2]
set_option maxHeartbeats 2000000 in
set_option maxRecDepth 100000 in
theorem begins57 (a b c d : Int) (W : World) : Calls Try.prog 57 #[.agg #[.int .i64 a, .int .i64 b], .agg #[.int .i64 c, .int .i64 d]] W fun e w' => e = .returned (.int .i64 (cmpI a c)) ∧ ∃ q os', w' = grow (W.drewN q) os' := by
  have H := fun W => cmp_Compare_int.calls a c _ W (cmpI_f a c)
  generalize cmpI a c = r at H ⊢
  have hu47 := Try.underlying47
  go_enter Try.func57, Try.ntmps57
  go_wp2_with (go_at_call 79; refine (H _).mono ?_; rintro e w' ⟨rfl, k, rfl⟩)
  go_ret
  exact ⟨rfl, k, _, by rw [alloc_eq_grow, alloc_eq_grow, grow_grow]; rfl⟩
theorem cell_grown {W : World} {p : Addr} {v : Value} (h : W.cell? p = some v) (n : Nat) (os : Array Obj) : (grow (W.drewN n) os).cell? p = some v := by
  have := World.block_lt_of_cell? W _ h
  rw [cell?_grow _ _ _ (by simpa using this)]
  exact h
set_option maxHeartbeats 4000000 in
set_option maxRecDepth 100000 in
theorem closure59 (x y : Int) (Bg Bj : Nat) (R : Value) (A : Option Addr) (c : Nat) (l : List S47) (W : World) (hg : W.cell? ⟨Bg, 0, none⟩ = some (.func (.func 57) #[] #[])) (hj : W.cell? ⟨Bj, 1, none⟩ = some (.slice A l.length c))
    (hr : Kd.C k47 W A l.length l) (x0 : 0 ≤ x) (x1 : x < l.length) (y0 : 0 ≤ y) (y1 : y < l.length) :
    Calls Try.prog 59 (#[.int .i64 x, .int .i64 y] ++ #[.pointer (some ⟨Bg, 0, none⟩), .pointer (some ⟨Bj, 0, none⟩)]) W fun e w' => e = .returned (.int .i64 (cmpI (rd_T47 l x).f0 (rd_T47 l y).f0)) ∧ ∃ q os', w' = grow (W.drewN q) os' := by
  have mixed : Try.prog.follows .mixedOrders = true := by kernel_rfl
  have hu47 := Try.underlying47
  have hu24 := Try.underlying24
  have hu22 := Try.underlying22
  obtain ⟨ad, e, h0, h1⟩ := at_T47 hr x x0 x1
  cases e
  obtain ⟨ad2, e2, h2, h3⟩ := at_T47 hr y y0 y1
  injection e2 with e2
  subst e2
  have hc := fun n os => begins57 (rd_T47 l x).f0 (rd_T47 l x).f1 (rd_T47 l y).f0 (rd_T47 l y).f1 (grow (W.drewN n) os)
  have g0 := fun n os => cell_grown h0 n os
  have g1 := fun n os => cell_grown h1 n os
  have g2 := fun n os => cell_grown h2 n os
  have g3 := fun n os => cell_grown h3 n os
  have gg := fun n os => cell_grown hg n os
  have gj := fun n os => cell_grown hj n os
  generalize (rd_T47 l x).f0 = fx at *; generalize (rd_T47 l x).f1 = tx at *; generalize (rd_T47 l y).f0 = fy at *; generalize (rd_T47 l y).f1 = ty at *; generalize cmpI fx fy = r at *
  have x2 := eq_true x0
  have x3 := eq_true x1
  have y2 := eq_true y0
  have y3 := eq_true y1
  clear h0 h1 h2 h3 hg hj hr x0 x1 y0 y1
  go_enter Try.func59, Try.ntmps59
  go_wp2_with fail
  go_quiet_grown (refine Calls.grown_of (hc _ _))
  go_wp2
  go_ret
  exact ⟨rfl, _, _, rfl⟩
end Go.Proofs.Ytegffliopblajaa.P
end
section
namespace Go.Proofs.Ytegffliopblajaa.P
open Go.RowKit Go.Proofs.YtegffliopblajaaW.PrintWords Go.Proofs.YtegffliopblajaaW.PrintLast Go.Proofs.YtegffliopblajaaW.PrintMore
set_option linter.unusedVariables false
set_option linter.unusedSimpArgs false
def shCells (rest : Int) (A : Option Addr) (n c : Nat) (ps : List Int) : Array Value := #[.int .i64 rest, .slice A n c] ++ (ps.map (Value.int .i64)).toArray
def Sh (W : World) (B : Nat) (rest : Int) (A : Option Addr) (n c : Nat) (ps : List Int) : Prop := ps.length = 40 ∧ W.heap[B]? = some (.cells (shCells rest A n c ps) 108 (0, 0))
theorem sh_set (rest : Int) (A : Option Addr) (n c : Nat) (ps : List Int) (i : Nat) (v : Int) : (shCells rest A n c ps).setIfInBounds (2 + i) (.int .i64 v) = shCells rest A n c (ps.set i v) := by
  apply Array.ext'
  have e : 2 + i = i + 1 + 1 := by omega
  rw [e]
  simp [shCells, List.map_set]
theorem sh_get (rest : Int) (A : Option Addr) (n c : Nat) {ps : List Int} {i : Nat} (h : i < ps.length) : (shCells rest A n c ps)[2 + i]? = some (.int .i64 (ps.getD i 0)) := by
  have e : 2 + i = i + 1 + 1 := by omega
  rw [← Array.getElem?_toList, e]
  simp [shCells, h]
theorem rep_set (k m : Nat) (a b : Int) : (List.replicate k a ++ List.replicate (m + 1) b).set k a = List.replicate (k + 1) a ++ List.replicate m b := by
  rw [List.set_append_right _ _ (by simp)]
  rw [List.length_replicate, Nat.sub_self, List.replicate_succ' (n := k), List.append_assoc]
  rfl
theorem Sh.cell {W : World} {B : Nat} {rest : Int} {A : Option Addr} {n c : Nat} {ps : List Int} (h : Sh W B rest A n c ps) {i : Nat} (hi : i < 40) : W.cell? ⟨B, 2 + i, none⟩ = some (.int .i64 (ps.getD i 0)) := (blk_cell h.2 (2 + i)).trans (sh_get rest A n c (by rw [h.1]; exact hi))
theorem Sh.c0 {W : World} {B : Nat} {rest : Int} {A : Option Addr} {n c : Nat} {ps : List Int} (h : Sh W B rest A n c ps) : W.cell? ⟨B, 0, none⟩ = some (.int .i64 rest) := (blk_cell h.2 0).trans (by rw [← Array.getElem?_toList]; simp [shCells])
theorem Sh.c1 {W : World} {B : Nat} {rest : Int} {A : Option Addr} {n c : Nat} {ps : List Int} (h : Sh W B rest A n c ps) : W.cell? ⟨B, 1, none⟩ = some (.slice A n c) := (blk_cell h.2 1).trans (by rw [← Array.getElem?_toList]; simp [shCells])
theorem Sh.put {W : World} {B : Nat} {rest : Int} {A : Option Addr} {n c : Nat} {ps : List Int} (h : Sh W B rest A n c ps) (i : Nat) (v : Int) : Sh (W.setCell ⟨B, 2 + i, none⟩ (.int .i64 v)) B rest A n c (ps.set i v) := ⟨by rw [List.length_set]; exact h.1, blk_put h.2 (2 + i) (.int .i64 v) (sh_set rest A n c ps i v)⟩
theorem Sh.below {W W' : World} {B : Nat} {rest : Int} {A : Option Addr} {n c : Nat} {ps : List Int} (h : Sh W B rest A n c ps) (hb : Below W.heap.size W W') : Sh W' B rest A n c ps := ⟨h.1, (hb.block B (blk_lt h.2)).trans h.2⟩
set_option maxRecDepth 100000 in
theorem sh_zero (rest : Int) (A : Option Addr) (n c : Nat) : shCells rest A n c (List.replicate 0 (-1) ++ List.replicate 40 0) = #[.int .i64 rest, .slice A n c, .int .i64 0, .int .i64 0, .int .i64 0, .int .i64 0, .int .i64 0, .int .i64 0, .int .i64 0, .int .i64 0, .int .i64 0, .int .i64 0, .int .i64 0, .int .i64 0, .int .i64 0, .int .i64 0, .int .i64 0, .int .i64 0, .int .i64 0, .int .i64 0, .int .i64 0, .int .i64 0, .int .i64 0, .int .i64 0, .int .i64 0, .int .i64 0, .int .i64 0, .int .i64 0, .int .i64 0, .int .i64 0, .int .i64 0, .int .i64 0, .int .i64 0, .int .i64 0, .int .i64 0, .int .i64 0, .int .i64 0, .int .i64 0, .int .i64 0, .int .i64 0, .int .i64 0, .int .i64 0] := by kernel_rfl
set_option maxHeartbeats 4000000 in
set_option maxRecDepth 100000 in
theorem blank60 (rest : Int) (A : Option Addr) (n c : Nat) (w : World) :
    Calls Try.prog 60 #[.agg #[.int .i64 rest, .slice A n c]] w fun e w' => ∃ B, e = .returned (.pointer (some ⟨B, 0, none⟩)) ∧ Sh w' B rest A n c (List.replicate 40 (-1)) ∧ w.heap.size ≤ B ∧ Below w.heap.size w w' := by
  have hu24 := Try.underlying24
  have hu108 := Try.underlying108
  have hu106 := Try.underlying106
  go_enter Try.func60, Try.ntmps60
  go_wp2
  generalize hW0 : World.alloc (World.alloc w _) _ = W0
  have SH : Aside0 (Sh W0 (w.heap.size + 1) rest A n c (List.replicate 0 (-1) ++ List.replicate 40 0)) := ⟨⟨rfl, by
    rw [← hW0, sh_zero]
    have h := heap_alloc_new (w.alloc (.cells #[.int .i64 rest, .slice A n c] 24)) (.cells (#[.int .i64 rest, .slice A n c, .int .i64 0, .int .i64 0, .int .i64 0, .int .i64 0, .int .i64 0, .int .i64 0, .int .i64 0, .int .i64 0, .int .i64 0, .int .i64 0, .int .i64 0, .int .i64 0, .int .i64 0, .int .i64 0, .int .i64 0, .int .i64 0, .int .i64 0, .int .i64 0, .int .i64 0, .int .i64 0, .int .i64 0, .int .i64 0, .int .i64 0, .int .i64 0, .int .i64 0, .int .i64 0, .int .i64 0, .int .i64 0, .int .i64 0, .int .i64 0, .int .i64 0, .int .i64 0, .int .i64 0, .int .i64 0, .int .i64 0, .int .i64 0, .int .i64 0, .int .i64 0, .int .i64 0, .int .i64 0]) 108)
    rw [World.size_alloc] at h
    exact h⟩⟩
  have HB : Aside0 (Below w.heap.size w W0) := ⟨by rw [← hW0]; exact below_alloc (below_alloc (Below.refl _ _) _) _⟩
  clear hW0
  obtain ⟨B, hB⟩ : ∃ B, B = w.heap.size + 1 := ⟨_, rfl⟩
  rw [← hB] at SH ⊢
  have HBB : Aside0 (w.heap.size ≤ B) := ⟨by omega⟩
  clear hB
  go_loopg [8] 40 (fun kx s8 wr => ∃ k : Nat, s8 = .int .i64 k ∧ k ≤ 40 ∧ 40 - k ≤ kx ∧ Aside0 (Sh wr B rest A n c (List.replicate k (-1) ++ List.replicate (40 - k) 0)) ∧ Aside0 (Below w.heap.size w wr))
  case atStart => exact ⟨0, rfl, by omega, Nat.le_refl _, SH, HB⟩
  case round =>
    clear SH HB
    obtain ⟨k, rfl, hk, hkx, SH, HB⟩ := hrel
    by_cases q : k < 40
    · have qz : (k : Int) < 40 := by omega
      have c0 := SH.out.cell q
      have f0 := blk_frozen SH.out.2 (2 + k)
      have S2 : Aside0 _ := ⟨SH.out.put k (-1)⟩
      have B2 : Aside0 _ := ⟨below_set HB.out HBB.out (j := 2 + k) (v := .int .i64 (-1))⟩
      obtain ⟨v0, hv0⟩ : ∃ v0, v0 = (List.replicate k (-1 : Int) ++ List.replicate (40 - k) 0).getD k 0 := ⟨_, rfl⟩
      rw [← hv0] at c0
      clear hv0
      go_wp2
      go_roundg (40 - (k + 1))
      case measure => omega
      case rel => exact ⟨k + 1, by first | rfl | simp, by omega, Nat.le_refl _, ⟨by
        have := S2.out
        rw [show 40 - k = 40 - (k + 1) + 1 by omega, rep_set] at this
        exact this⟩, B2⟩
    · obtain rfl : k = 40 := by omega
      go_wp2
      go_ret
      exact ⟨B, rfl, by simpa using SH.out, HBB.out, HB.out⟩
end Go.Proofs.Ytegffliopblajaa.P
end
