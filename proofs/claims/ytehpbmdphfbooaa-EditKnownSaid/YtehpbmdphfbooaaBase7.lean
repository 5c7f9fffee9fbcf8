/- Words and contracts for a claim. -/
import Derived.Test.YtehpbmdphfbooaaBase6
import Derived.Shelf.SlGeneric
import Derived.Shelf.SlSortCmp.WholeK
import Derived.Ground.SlsfProg
import Derived.Ground.Names2Prog
section
namespace Go.Proofs
open Go.Shelf
def Try.lsrt_ren : Go.Shelf.Ren := ⟨fun | 6 => 85 | 15 => 107 | 14 => 106 | 28 => 122 | 29 => 123 | 20 => 114 | 21 => 115 | 22 => 116 | 23 => 117 | 24 => 118 | 25 => 119 | 26 => 120 | 27 => 121 | 46 => 124 | 47 => 125 | 48 => 126 | 49 => 127 | 50 => 128 | 57 => 129 | n => n, fun | 22 => 104 | 24 => 108 | 25 => 157 | 3 => 3 | 39 => 178 | 0 => 0 | 53 => 189 | 55 => 191 | 4 => 4 | 46 => 183 | 45 => 182 | 50 => 169 | 5 => 5 | 9 => 9 | 66 => 192 | 70 => 196 | 76 => 198 | 77 => 199 | n => n, fun | n => n⟩
theorem Try.lsrt : Go.Proofs.SlLaysF0.n6 Try.prog Try.lsrt_ren := {
 mixed := by kernel_rfl
 f6 := ⟨Try.f85.name, by decide, Try.func85.trans (congrArg some (by kernel_rfl))⟩
 f14 := ⟨Try.f106.name, by decide, Try.func106.trans (congrArg some (by kernel_rfl))⟩
 f15 := Try.func107.trans (congrArg some (by kernel_rfl))
 f20 := ⟨Try.f114.name, by decide, Try.func114.trans (congrArg some (by kernel_rfl))⟩
 f21 := ⟨Try.f115.name, by decide, Try.func115.trans (congrArg some (by kernel_rfl))⟩
 f22 := ⟨Try.f116.name, by decide, Try.func116.trans (congrArg some (by kernel_rfl))⟩
 f23 := ⟨Try.f117.name, by decide, Try.func117.trans (congrArg some (by kernel_rfl))⟩
 f24 := ⟨Try.f118.name, by decide, Try.func118.trans (congrArg some (by kernel_rfl))⟩
 f25 := ⟨Try.f119.name, by decide, Try.func119.trans (congrArg some (by kernel_rfl))⟩
 f26 := ⟨Try.f120.name, by decide, Try.func120.trans (congrArg some (by kernel_rfl))⟩
 f27 := ⟨Try.f121.name, by decide, Try.func121.trans (congrArg some (by kernel_rfl))⟩
 f28 := Try.func122.trans (congrArg some (by kernel_rfl))
 f29 := Try.func123.trans (congrArg some (by kernel_rfl))
 f46 := ⟨Try.f124.name, by decide, Try.func124.trans (congrArg some (by kernel_rfl))⟩
 f47 := Try.func125.trans (congrArg some (by kernel_rfl))
 f48 := Try.func126.trans (congrArg some (by kernel_rfl))
 f49 := ⟨Try.f127.name, by decide, Try.func127.trans (congrArg some (by kernel_rfl))⟩
 f50 := ⟨Try.f128.name, by decide, Try.func128.trans (congrArg some (by kernel_rfl))⟩
 f57 := ⟨Try.f129.name, by decide, Try.func129.trans (congrArg some (by kernel_rfl))⟩
 t0 := Try.underlying0
 a0 := Try.isAgg0
 z0 := Try.sizeOf0
 v0 := Try.zeroValue0
 t3 := Try.underlying3
 a3 := Try.isAgg3
 z3 := Try.sizeOf3
 v3 := Try.zeroValue3
 t4 := Try.underlying4
 a4 := Try.isAgg4
 z4 := Try.sizeOf4
 v4 := Try.zeroValue4
 t5 := Try.underlying5
 a5 := Try.isAgg5
 z5 := Try.sizeOf5
 v5 := Try.zeroValue5
 t9 := Try.underlying9
 a9 := Try.isAgg9
 z9 := Try.sizeOf9
 v9 := Try.zeroValue9
 t22 := Try.underlying104
 a22 := Try.isAgg104
 z22 := Try.sizeOf104
 v22 := Try.zeroValue104
 t25 := Try.underlying157
 a25 := Try.isAgg157
 z25 := Try.sizeOf157
 v25 := Try.zeroValue157
 t39 := Try.underlying178
 a39 := Try.isAgg178
 z39 := Try.sizeOf178
 v39 := Try.zeroValue178
 t45 := Try.underlying182
 a45 := Try.isAgg182
 z45 := Try.sizeOf182
 v45 := Try.zeroValue182
 t46 := Try.underlying183
 a46 := Try.isAgg183
 z46 := Try.sizeOf183
 v46 := Try.zeroValue183
 t50 := Try.underlying169
 a50 := Try.isAgg169
 z50 := Try.sizeOf169
 v50 := Try.zeroValue169
 t53 := Try.underlying189
 a53 := Try.isAgg189
 z53 := Try.sizeOf189
 v53 := Try.zeroValue189
 t55 := Try.underlying191
 a55 := Try.isAgg191
 z55 := Try.sizeOf191
 v55 := Try.zeroValue191
 t66 := Try.underlying192
 a66 := Try.isAgg192
 z66 := Try.sizeOf192
 v66 := Try.zeroValue192
 t70 := Try.underlying196
 a70 := Try.isAgg196
 z70 := Try.sizeOf196
 v70 := Try.zeroValue196
 t76 := Try.underlying198
 a76 := Try.isAgg198
 z76 := Try.sizeOf198
 v76 := Try.zeroValue198
 t77 := Try.underlying199
 a77 := Try.isAgg199
 z77 := Try.sizeOf199
 v77 := Try.zeroValue199 }
end Go.Proofs
end
section
namespace Go.Proofs.Ytehpbmdphfbooaa.P
open Go.RowKit Go.Proofs.YtehpbmdphfbooaaW.PrintWords Go.Proofs.YtehpbmdphfbooaaW.PrintLast Go.Proofs.YtehpbmdphfbooaaW.PrintMore
structure S108 where
  f0 : S61
  f1 : S67
  f2 : S67
def z108 : S108 := ⟨z61, z67, z67⟩
theorem info108 : (Try.prog.info? 108).map (fun i => (i.zero, i.size, i.bytes)) = some (some (.agg #[(.int .i64 0), (.int .i64 0), (.int .i64 0), (.int .i64 0), (.bool false), (.int .i64 0), (.bool false)]), 7, 56) := by kernel_rfl
def k108 : Kd S108 := Kd.iso (Kd.pair k61 (Kd.pair k67 k67)) (fun x : S108 => (x.f0, x.f1, x.f2))
def cells108 (x : S108) : List Value := [.int .i64 x.f0.f0, .int .i64 x.f0.f1, .int .i64 x.f0.f2, .int .i64 x.f1.f0, .bool x.f1.f1, .int .i64 x.f2.f0, .bool x.f2.f1]
theorem k108_open {w : World} {x : S108} {cs : List Value} (h : k108.K w x cs) : cs = [.int .i64 x.f0.f0, .int .i64 x.f0.f1, .int .i64 x.f0.f2, .int .i64 x.f1.f0, .bool x.f1.f1, .int .i64 x.f2.f0, .bool x.f2.f1] := by
  obtain ⟨_, _, rfl, s1, ⟨_, _, rfl, s2, s3⟩⟩ := h
  obtain rfl := k61_open s1
  obtain rfl := k67_open s2
  obtain rfl := k67_open s3
  exact rfl
theorem k108_mk (w : World) (x : S108) : k108.K w x [.int .i64 x.f0.f0, .int .i64 x.f0.f1, .int .i64 x.f0.f2, .int .i64 x.f1.f0, .bool x.f1.f1, .int .i64 x.f2.f0, .bool x.f2.f1] := ⟨[.int .i64 x.f0.f0, .int .i64 x.f0.f1, .int .i64 x.f0.f2], [.int .i64 x.f1.f0, .bool x.f1.f1, .int .i64 x.f2.f0, .bool x.f2.f1], rfl, k61_mk w x.f0, ⟨[.int .i64 x.f1.f0, .bool x.f1.f1], [.int .i64 x.f2.f0, .bool x.f2.f1], rfl, k67_mk w x.f1, k67_mk w x.f2⟩⟩
theorem k108_mkM (w : World) (base : Nat) (ok : Nat → Prop) (x : S108) : k108.M w base ok x [.int .i64 x.f0.f0, .int .i64 x.f0.f1, .int .i64 x.f0.f2, .int .i64 x.f1.f0, .bool x.f1.f1, .int .i64 x.f2.f0, .bool x.f2.f1] := ⟨[.int .i64 x.f0.f0, .int .i64 x.f0.f1, .int .i64 x.f0.f2], [.int .i64 x.f1.f0, .bool x.f1.f1, .int .i64 x.f2.f0, .bool x.f2.f1], rfl, k61_mkM w base ok x.f0, ⟨[.int .i64 x.f1.f0, .bool x.f1.f1], [.int .i64 x.f2.f0, .bool x.f2.f1], rfl, k67_mkM w base ok x.f1, k67_mkM w base ok x.f2⟩⟩
def rd_T108 (xs : List S108) (i : Int) : S108 := xs.getD i.toNat z108
theorem at_T108 {w : World} {A : Option Addr} {n : Nat} {xs : List S108} (h : Kd.C k108 w A n xs) (i : Int) (h0 : 0 ≤ i) (h1 : i < n) : ∃ ad, A = some ad ∧ w.cell? (ad.add (i.toNat * 7)) = some (.int .i64 (rd_T108 xs i).f0.f0) ∧ w.cell? ⟨(ad.add (i.toNat * 7)).block, (ad.add (i.toNat * 7)).off + 1, none⟩ = some (.int .i64 (rd_T108 xs i).f0.f1) ∧ w.cell? ⟨(ad.add (i.toNat * 7)).block, (ad.add (i.toNat * 7)).off + 2, none⟩ = some (.int .i64 (rd_T108 xs i).f0.f2) ∧ w.cell? ⟨(ad.add (i.toNat * 7)).block, (ad.add (i.toNat * 7)).off + 3, none⟩ = some (.int .i64 (rd_T108 xs i).f1.f0) ∧ w.cell? ⟨(ad.add (i.toNat * 7)).block, (ad.add (i.toNat * 7)).off + 4, none⟩ = some (.bool (rd_T108 xs i).f1.f1) ∧ w.cell? ⟨(ad.add (i.toNat * 7)).block, (ad.add (i.toNat * 7)).off + 5, none⟩ = some (.int .i64 (rd_T108 xs i).f2.f0) ∧ w.cell? ⟨(ad.add (i.toNat * 7)).block, (ad.add (i.toNat * 7)).off + 6, none⟩ = some (.bool (rd_T108 xs i).f2.f1) := by
  obtain ⟨ad, c, e, _, hK, hc0⟩ := Kd.C_get h z108 i h0 h1
  have hc : ∀ j u, c[j]? = some u → w.cell? (ad.add (i.toNat * 7 + j)) = some u := hc0
  obtain rfl := k108_open hK
  exact ⟨ad, e, hc 0 _ rfl, by rw [← add_field _ _ 1 (by omega)]; exact hc 1 _ rfl, by rw [← add_field _ _ 2 (by omega)]; exact hc 2 _ rfl, by rw [← add_field _ _ 3 (by omega)]; exact hc 3 _ rfl, by rw [← add_field _ _ 4 (by omega)]; exact hc 4 _ rfl, by rw [← add_field _ _ 5 (by omega)]; exact hc 5 _ rfl, by rw [← add_field _ _ 6 (by omega)]; exact hc 6 _ rfl⟩
end Go.Proofs.Ytehpbmdphfbooaa.P
end
section
namespace Go.Proofs.Ytehpbmdphfbooaa.P
open Go.RowKit Go.Proofs.YtehpbmdphfbooaaW.PrintWords Go.Proofs.YtehpbmdphfbooaaW.PrintLast Go.Proofs.YtehpbmdphfbooaaW.PrintMore
set_option linter.unusedVariables false
set_option linter.unusedSimpArgs false
def mapI {α β : Type} (g : Nat → α → β) (f : Nat → α) (k : Nat) : List β := (List.range k).map fun i => g i (f i)
theorem mapI_succ {α β : Type} (g : Nat → α → β) (f : Nat → α) (k : Nat) : mapI g f (k + 1) = mapI g f k ++ [g k (f k)] := by
  unfold mapI
  rw [List.range_succ, List.map_append]
  rfl
theorem mapI_len {α β : Type} (g : Nat → α → β) (f : Nat → α) (k : Nat) : (mapI g f k).length = k := by unfold mapI; simp
set_option maxHeartbeats 4000000 in
set_option maxRecDepth 100000 in
theorem each60 (gb : Nat) (A : Option Addr) (c : Nat) (l : List S67) (g : Nat → S67 → S67) (w : World) (hC : Kd.C k67 w A l.length l) (hc : l.length ≤ c) (hl : l.length ≤ 1000000)
  (hcl : ∀ (i : Nat) (W : World), i < l.length → Below w.heap.size w W → Calls Try.prog 61 #[.int .i64 (i : Int), .agg #[.int .i64 (rd_T67 l (i : Int)).f0, .bool (rd_T67 l (i : Int)).f1], .pointer (some ⟨gb, 0, none⟩)] W fun e w' => e = .returned (.agg #[.int .i64 (g i (rd_T67 l (i : Int))).f0, .bool (g i (rd_T67 l (i : Int))).f1]) ∧ Below W.heap.size W w') :
  Calls Try.prog 60 #[.slice A l.length c, .func (.func 61) #[] #[.pointer (some ⟨gb, 0, none⟩)]] w fun e w' => ∃ v, e = .returned v ∧ Kd.R k67 67 w' w.heap.size (fun _ => True) v (mapI g (fun i => rd_T67 l (i : Int)) l.length) ∧ Below w.heap.size w w' := by
 have HC := zA hC
 have HCL := zA hcl
 have HB := zA (Below.refl w.heap.size w)
 obtain ⟨i0, hi, hz0, hz1, hz2⟩ := info_parts info67
 have hus := Try.underlying26
 clear hC hcl
 go_enter Try.func60, Try.ntmps60
 go_wp2_with (first | (at_make; refine wpList_make_own _ rfl _ _ 26 rfl w.heap.size 67 i0 _ 2 Try.underlying26 hi hz0 hz1 .i64 .i64 _ l.length rfl rfl rfl (by rw [hz2]; omega) (by unfold maxLen; omega) (Nat.le_refl _) ?_; intro w1 hown1 hg1))
 have HB1 := zA (HB.out.grown hg1 (Nat.le_refl _) (fun j hj => by cases hj))
 have aa : Aside0 (Kd.R k67 67 w1 w.heap.size (fun _ => True) (.slice (some ⟨w.heap.size, 0, none⟩) 0 l.length) (mapI g (fun i => rd_T67 l (i : Int)) 0)) := ⟨⟨fun _ _ => trivial, ⟨[], hown1, Reps.none _ _⟩⟩⟩
 clear hown1 hg1 HB hi hz0 hz1 hz2
 go_wp2
 go_loopg [5, 13] l.length (fun kq v5 v13 w' => ∃ k : Nat, v13 = .int .i64 k ∧ k ≤ l.length ∧ l.length - k ≤ kq ∧ Aside0 (Kd.R k67 67 w' w.heap.size (fun _ => True) v5 (mapI g (fun i => rd_T67 l (i : Int)) k)) ∧ Aside0 (Below w.heap.size w w'))
 case atStart => exact ⟨0, rfl, Nat.zero_le _, by omega, aa, HB1⟩
 case round =>
  clear aa HB1
  obtain ⟨k, rfl, hk, hkx, HO, HB⟩ := hrel
  by_cases q : k < l.length
  ·
   have qz : (k : Int) < (l.length : Int) := by omega
   obtain ⟨g1, rfl⟩ : ∃ g_, gk = g_ + 1 := ⟨gk - 1, by omega⟩
   obtain ⟨ad, e, h0, h1⟩ := at_T67 HC.out (k : Int) (by omega) qz
   subst e
   rw [Int.toNat_natCast] at h0 h1
   replace h0 := (HB.out.cell (World.block_lt_of_cell? w _ h0)).trans h0
   replace h1 := (HB.out.cell (World.block_lt_of_cell? w _ h1)).trans h1
   have KC := zA (fun W => HCL.out k W q)
   have HX := zA (mapI_succ g (fun i => rd_T67 l (i : Int)) k)
   obtain ⟨x, hx⟩ : ∃ x_, x_ = rd_T67 l (k : Int) := ⟨_, rfl⟩
   rw [← hx] at h0 h1 KC
   have HX2 : Aside0 (mapI g (fun i => rd_T67 l (i : Int)) (k + 1) = mapI g (fun i => rd_T67 l (i : Int)) k ++ [g k x]) := ⟨by rw [hx]; exact HX.out⟩
   clear hx HX
   obtain ⟨xs, hxs⟩ : ∃ x_, x_ = mapI g (fun i => rd_T67 l (i : Int)) k := ⟨_, rfl⟩
   have HL : Aside0 (xs.length = k) := ⟨by rw [hxs, mapI_len]⟩
   rw [← hxs] at HO HX2
   clear hxs
   obtain ⟨y, hy⟩ : ∃ y_, y_ = g k x := ⟨_, rfl⟩
   rw [← hy] at HX2 KC
   clear hy
   go_upto_region 5 with (fail)
   obtain ⟨go, hgo⟩ : ∃ x_ : Nat, x_ = wr.heap.size := ⟨_, rfl⟩
   rw [← hgo]
   have n0_ := zA (heap_alloc_new wr (.cells #[.int .i64 x.f0, .bool x.f1] 67)); have n1_ := zA (below_alloc HB.out (.cells #[.int .i64 x.f0, .bool x.f1] 67)); have n2_ := zA (Kd.R_alloc HO.out (.cells #[.int .i64 x.f0, .bool x.f1] 67))
   rw [← hgo] at n0_
   clear hgo h0 h1 HB HO; generalize wr.alloc (.cells #[.int .i64 x.f0, .bool x.f1] 67) = W1 at n0_ n1_ n2_ ⊢
   have z0 : W1.cell? ⟨go, 0, none⟩ = some (.int .i64 x.f0) := (blk_cell n0_.out 0).trans rfl
   have z1 : W1.cell? ⟨go, 1, none⟩ = some (.bool x.f1) := (blk_cell n0_.out 1).trans rfl
   have K2 := zA (KC.out W1 n1_.out)
   clear KC
   go_wp2_with fail
   refine K2.out.mono ?_
   rintro e w5 ⟨rfl, hb5⟩
   have HO := zA (Kd.R_below n2_.out hb5)
   have HB := zA (below_step n1_.out hb5)
   clear n0_ n1_ n2_ hb5 K2 z0 z1
   go_wp2_with (first | ((with_reducible refine gate_builtin (b := .append) (xs := #[.tmp 18, .tmp 23]) rfl ?_); at_builtin; refine Kd.R_append k67 (w0 := w) w.heap.size rfl (.tmp 18) (.tmp 23) 26 67 (.agg #[(.int .i64 0), (.bool false)]) 16 rfl Try.underlying26 info67 rfl (by decide) (by omega) u5 xs (⟨y.f0, y.f1⟩ : S67) [.int .i64 y.f0, .bool y.f1] (fun _ => True) (fun _ => False) rfl rfl ?aP (fun _ hk => hk.elim) (fun _ _ => trivial) HO.out HB.out HB.out.size ?aL ?_; (case aP => exact k67_mkM _ _ _ _); (case aL => have := HL.out; omega); intro v1 w6 ho hb hg hat))
   have HO6 := zA ho
   have HB6 := zA hb
   clear ho hb hg hat HO HB
   go_wp2
   go_roundg g1
   case measure => omega
   case rel => exact ⟨k + 1, by go_num, by omega, by omega, ⟨by rw [HX2.out]; exact HO6.out⟩, HB6⟩
  ·
   obtain rfl : k = l.length := by omega
   go_wp2
   go_ret
   exact ⟨_, rfl, HO.out, HB.out⟩
set_option maxHeartbeats 4000000 in
set_option maxRecDepth 100000 in
theorem each87 (A : Option Addr) (c : Nat) (l : List S108) (g : Nat → S108 → S61) (w : World) (hC : Kd.C k108 w A l.length l) (hc : l.length ≤ c) (hl : l.length ≤ 1000000)
  (hcl : ∀ (i : Nat) (W : World), i < l.length → Below w.heap.size w W → Calls Try.prog 88 #[.int .i64 (i : Int), .agg #[.int .i64 (rd_T108 l (i : Int)).f0.f0, .int .i64 (rd_T108 l (i : Int)).f0.f1, .int .i64 (rd_T108 l (i : Int)).f0.f2, .int .i64 (rd_T108 l (i : Int)).f1.f0, .bool (rd_T108 l (i : Int)).f1.f1, .int .i64 (rd_T108 l (i : Int)).f2.f0, .bool (rd_T108 l (i : Int)).f2.f1]] W fun e w' => e = .returned (.agg #[.int .i64 (g i (rd_T108 l (i : Int))).f0, .int .i64 (g i (rd_T108 l (i : Int))).f1, .int .i64 (g i (rd_T108 l (i : Int))).f2]) ∧ Below W.heap.size W w') :
  Calls Try.prog 87 #[.slice A l.length c, .func (.func 88) #[] #[]] w fun e w' => ∃ v, e = .returned v ∧ Kd.R k61 61 w' w.heap.size (fun _ => True) v (mapI g (fun i => rd_T108 l (i : Int)) l.length) ∧ Below w.heap.size w w' := by
 have HC := zA hC
 have HCL := zA hcl
 have HB := zA (Below.refl w.heap.size w)
 obtain ⟨i0, hi, hz0, hz1, hz2⟩ := info_parts info61
 have hus := Try.underlying22
 clear hC hcl
 go_enter Try.func87, Try.ntmps87
 go_wp2_with (first | (at_make; refine wpList_make_own _ rfl _ _ 22 rfl w.heap.size 61 i0 _ 3 Try.underlying22 hi hz0 hz1 .i64 .i64 _ l.length rfl rfl rfl (by rw [hz2]; omega) (by unfold maxLen; omega) (Nat.le_refl _) ?_; intro w1 hown1 hg1))
 have HB1 := zA (HB.out.grown hg1 (Nat.le_refl _) (fun j hj => by cases hj))
 have aa : Aside0 (Kd.R k61 61 w1 w.heap.size (fun _ => True) (.slice (some ⟨w.heap.size, 0, none⟩) 0 l.length) (mapI g (fun i => rd_T108 l (i : Int)) 0)) := ⟨⟨fun _ _ => trivial, ⟨[], hown1, Reps.none _ _⟩⟩⟩
 clear hown1 hg1 HB hi hz0 hz1 hz2
 go_wp2
 go_loopg [5, 13] l.length (fun kq v5 v13 w' => ∃ k : Nat, v13 = .int .i64 k ∧ k ≤ l.length ∧ l.length - k ≤ kq ∧ Aside0 (Kd.R k61 61 w' w.heap.size (fun _ => True) v5 (mapI g (fun i => rd_T108 l (i : Int)) k)) ∧ Aside0 (Below w.heap.size w w'))
 case atStart => exact ⟨0, rfl, Nat.zero_le _, by omega, aa, HB1⟩
 case round =>
  clear aa HB1
  obtain ⟨k, rfl, hk, hkx, HO, HB⟩ := hrel
  by_cases q : k < l.length
  ·
   have qz : (k : Int) < (l.length : Int) := by omega
   obtain ⟨g1, rfl⟩ : ∃ g_, gk = g_ + 1 := ⟨gk - 1, by omega⟩
   obtain ⟨ad, e, h0, h1, h2, h3, h4, h5, h6⟩ := at_T108 HC.out (k : Int) (by omega) qz
   subst e
   rw [Int.toNat_natCast] at h0 h1 h2 h3 h4 h5 h6
   replace h0 := (HB.out.cell (World.block_lt_of_cell? w _ h0)).trans h0
   replace h1 := (HB.out.cell (World.block_lt_of_cell? w _ h1)).trans h1
   replace h2 := (HB.out.cell (World.block_lt_of_cell? w _ h2)).trans h2
   replace h3 := (HB.out.cell (World.block_lt_of_cell? w _ h3)).trans h3
   replace h4 := (HB.out.cell (World.block_lt_of_cell? w _ h4)).trans h4
   replace h5 := (HB.out.cell (World.block_lt_of_cell? w _ h5)).trans h5
   replace h6 := (HB.out.cell (World.block_lt_of_cell? w _ h6)).trans h6
   have KC := zA (fun W => HCL.out k W q)
   have HX := zA (mapI_succ g (fun i => rd_T108 l (i : Int)) k)
   obtain ⟨x, hx⟩ : ∃ x_, x_ = rd_T108 l (k : Int) := ⟨_, rfl⟩
   rw [← hx] at h0 h1 h2 h3 h4 h5 h6 KC
   have HX2 : Aside0 (mapI g (fun i => rd_T108 l (i : Int)) (k + 1) = mapI g (fun i => rd_T108 l (i : Int)) k ++ [g k x]) := ⟨by rw [hx]; exact HX.out⟩
   clear hx HX
   obtain ⟨xs, hxs⟩ : ∃ x_, x_ = mapI g (fun i => rd_T108 l (i : Int)) k := ⟨_, rfl⟩
   have HL : Aside0 (xs.length = k) := ⟨by rw [hxs, mapI_len]⟩
   rw [← hxs] at HO HX2
   clear hxs
   obtain ⟨y, hy⟩ : ∃ y_, y_ = g k x := ⟨_, rfl⟩
   rw [← hy] at HX2 KC
   clear hy
   go_upto_region 5 with (fail)
   obtain ⟨go, hgo⟩ : ∃ x_ : Nat, x_ = wr.heap.size := ⟨_, rfl⟩
   rw [← hgo]
   have n0_ := zA (heap_alloc_new wr (.cells #[.int .i64 x.f0.f0, .int .i64 x.f0.f1, .int .i64 x.f0.f2, .int .i64 x.f1.f0, .bool x.f1.f1, .int .i64 x.f2.f0, .bool x.f2.f1] 108)); have n1_ := zA (below_alloc HB.out (.cells #[.int .i64 x.f0.f0, .int .i64 x.f0.f1, .int .i64 x.f0.f2, .int .i64 x.f1.f0, .bool x.f1.f1, .int .i64 x.f2.f0, .bool x.f2.f1] 108)); have n2_ := zA (Kd.R_alloc HO.out (.cells #[.int .i64 x.f0.f0, .int .i64 x.f0.f1, .int .i64 x.f0.f2, .int .i64 x.f1.f0, .bool x.f1.f1, .int .i64 x.f2.f0, .bool x.f2.f1] 108))
   rw [← hgo] at n0_
   clear hgo h0 h1 h2 h3 h4 h5 h6 HB HO; generalize wr.alloc (.cells #[.int .i64 x.f0.f0, .int .i64 x.f0.f1, .int .i64 x.f0.f2, .int .i64 x.f1.f0, .bool x.f1.f1, .int .i64 x.f2.f0, .bool x.f2.f1] 108) = W1 at n0_ n1_ n2_ ⊢
   have z0 : W1.cell? ⟨go, 0, none⟩ = some (.int .i64 x.f0.f0) := (blk_cell n0_.out 0).trans rfl
   have z1 : W1.cell? ⟨go, 1, none⟩ = some (.int .i64 x.f0.f1) := (blk_cell n0_.out 1).trans rfl
   have z2 : W1.cell? ⟨go, 2, none⟩ = some (.int .i64 x.f0.f2) := (blk_cell n0_.out 2).trans rfl
   have z3 : W1.cell? ⟨go, 3, none⟩ = some (.int .i64 x.f1.f0) := (blk_cell n0_.out 3).trans rfl
   have z4 : W1.cell? ⟨go, 4, none⟩ = some (.bool x.f1.f1) := (blk_cell n0_.out 4).trans rfl
   have z5 : W1.cell? ⟨go, 5, none⟩ = some (.int .i64 x.f2.f0) := (blk_cell n0_.out 5).trans rfl
   have z6 : W1.cell? ⟨go, 6, none⟩ = some (.bool x.f2.f1) := (blk_cell n0_.out 6).trans rfl
   have K2 := zA (KC.out W1 n1_.out)
   clear KC
   go_wp2_with fail
   refine K2.out.mono ?_
   rintro e w5 ⟨rfl, hb5⟩
   have HO := zA (Kd.R_below n2_.out hb5)
   have HB := zA (below_step n1_.out hb5)
   clear n0_ n1_ n2_ hb5 K2 z0 z1 z2 z3 z4 z5 z6
   go_wp2_with (first | ((with_reducible refine gate_builtin (b := .append) (xs := #[.tmp 18, .tmp 23]) rfl ?_); at_builtin; refine Kd.R_append k61 (w0 := w) w.heap.size rfl (.tmp 18) (.tmp 23) 22 61 (.agg #[(.int .i64 0), (.int .i64 0), (.int .i64 0)]) 24 rfl Try.underlying22 info61 rfl (by decide) (by omega) u5 xs (⟨y.f0, y.f1, y.f2⟩ : S61) [.int .i64 y.f0, .int .i64 y.f1, .int .i64 y.f2] (fun _ => True) (fun _ => False) rfl rfl ?aP (fun _ hk => hk.elim) (fun _ _ => trivial) HO.out HB.out HB.out.size ?aL ?_; (case aP => exact k61_mkM _ _ _ _); (case aL => have := HL.out; omega); intro v1 w6 ho hb hg hat))
   have HO6 := zA ho
   have HB6 := zA hb
   clear ho hb hg hat HO HB
   go_wp2
   go_roundg g1
   case measure => omega
   case rel => exact ⟨k + 1, by go_num, by omega, by omega, ⟨by rw [HX2.out]; exact HO6.out⟩, HB6⟩
  ·
   obtain rfl : k = l.length := by omega
   go_wp2
   go_ret
   exact ⟨_, rfl, HO.out, HB.out⟩
set_option maxHeartbeats 4000000 in
set_option maxRecDepth 100000 in
theorem each89 (A : Option Addr) (c : Nat) (l : List S108) (g : Nat → S108 → S67) (w : World) (hC : Kd.C k108 w A l.length l) (hc : l.length ≤ c) (hl : l.length ≤ 1000000)
  (hcl : ∀ (i : Nat) (W : World), i < l.length → Below w.heap.size w W → Calls Try.prog 90 #[.int .i64 (i : Int), .agg #[.int .i64 (rd_T108 l (i : Int)).f0.f0, .int .i64 (rd_T108 l (i : Int)).f0.f1, .int .i64 (rd_T108 l (i : Int)).f0.f2, .int .i64 (rd_T108 l (i : Int)).f1.f0, .bool (rd_T108 l (i : Int)).f1.f1, .int .i64 (rd_T108 l (i : Int)).f2.f0, .bool (rd_T108 l (i : Int)).f2.f1]] W fun e w' => e = .returned (.agg #[.int .i64 (g i (rd_T108 l (i : Int))).f0, .bool (g i (rd_T108 l (i : Int))).f1]) ∧ Below W.heap.size W w') :
  Calls Try.prog 89 #[.slice A l.length c, .func (.func 90) #[] #[]] w fun e w' => ∃ v, e = .returned v ∧ Kd.R k67 67 w' w.heap.size (fun _ => True) v (mapI g (fun i => rd_T108 l (i : Int)) l.length) ∧ Below w.heap.size w w' := by
 have HC := zA hC
 have HCL := zA hcl
 have HB := zA (Below.refl w.heap.size w)
 obtain ⟨i0, hi, hz0, hz1, hz2⟩ := info_parts info67
 have hus := Try.underlying26
 clear hC hcl
 go_enter Try.func89, Try.ntmps89
 go_wp2_with (first | (at_make; refine wpList_make_own _ rfl _ _ 26 rfl w.heap.size 67 i0 _ 2 Try.underlying26 hi hz0 hz1 .i64 .i64 _ l.length rfl rfl rfl (by rw [hz2]; omega) (by unfold maxLen; omega) (Nat.le_refl _) ?_; intro w1 hown1 hg1))
 have HB1 := zA (HB.out.grown hg1 (Nat.le_refl _) (fun j hj => by cases hj))
 have aa : Aside0 (Kd.R k67 67 w1 w.heap.size (fun _ => True) (.slice (some ⟨w.heap.size, 0, none⟩) 0 l.length) (mapI g (fun i => rd_T108 l (i : Int)) 0)) := ⟨⟨fun _ _ => trivial, ⟨[], hown1, Reps.none _ _⟩⟩⟩
 clear hown1 hg1 HB hi hz0 hz1 hz2
 go_wp2
 go_loopg [5, 13] l.length (fun kq v5 v13 w' => ∃ k : Nat, v13 = .int .i64 k ∧ k ≤ l.length ∧ l.length - k ≤ kq ∧ Aside0 (Kd.R k67 67 w' w.heap.size (fun _ => True) v5 (mapI g (fun i => rd_T108 l (i : Int)) k)) ∧ Aside0 (Below w.heap.size w w'))
 case atStart => exact ⟨0, rfl, Nat.zero_le _, by omega, aa, HB1⟩
 case round =>
  clear aa HB1
  obtain ⟨k, rfl, hk, hkx, HO, HB⟩ := hrel
  by_cases q : k < l.length
  ·
   have qz : (k : Int) < (l.length : Int) := by omega
   obtain ⟨g1, rfl⟩ : ∃ g_, gk = g_ + 1 := ⟨gk - 1, by omega⟩
   obtain ⟨ad, e, h0, h1, h2, h3, h4, h5, h6⟩ := at_T108 HC.out (k : Int) (by omega) qz
   subst e
   rw [Int.toNat_natCast] at h0 h1 h2 h3 h4 h5 h6
   replace h0 := (HB.out.cell (World.block_lt_of_cell? w _ h0)).trans h0
   replace h1 := (HB.out.cell (World.block_lt_of_cell? w _ h1)).trans h1
   replace h2 := (HB.out.cell (World.block_lt_of_cell? w _ h2)).trans h2
   replace h3 := (HB.out.cell (World.block_lt_of_cell? w _ h3)).trans h3
   replace h4 := (HB.out.cell (World.block_lt_of_cell? w _ h4)).trans h4
   replace h5 := (HB.out.cell (World.block_lt_of_cell? w _ h5)).trans h5
   replace h6 := (HB.out.cell (World.block_lt_of_cell? w _ h6)).trans h6
   have KC := zA (fun W => HCL.out k W q)
   have HX := zA (mapI_succ g (fun i => rd_T108 l (i : Int)) k)
   obtain ⟨x, hx⟩ : ∃ x_, x_ = rd_T108 l (k : Int) := ⟨_, rfl⟩
   rw [← hx] at h0 h1 h2 h3 h4 h5 h6 KC
   have HX2 : Aside0 (mapI g (fun i => rd_T108 l (i : Int)) (k + 1) = mapI g (fun i => rd_T108 l (i : Int)) k ++ [g k x]) := ⟨by rw [hx]; exact HX.out⟩
   clear hx HX
   obtain ⟨xs, hxs⟩ : ∃ x_, x_ = mapI g (fun i => rd_T108 l (i : Int)) k := ⟨_, rfl⟩
   have HL : Aside0 (xs.length = k) := ⟨by rw [hxs, mapI_len]⟩
   rw [← hxs] at HO HX2
   clear hxs
   obtain ⟨y, hy⟩ : ∃ y_, y_ = g k x := ⟨_, rfl⟩
   rw [← hy] at HX2 KC
   clear hy
   go_upto_region 5 with (fail)
   obtain ⟨go, hgo⟩ : ∃ x_ : Nat, x_ = wr.heap.size := ⟨_, rfl⟩
   rw [← hgo]
   have n0_ := zA (heap_alloc_new wr (.cells #[.int .i64 x.f0.f0, .int .i64 x.f0.f1, .int .i64 x.f0.f2, .int .i64 x.f1.f0, .bool x.f1.f1, .int .i64 x.f2.f0, .bool x.f2.f1] 108)); have n1_ := zA (below_alloc HB.out (.cells #[.int .i64 x.f0.f0, .int .i64 x.f0.f1, .int .i64 x.f0.f2, .int .i64 x.f1.f0, .bool x.f1.f1, .int .i64 x.f2.f0, .bool x.f2.f1] 108)); have n2_ := zA (Kd.R_alloc HO.out (.cells #[.int .i64 x.f0.f0, .int .i64 x.f0.f1, .int .i64 x.f0.f2, .int .i64 x.f1.f0, .bool x.f1.f1, .int .i64 x.f2.f0, .bool x.f2.f1] 108))
   rw [← hgo] at n0_
   clear hgo h0 h1 h2 h3 h4 h5 h6 HB HO; generalize wr.alloc (.cells #[.int .i64 x.f0.f0, .int .i64 x.f0.f1, .int .i64 x.f0.f2, .int .i64 x.f1.f0, .bool x.f1.f1, .int .i64 x.f2.f0, .bool x.f2.f1] 108) = W1 at n0_ n1_ n2_ ⊢
   have z0 : W1.cell? ⟨go, 0, none⟩ = some (.int .i64 x.f0.f0) := (blk_cell n0_.out 0).trans rfl
   have z1 : W1.cell? ⟨go, 1, none⟩ = some (.int .i64 x.f0.f1) := (blk_cell n0_.out 1).trans rfl
   have z2 : W1.cell? ⟨go, 2, none⟩ = some (.int .i64 x.f0.f2) := (blk_cell n0_.out 2).trans rfl
   have z3 : W1.cell? ⟨go, 3, none⟩ = some (.int .i64 x.f1.f0) := (blk_cell n0_.out 3).trans rfl
   have z4 : W1.cell? ⟨go, 4, none⟩ = some (.bool x.f1.f1) := (blk_cell n0_.out 4).trans rfl
   have z5 : W1.cell? ⟨go, 5, none⟩ = some (.int .i64 x.f2.f0) := (blk_cell n0_.out 5).trans rfl
   have z6 : W1.cell? ⟨go, 6, none⟩ = some (.bool x.f2.f1) := (blk_cell n0_.out 6).trans rfl
   have K2 := zA (KC.out W1 n1_.out)
   clear KC
   go_wp2_with fail
   refine K2.out.mono ?_
   rintro e w5 ⟨rfl, hb5⟩
   have HO := zA (Kd.R_below n2_.out hb5)
   have HB := zA (below_step n1_.out hb5)
   clear n0_ n1_ n2_ hb5 K2 z0 z1 z2 z3 z4 z5 z6
   go_wp2_with (first | ((with_reducible refine gate_builtin (b := .append) (xs := #[.tmp 18, .tmp 23]) rfl ?_); at_builtin; refine Kd.R_append k67 (w0 := w) w.heap.size rfl (.tmp 18) (.tmp 23) 26 67 (.agg #[(.int .i64 0), (.bool false)]) 16 rfl Try.underlying26 info67 rfl (by decide) (by omega) u5 xs (⟨y.f0, y.f1⟩ : S67) [.int .i64 y.f0, .bool y.f1] (fun _ => True) (fun _ => False) rfl rfl ?aP (fun _ hk => hk.elim) (fun _ _ => trivial) HO.out HB.out HB.out.size ?aL ?_; (case aP => exact k67_mkM _ _ _ _); (case aL => have := HL.out; omega); intro v1 w6 ho hb hg hat))
   have HO6 := zA ho
   have HB6 := zA hb
   clear ho hb hg hat HO HB
   go_wp2
   go_roundg g1
   case measure => omega
   case rel => exact ⟨k + 1, by go_num, by omega, by omega, ⟨by rw [HX2.out]; exact HO6.out⟩, HB6⟩
  ·
   obtain rfl : k = l.length := by omega
   go_wp2
   go_ret
   exact ⟨_, rfl, HO.out, HB.out⟩
end Go.Proofs.Ytehpbmdphfbooaa.P
end
