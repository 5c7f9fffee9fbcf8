/- Words and contracts for a claim. -/
import Derived.Test.YtegffliopblajaaPunchBars4
import Derived.StillTailTactics
section
namespace Go.Proofs.Ytegffliopblajaa.P
open Go.RowKit Go.Proofs.YtegffliopblajaaW.PrintWords Go.Proofs.YtegffliopblajaaW.PrintLast Go.Proofs.YtegffliopblajaaW.PrintMore
attribute [local go_sem] max2_int min2_int max_two min_two max_three min_three max_four min_four
set_option linter.unusedVariables false
set_option linter.unusedSimpArgs false
attribute [local go_sem high] eqA47
mutual
def pianolaref03_Bridge.j0 : Nat → Bool → Int → Int → Int → Int → Int → Int → Option ((List (S52)) × Int)
  | 0, _, _, _, _, _, _, _ => none
  | k + 1, x34, x286000, x286001, x292000, x292001, x293000, x293001 => if x34 = true then (some (([] : List (S52)), 3)) else (pianolaref03_Bridge.l0 k 1 x286000 x286001 x292000 x292001 x293000 x293001)
def pianolaref03_Bridge.l0 : Nat → Int → Int → Int → Int → Int → Int → Int → Option ((List (S52)) × Int)
  | 0, _, _, _, _, _, _, _ => none
  | k + 1, x9, x286000, x286001, x292000, x292001, x293000, x293001 => (pianolaref03_can.f x292000 x292001 x293000 x293001 (wrap64 (x286001 - x286000)) x9 (wrap64 (x9 - 1))).bind fun t294 => (if t294 = true then (pianolaref03_Bridge.l1 k x9 ([] : List (S52)) x286000 0 x286000 x286001 x292000 x292001 x293000 x293001) else (if (wrap64 (x9 + 1)) > 200 then (some (([] : List (S52)), 20)) else (if x293001 = 0 then (some (([] : List (S52)), 20)) else (pianolaref03_Bridge.l0 k (wrap64 (x9 + 1)) x286000 x286001 x292000 x292001 x293000 x293001))))
def pianolaref03_Bridge.l1 : Nat → Int → List (S52) → Int → Int → Int → Int → Int → Int → Int → Int → Option ((List (S52)) × Int)
  | 0, _, _, _, _, _, _, _, _, _, _ => none
  | k + 1, x9, x10, x11, x12, x286000, x286001, x292000, x292001, x293000, x293001 => if x12 < x9 then (pianolaref03_Bridge.l2 k x9 x10 x11 x12 x292001 x286000 x286001 x292000 x292001 x293000 x293001) else (some (x10, 0))
def pianolaref03_Bridge.l2 : Nat → Int → List (S52) → Int → Int → Int → Int → Int → Int → Int → Int → Int → Option ((List (S52)) × Int)
  | 0, _, _, _, _, _, _, _, _, _, _, _ => none
  | k + 1, x9, x10, x11, x12, x13, x286000, x286001, x292000, x292001, x293000, x293001 => (pianolaref03_can.f x292000 x292001 x293000 x293001 (wrap64 ((wrap64 (x286001 - x11)) - x13)) (wrap64 ((wrap64 (x9 - 1)) - x12)) (wrap64 ((wrap64 (x9 - 1)) - x12))).bind fun t295 => (if t295 = true then (if x10.length < 8796093022208 then ((some (x10 ++ [(⟨x11, wrap64 (x11 + x13)⟩ : S52)] : List (S52))).bind fun y296 => (if x12 = (wrap64 (x9 - 1)) then (some (y296, 0)) else (pianolaref03_Bridge.l3 k x9 y296 (wrap64 (x11 + x13)) x12 x293001 x286000 x286001 x292000 x292001 x293000 x293001))) else (none)) else (pianolaref03_Bridge.l2 k x9 x10 x11 x12 (wrap64 (x13 - 1)) x286000 x286001 x292000 x292001 x293000 x293001))
def pianolaref03_Bridge.l3 : Nat → Int → List (S52) → Int → Int → Int → Int → Int → Int → Int → Int → Int → Option ((List (S52)) × Int)
  | 0, _, _, _, _, _, _, _, _, _, _, _ => none
  | k + 1, x9, x10, x11, x12, x14, x286000, x286001, x292000, x292001, x293000, x293001 => (pianolaref03_can.f x292000 x292001 x293000 x293001 (wrap64 ((wrap64 (x286001 - x11)) - x14)) (wrap64 ((wrap64 (x9 - 1)) - x12)) (wrap64 ((wrap64 (x9 - 2)) - x12))).bind fun t299 => (if t299 = true then (pianolaref03_Bridge.l1 k x9 x10 (wrap64 (x11 + x14)) (wrap64 (x12 + 1)) x286000 x286001 x292000 x292001 x293000 x293001) else (pianolaref03_Bridge.l3 k x9 x10 x11 x12 (wrap64 (x14 - 1)) x286000 x286001 x292000 x292001 x293000 x293001))
end
def pianolaref03_Bridge.f (k : Nat) (a0_0 : Int) (a0_1 : Int) (a0_2 : Int) (a0_3 : Int) (a0_4 : Int) (a1_0 : Int) (a1_1 : Int) : Option ((List (S52)) × Int) := (pianolaref03_Bars.f k a0_0 a0_1 a0_2 a0_3 a0_4).bind fun bt286 => (if bt286.2.2.2.2 = 0 then ((pianolaref03_slot.f a1_0 a1_1).bind fun t293 => (if t293 = true then (pianolaref03_Bridge.j0 k (decide ((wrap64 (a1_1 - a1_0)) > 10000)) a1_0 a1_1 bt286.1 bt286.2.1 bt286.2.2.1 bt286.2.2.2.1) else (pianolaref03_Bridge.j0 k true a1_0 a1_1 bt286.1 bt286.2.1 bt286.2.2.1 bt286.2.2.2.1))) else (some (([] : List (S52)), bt286.2.2.2.2)))
set_option maxHeartbeats 8000000 in
set_option maxRecDepth 100000 in
theorem pianolaref03_Bridge.calls (k : Nat) (a0_0 : Int) (a0_1 : Int) (a0_2 : Int) (a0_3 : Int) (a0_4 : Int) (a1_0 : Int) (a1_1 : Int) (r1 : List (S52)) (r2 : Int) (w : World) (h : pianolaref03_Bridge.f k a0_0 a0_1 a0_2 a0_3 a0_4 a1_0 a1_1 = some (r1, r2)) :
  Calls Try.prog 33 #[.agg #[.int .i64 a0_0, .int .i64 a0_1, .int .i64 a0_2, .int .i64 a0_3, .int .i64 a0_4], .agg #[.int .i64 a1_0, .int .i64 a1_1]] w fun e w' => ∃ v0_ : Value, e = .returned (.tuple #[v0_, .int .i64 r2]) ∧ Kd.R k52 52 w' w.heap.size (fun _ => True) v0_ r1 ∧ Below w.heap.size w w' := by
 have hu58 := Try.underlying58
 have hu52 := Try.underlying52
 have hu55 := Try.underlying55
 have HB := zA (Below.refl w.heap.size w)
 have H : ((pianolaref03_Bars.f k a0_0 a0_1 a0_2 a0_3 a0_4).bind fun bt286 => (if bt286.2.2.2.2 = 0 then ((pianolaref03_slot.f a1_0 a1_1).bind fun t293 => (if t293 = true then (pianolaref03_Bridge.j0 k (decide ((wrap64 (a1_1 - a1_0)) > 10000)) a1_0 a1_1 bt286.1 bt286.2.1 bt286.2.2.1 bt286.2.2.2.1) else (pianolaref03_Bridge.j0 k true a1_0 a1_1 bt286.1 bt286.2.1 bt286.2.2.1 bt286.2.2.2.1))) else (some (([] : List (S52)), bt286.2.2.2.2)))) = some (r1, r2) := h
 clear h
 replace H := Option.bind_eq_some_iff.mp H
 obtain ⟨⟨t286, t287, t288, t289, t290⟩, A30, H⟩ := H
 replace H : (if t290 = 0 then ((pianolaref03_slot.f a1_0 a1_1).bind fun t293 => (if t293 = true then (pianolaref03_Bridge.j0 k (decide ((wrap64 (a1_1 - a1_0)) > 10000)) a1_0 a1_1 t286 t287 t288 t289) else (pianolaref03_Bridge.j0 k true a1_0 a1_1 t286 t287 t288 t289))) else (some (([] : List (S52)), t290))) = some (r1, r2) := H
 have A3 := zA A30
 clear A30
 by_cases c4 : t290 = 0
 ·
  rw [if_pos c4] at H
  have c4b0 : (t290 == 0) = true := beq_iff_eq.mpr c4
  have c4b1 : (t290 != 0) = false := bne_eq_false_iff_eq.mpr c4
  clear c4
  have HC5 := zA H
  clear H
  go_enter Try.func33, Try.ntmps33
  go_upto_region 4 with (first | ((with_reducible refine gate_dst (N := 2) rfl ?_); refine box_event ?hg (N := 2) ?hd (cs := #[.int .i64 a0_0, .int .i64 a0_1, .int .i64 a0_2, .int .i64 a0_3, .int .i64 a0_4]) (t := 58) ?hr ?_; (case hd => rfl); (case hg => rfl); (case hr => first | (go_simp; done) | (go_simp; rfl)); intro gb284 hg w6 hbox hb; have n0_ := zA (below_step (zqA HB.out) hb); have n1_ := zA (hbox); have n2_ := zA ((by rw [hg]; exact (below_size (zqA HB.out)) : w.heap.size ≤ gb284)); have n3_ := zA ((by rw [hg]; exact (below_size (zqA HB.out)) : w.heap.size ≤ gb284)); clear HB; have HB := n0_; have BK284 := n1_; have GW284 := n2_; have GE284 := n3_; clear n0_ n1_ n2_ n3_; clear hb hbox hg) | ((with_reducible refine gate_dst (N := 3) rfl ?_); refine box_event ?hg (N := 3) ?hd (cs := #[.int .i64 a1_0, .int .i64 a1_1]) (t := 52) ?hr ?_; (case hd => rfl); (case hg => rfl); (case hr => first | (go_simp; done) | (go_simp; rfl)); intro gb285 hg w7 hbox hb; have n0_ := zA (blk_below (g := gb284) (o := .cells #[.int .i64 a0_0, .int .i64 a0_1, .int .i64 a0_2, .int .i64 a0_3, .int .i64 a0_4] 58 (0, 0)) (zqB BK284.out) hb); have n1_ := zA (below_step (zqG HB.out GE284.out) hb); have n2_ := zA (hbox); have n3_ := zA ((by rw [hg]; exact (below_size (zqG HB.out GE284.out)) : w.heap.size ≤ gb285)); have n4_ := zA ((by rw [hg]; exact (below_size (zqG HB.out GE284.out)) : w.heap.size ≤ gb285)); have n5_ := zA ((by rw [hg]; exact Nat.ne_of_lt (blk_lt (g := gb284) (o := .cells #[.int .i64 a0_0, .int .i64 a0_1, .int .i64 a0_2, .int .i64 a0_3, .int .i64 a0_4] 58 (0, 0)) (zqB BK284.out)) : gb284 ≠ gb285)); have n6_ := zA ((by rw [hg]; exact Nat.ne_of_gt (blk_lt (g := gb284) (o := .cells #[.int .i64 a0_0, .int .i64 a0_1, .int .i64 a0_2, .int .i64 a0_3, .int .i64 a0_4] 58 (0, 0)) (zqB BK284.out)) : gb285 ≠ gb284)); clear BK284; clear HB; have BK284 := n0_; have HB := n1_; have BK285 := n2_; have GW285 := n3_; have GE285 := n4_; have NB284_285 := n5_; have NB285_284 := n6_; clear n0_ n1_ n2_ n3_ n4_ n5_ n6_; clear hb hbox hg; have hnb8 := NB284_285.out; have hnc8 := NB285_284.out; have hcz9_0 : w7.cell? ⟨gb284, 0, none⟩ = some (.int .i64 a0_0) := (blk_cell BK284.out 0).trans rfl; have hcz9_1 : w7.cell? ⟨gb284, 1, none⟩ = some (.int .i64 a0_1) := (blk_cell BK284.out 1).trans rfl; have hcz9_2 : w7.cell? ⟨gb284, 2, none⟩ = some (.int .i64 a0_2) := (blk_cell BK284.out 2).trans rfl; have hcz9_3 : w7.cell? ⟨gb284, 3, none⟩ = some (.int .i64 a0_3) := (blk_cell BK284.out 3).trans rfl; have hcz9_4 : w7.cell? ⟨gb284, 4, none⟩ = some (.int .i64 a0_4) := (blk_cell BK284.out 4).trans rfl; have hfz9_0 := blk_frozen BK284.out 0; have hfz9_1 := blk_frozen BK284.out 1; have hfz9_2 := blk_frozen BK284.out 2; have hfz9_3 := blk_frozen BK284.out 3; have hfz9_4 := blk_frozen BK284.out 4) | ((with_reducible refine gate_callee (f := 31) rfl ?_); refine goesL_ (some 17) rfl rfl Try.func31 (by kernel_rfl) rfl #[.agg #[.int .i64 a0_0, .int .i64 a0_1, .int .i64 a0_2, .int .i64 a0_3, .int .i64 a0_4]] rfl zqE ?_; (with_reducible refine (pianolaref03_Bars.calls k a0_0 a0_1 a0_2 a0_3 a0_4 t286 t287 t288 t289 t290 _ A3.out).mono ?_); rintro e w10 ⟨rfl, hb⟩; refine ⟨_, rfl, ?_⟩; have n0_ := zA (blk_below (g := gb284) (o := .cells #[.int .i64 a0_0, .int .i64 a0_1, .int .i64 a0_2, .int .i64 a0_3, .int .i64 a0_4] 58 (0, 0)) (zqB BK284.out) hb); have n1_ := zA (blk_below (g := gb285) (o := .cells #[.int .i64 a1_0, .int .i64 a1_1] 52 (0, 0)) (zqB BK285.out) hb); have n2_ := zA (below_step (zqH HB.out GE284.out GE285.out) hb); clear BK284; clear BK285; clear HB; have BK284 := n0_; have BK285 := n1_; have HB := n2_; clear n0_ n1_ n2_; (try clear hb); (try clear hb2); (try clear hk); (try clear hi)) | ((with_reducible refine gate_dst (N := 6) rfl ?_); refine box_event ?hg (N := 6) ?hd (cs := #[.int .i64 0, .int .i64 0]) (t := 55) ?hr ?_; (case hd => rfl); (case hg => rfl); (case hr => first | (go_simp; done) | (go_simp; rfl)); intro gb291 hg w11 hbox hb; have n0_ := zA (blk_below (g := gb284) (o := .cells #[.int .i64 a0_0, .int .i64 a0_1, .int .i64 a0_2, .int .i64 a0_3, .int .i64 a0_4] 58 (0, 0)) (zqB BK284.out) hb); have n1_ := zA (blk_below (g := gb285) (o := .cells #[.int .i64 a1_0, .int .i64 a1_1] 52 (0, 0)) (zqB BK285.out) hb); have n2_ := zA (below_step (zqH HB.out GE284.out GE285.out) hb); have n3_ := zA (hbox); have n4_ := zA ((by rw [hg]; exact (below_size (zqH HB.out GE284.out GE285.out)) : w.heap.size ≤ gb291)); have n5_ := zA ((by rw [hg]; exact (below_size (zqH HB.out GE284.out GE285.out)) : w.heap.size ≤ gb291)); have n6_ := zA ((by rw [hg]; exact Nat.ne_of_lt (blk_lt (g := gb284) (o := .cells #[.int .i64 a0_0, .int .i64 a0_1, .int .i64 a0_2, .int .i64 a0_3, .int .i64 a0_4] 58 (0, 0)) (zqB BK284.out)) : gb284 ≠ gb291)); have n7_ := zA ((by rw [hg]; exact Nat.ne_of_gt (blk_lt (g := gb284) (o := .cells #[.int .i64 a0_0, .int .i64 a0_1, .int .i64 a0_2, .int .i64 a0_3, .int .i64 a0_4] 58 (0, 0)) (zqB BK284.out)) : gb291 ≠ gb284)); have n8_ := zA ((by rw [hg]; exact Nat.ne_of_lt (blk_lt (g := gb285) (o := .cells #[.int .i64 a1_0, .int .i64 a1_1] 52 (0, 0)) (zqB BK285.out)) : gb285 ≠ gb291)); have n9_ := zA ((by rw [hg]; exact Nat.ne_of_gt (blk_lt (g := gb285) (o := .cells #[.int .i64 a1_0, .int .i64 a1_1] 52 (0, 0)) (zqB BK285.out)) : gb291 ≠ gb285)); clear BK284; clear BK285; clear HB; have BK284 := n0_; have BK285 := n1_; have HB := n2_; have BK291 := n3_; have GW291 := n4_; have GE291 := n5_; have NB284_291 := n6_; have NB291_284 := n7_; have NB285_291 := n8_; have NB291_285 := n9_; clear n0_ n1_ n2_ n3_ n4_ n5_ n6_ n7_ n8_ n9_; clear hb hbox hg) | ((with_reducible refine gate_dst (N := 7) rfl ?_); refine box_event ?hg (N := 7) ?hd (cs := #[.int .i64 0, .int .i64 0]) (t := 55) ?hr ?_; (case hd => rfl); (case hg => rfl); (case hr => first | (go_simp; done) | (go_simp; rfl)); intro gb292 hg w12 hbox hb; have n0_ := zA (blk_below (g := gb284) (o := .cells #[.int .i64 a0_0, .int .i64 a0_1, .int .i64 a0_2, .int .i64 a0_3, .int .i64 a0_4] 58 (0, 0)) (zqB BK284.out) hb); have n1_ := zA (blk_below (g := gb285) (o := .cells #[.int .i64 a1_0, .int .i64 a1_1] 52 (0, 0)) (zqB BK285.out) hb); have n2_ := zA (blk_below (g := gb291) (o := .cells #[.int .i64 0, .int .i64 0] 55 (0, 0)) (zqB BK291.out) hb); have n3_ := zA (below_step (zqI HB.out GE284.out GE285.out GE291.out) hb); have n4_ := zA (hbox); have n5_ := zA ((by rw [hg]; exact (below_size (zqI HB.out GE284.out GE285.out GE291.out)) : w.heap.size ≤ gb292)); have n6_ := zA ((by rw [hg]; exact (below_size (zqI HB.out GE284.out GE285.out GE291.out)) : w.heap.size ≤ gb292)); have n7_ := zA ((by rw [hg]; exact Nat.ne_of_lt (blk_lt (g := gb284) (o := .cells #[.int .i64 a0_0, .int .i64 a0_1, .int .i64 a0_2, .int .i64 a0_3, .int .i64 a0_4] 58 (0, 0)) (zqB BK284.out)) : gb284 ≠ gb292)); have n8_ := zA ((by rw [hg]; exact Nat.ne_of_gt (blk_lt (g := gb284) (o := .cells #[.int .i64 a0_0, .int .i64 a0_1, .int .i64 a0_2, .int .i64 a0_3, .int .i64 a0_4] 58 (0, 0)) (zqB BK284.out)) : gb292 ≠ gb284)); have n9_ := zA ((by rw [hg]; exact Nat.ne_of_lt (blk_lt (g := gb285) (o := .cells #[.int .i64 a1_0, .int .i64 a1_1] 52 (0, 0)) (zqB BK285.out)) : gb285 ≠ gb292)); have n10_ := zA ((by rw [hg]; exact Nat.ne_of_gt (blk_lt (g := gb285) (o := .cells #[.int .i64 a1_0, .int .i64 a1_1] 52 (0, 0)) (zqB BK285.out)) : gb292 ≠ gb285)); have n11_ := zA ((by rw [hg]; exact Nat.ne_of_lt (blk_lt (g := gb291) (o := .cells #[.int .i64 0, .int .i64 0] 55 (0, 0)) (zqB BK291.out)) : gb291 ≠ gb292)); have n12_ := zA ((by rw [hg]; exact Nat.ne_of_gt (blk_lt (g := gb291) (o := .cells #[.int .i64 0, .int .i64 0] 55 (0, 0)) (zqB BK291.out)) : gb292 ≠ gb291)); clear BK284; clear BK285; clear BK291; clear HB; have BK284 := n0_; have BK285 := n1_; have BK291 := n2_; have HB := n3_; have BK292 := n4_; have GW292 := n5_; have GE292 := n6_; have NB284_292 := n7_; have NB292_284 := n8_; have NB285_292 := n9_; have NB292_285 := n10_; have NB291_292 := n11_; have NB292_291 := n12_; clear n0_ n1_ n2_ n3_ n4_ n5_ n6_ n7_ n8_ n9_ n10_ n11_ n12_; clear hb hbox hg; have hnb13 := NB291_284.out; have hnc13 := NB284_291.out; have hnb14 := NB291_285.out; have hnc14 := NB285_291.out; have hnb15 := NB291_292.out; have hnc15 := NB292_291.out; have hcz16_0 : w12.cell? ⟨gb291, 0, none⟩ = some (.int .i64 0) := (blk_cell BK291.out 0).trans rfl; have hcz16_1 : w12.cell? ⟨gb291, 1, none⟩ = some (.int .i64 0) := (blk_cell BK291.out 1).trans rfl; have hfz16_0 := blk_frozen BK291.out 0; have hfz16_1 := blk_frozen BK291.out 1; have hnb17 := NB292_284.out; have hnc17 := NB284_292.out; have hnb18 := NB292_285.out; have hnc18 := NB285_292.out; have hcz19_0 : w12.cell? ⟨gb292, 0, none⟩ = some (.int .i64 0) := (blk_cell BK292.out 0).trans rfl; have hcz19_1 : w12.cell? ⟨gb292, 1, none⟩ = some (.int .i64 0) := (blk_cell BK292.out 1).trans rfl; have hfz19_0 := blk_frozen BK292.out 0; have hfz19_1 := blk_frozen BK292.out 1))
  (try simp only [Act.put, List.setIfInBounds_toArray, List.set_cons_zero, List.set_cons_succ])
  go_cut [34] (fun v34 wc => ∃ (kq : Nat) (x34_4 : Bool), v34 = .bool x34_4 ∧ Aside0 (pianolaref03_Bridge.j0 kq x34_4 a1_0 a1_1 t286 t287 t288 t289 = some (r1, r2)) ∧ Aside0 (kq ≤ k) ∧ Aside0 (wc.heap[gb284]? = some (.cells #[.int .i64 a0_0, .int .i64 a0_1, .int .i64 a0_2, .int .i64 a0_3, .int .i64 a0_4] 58 (0, 0))) ∧ Aside0 (wc.heap[gb285]? = some (.cells #[.int .i64 a1_0, .int .i64 a1_1] 52 (0, 0))) ∧ Aside0 (wc.heap[gb291]? = some (.cells #[.int .i64 t286, .int .i64 t287] 55 (0, 0))) ∧ Aside0 (wc.heap[gb292]? = some (.cells #[.int .i64 t288, .int .i64 t289] 55 (0, 0))) ∧ Aside0 (Below w.heap.size w wc))
  case first =>
   have H := HC5.out
   clear HC5
   replace H := Option.bind_eq_some_iff.mp H
   obtain ⟨t293, A200, H⟩ := H
   replace H : (if t293 = true then (pianolaref03_Bridge.j0 k (decide ((wrap64 (a1_1 - a1_0)) > 10000)) a1_0 a1_1 t286 t287 t288 t289) else (pianolaref03_Bridge.j0 k true a1_0 a1_1 t286 t287 t288 t289)) = some (r1, r2) := H
   have A20 := zA A200
   clear A200
   by_cases c21 : t293 = true
   ·
    subst c21
    have H1 : (pianolaref03_Bridge.j0 k (decide ((wrap64 (a1_1 - a1_0)) > 10000)) a1_0 a1_1 t286 t287 t288 t289) = some (r1, r2) := by rw [if_pos rfl] at H; exact H
    clear H; have H := H1; clear H1
    have H' := zA H
    clear H
    have hnb22 := NB285_284.out
    have hnc22 := NB284_285.out
    have hnb23 := NB285_291.out
    have hnc23 := NB291_285.out
    have hnb24 := NB285_292.out
    have hnc24 := NB292_285.out
    have hcz25_0 : w12.cell? ⟨gb285, 0, none⟩ = some (.int .i64 a1_0) := (blk_cell BK285.out 0).trans rfl
    have hcz25_1 : w12.cell? ⟨gb285, 1, none⟩ = some (.int .i64 a1_1) := (blk_cell BK285.out 1).trans rfl
    have hfz25_0 := blk_frozen BK285.out 0
    have hfz25_1 := blk_frozen BK285.out 1
    go_wp2_with (first | ((with_reducible refine gate_callee (f := 56) rfl ?_); refine goesL_ (some 25) rfl rfl Try.func56 (by kernel_rfl) rfl #[.agg #[.int .i64 a1_0, .int .i64 a1_1]] rfl zqE ?_; (with_reducible refine (pianolaref03_slot.calls a1_0 a1_1 true _ A20.out).mono ?_); rintro e w26 ⟨rfl, hb⟩; refine ⟨_, rfl, ?_⟩; have n0_ := zA (blk_below (g := gb284) (o := .cells #[.int .i64 a0_0, .int .i64 a0_1, .int .i64 a0_2, .int .i64 a0_3, .int .i64 a0_4] 58 (0, 0)) (by (with_reducible repeat (first | refine blk_drewN ?_ _ | refine blk_drew ?_ | refine blk_alloc ?_ _)); refine blk_far ?_ NB284_292.out _; (with_reducible repeat (first | refine blk_drewN ?_ _ | refine blk_drew ?_ | refine blk_alloc ?_ _)); refine blk_far ?_ NB284_292.out _; (with_reducible repeat (first | refine blk_drewN ?_ _ | refine blk_drew ?_ | refine blk_alloc ?_ _)); refine blk_far ?_ NB284_291.out _; (with_reducible repeat (first | refine blk_drewN ?_ _ | refine blk_drew ?_ | refine blk_alloc ?_ _)); refine blk_far ?_ NB284_291.out _; (with_reducible repeat (first | refine blk_drewN ?_ _ | refine blk_drew ?_ | refine blk_alloc ?_ _)); exact BK284.out) hb); have n1_ := zA (blk_below (g := gb285) (o := .cells #[.int .i64 a1_0, .int .i64 a1_1] 52 (0, 0)) (by (with_reducible repeat (first | refine blk_drewN ?_ _ | refine blk_drew ?_ | refine blk_alloc ?_ _)); refine blk_far ?_ NB285_292.out _; (with_reducible repeat (first | refine blk_drewN ?_ _ | refine blk_drew ?_ | refine blk_alloc ?_ _)); refine blk_far ?_ NB285_292.out _; (with_reducible repeat (first | refine blk_drewN ?_ _ | refine blk_drew ?_ | refine blk_alloc ?_ _)); refine blk_far ?_ NB285_291.out _; (with_reducible repeat (first | refine blk_drewN ?_ _ | refine blk_drew ?_ | refine blk_alloc ?_ _)); refine blk_far ?_ NB285_291.out _; (with_reducible repeat (first | refine blk_drewN ?_ _ | refine blk_drew ?_ | refine blk_alloc ?_ _)); exact BK285.out) hb); have n2_ := zA (blk_below (g := gb291) (o := .cells #[.int .i64 t286, .int .i64 t287] 55 (0, 0)) (by (with_reducible repeat (first | refine blk_drewN ?_ _ | refine blk_drew ?_ | refine blk_alloc ?_ _)); refine blk_far ?_ NB291_292.out _; (with_reducible repeat (first | refine blk_drewN ?_ _ | refine blk_drew ?_ | refine blk_alloc ?_ _)); refine blk_far ?_ NB291_292.out _; (with_reducible repeat (first | refine blk_drewN ?_ _ | refine blk_drew ?_ | refine blk_alloc ?_ _)); refine blk_put (cs := #[.int .i64 t286, .int .i64 0]) ?_ 1 _ rfl; (with_reducible repeat (first | refine blk_drewN ?_ _ | refine blk_drew ?_ | refine blk_alloc ?_ _)); refine blk_put (cs := #[.int .i64 0, .int .i64 0]) ?_ 0 _ rfl; (with_reducible repeat (first | refine blk_drewN ?_ _ | refine blk_drew ?_ | refine blk_alloc ?_ _)); exact BK291.out) hb); have n3_ := zA (blk_below (g := gb292) (o := .cells #[.int .i64 t288, .int .i64 t289] 55 (0, 0)) (by (with_reducible repeat (first | refine blk_drewN ?_ _ | refine blk_drew ?_ | refine blk_alloc ?_ _)); refine blk_put (cs := #[.int .i64 t288, .int .i64 0]) ?_ 1 _ rfl; (with_reducible repeat (first | refine blk_drewN ?_ _ | refine blk_drew ?_ | refine blk_alloc ?_ _)); refine blk_put (cs := #[.int .i64 0, .int .i64 0]) ?_ 0 _ rfl; (with_reducible repeat (first | refine blk_drewN ?_ _ | refine blk_drew ?_ | refine blk_alloc ?_ _)); refine blk_far ?_ NB292_291.out _; (with_reducible repeat (first | refine blk_drewN ?_ _ | refine blk_drew ?_ | refine blk_alloc ?_ _)); refine blk_far ?_ NB292_291.out _; (with_reducible repeat (first | refine blk_drewN ?_ _ | refine blk_drew ?_ | refine blk_alloc ?_ _)); exact BK292.out) hb); have n4_ := zA (below_step (zqJ HB.out GE284.out GE285.out GE291.out GE292.out) hb); clear BK284; clear BK285; clear BK291; clear BK292; clear HB; have BK284 := n0_; have BK285 := n1_; have BK291 := n2_; have BK292 := n3_; have HB := n4_; clear n0_ n1_ n2_ n3_ n4_; (try clear hb); (try clear hb2); (try clear hk); (try clear hi); have hcz27_0 : w26.cell? ⟨gb285, 0, none⟩ = some (.int .i64 a1_0) := (blk_cell BK285.out 0).trans rfl; have hcz27_1 : w26.cell? ⟨gb285, 1, none⟩ = some (.int .i64 a1_1) := (blk_cell BK285.out 1).trans rfl; have hfz27_0 := blk_frozen BK285.out 0; have hfz27_1 := blk_frozen BK285.out 1))
    go_meet
    case rel => exact ⟨_, (decide ((wrap64 (a1_1 - a1_0)) > 10000)), zqQ, H', ⟨by first | omega | exact Nat.le_refl _⟩, ⟨zqB BK284.out⟩, ⟨zqB BK285.out⟩, ⟨zqB BK291.out⟩, ⟨zqB BK292.out⟩, ⟨zqJ HB.out GE284.out GE285.out GE291.out GE292.out⟩⟩
   ·
    replace c21 := Bool.eq_false_iff.mpr c21
    subst c21
    have H1 : (pianolaref03_Bridge.j0 k true a1_0 a1_1 t286 t287 t288 t289) = some (r1, r2) := by rw [if_neg (show ¬ (false = true) by decide)] at H; exact H
    clear H; have H := H1; clear H1
    have H' := zA H
    clear H
    have hnb28 := NB285_284.out
    have hnc28 := NB284_285.out
    have hnb29 := NB285_291.out
    have hnc29 := NB291_285.out
    have hnb30 := NB285_292.out
    have hnc30 := NB292_285.out
    have hcz31_0 : w12.cell? ⟨gb285, 0, none⟩ = some (.int .i64 a1_0) := (blk_cell BK285.out 0).trans rfl
    have hcz31_1 : w12.cell? ⟨gb285, 1, none⟩ = some (.int .i64 a1_1) := (blk_cell BK285.out 1).trans rfl
    have hfz31_0 := blk_frozen BK285.out 0
    have hfz31_1 := blk_frozen BK285.out 1
    go_wp2_with (first | ((with_reducible refine gate_callee (f := 56) rfl ?_); refine goesL_ (some 25) rfl rfl Try.func56 (by kernel_rfl) rfl #[.agg #[.int .i64 a1_0, .int .i64 a1_1]] rfl zqE ?_; (with_reducible refine (pianolaref03_slot.calls a1_0 a1_1 false _ A20.out).mono ?_); rintro e w32 ⟨rfl, hb⟩; refine ⟨_, rfl, ?_⟩; have n0_ := zA (blk_below (g := gb284) (o := .cells #[.int .i64 a0_0, .int .i64 a0_1, .int .i64 a0_2, .int .i64 a0_3, .int .i64 a0_4] 58 (0, 0)) (by (with_reducible repeat (first | refine blk_drewN ?_ _ | refine blk_drew ?_ | refine blk_alloc ?_ _)); refine blk_far ?_ NB284_292.out _; (with_reducible repeat (first | refine blk_drewN ?_ _ | refine blk_drew ?_ | refine blk_alloc ?_ _)); refine blk_far ?_ NB284_292.out _; (with_reducible repeat (first | refine blk_drewN ?_ _ | refine blk_drew ?_ | refine blk_alloc ?_ _)); refine blk_far ?_ NB284_291.out _; (with_reducible repeat (first | refine blk_drewN ?_ _ | refine blk_drew ?_ | refine blk_alloc ?_ _)); refine blk_far ?_ NB284_291.out _; (with_reducible repeat (first | refine blk_drewN ?_ _ | refine blk_drew ?_ | refine blk_alloc ?_ _)); exact BK284.out) hb); have n1_ := zA (blk_below (g := gb285) (o := .cells #[.int .i64 a1_0, .int .i64 a1_1] 52 (0, 0)) (by (with_reducible repeat (first | refine blk_drewN ?_ _ | refine blk_drew ?_ | refine blk_alloc ?_ _)); refine blk_far ?_ NB285_292.out _; (with_reducible repeat (first | refine blk_drewN ?_ _ | refine blk_drew ?_ | refine blk_alloc ?_ _)); refine blk_far ?_ NB285_292.out _; (with_reducible repeat (first | refine blk_drewN ?_ _ | refine blk_drew ?_ | refine blk_alloc ?_ _)); refine blk_far ?_ NB285_291.out _; (with_reducible repeat (first | refine blk_drewN ?_ _ | refine blk_drew ?_ | refine blk_alloc ?_ _)); refine blk_far ?_ NB285_291.out _; (with_reducible repeat (first | refine blk_drewN ?_ _ | refine blk_drew ?_ | refine blk_alloc ?_ _)); exact BK285.out) hb); have n2_ := zA (blk_below (g := gb291) (o := .cells #[.int .i64 t286, .int .i64 t287] 55 (0, 0)) (by (with_reducible repeat (first | refine blk_drewN ?_ _ | refine blk_drew ?_ | refine blk_alloc ?_ _)); refine blk_far ?_ NB291_292.out _; (with_reducible repeat (first | refine blk_drewN ?_ _ | refine blk_drew ?_ | refine blk_alloc ?_ _)); refine blk_far ?_ NB291_292.out _; (with_reducible repeat (first | refine blk_drewN ?_ _ | refine blk_drew ?_ | refine blk_alloc ?_ _)); refine blk_put (cs := #[.int .i64 t286, .int .i64 0]) ?_ 1 _ rfl; (with_reducible repeat (first | refine blk_drewN ?_ _ | refine blk_drew ?_ | refine blk_alloc ?_ _)); refine blk_put (cs := #[.int .i64 0, .int .i64 0]) ?_ 0 _ rfl; (with_reducible repeat (first | refine blk_drewN ?_ _ | refine blk_drew ?_ | refine blk_alloc ?_ _)); exact BK291.out) hb); have n3_ := zA (blk_below (g := gb292) (o := .cells #[.int .i64 t288, .int .i64 t289] 55 (0, 0)) (by (with_reducible repeat (first | refine blk_drewN ?_ _ | refine blk_drew ?_ | refine blk_alloc ?_ _)); refine blk_put (cs := #[.int .i64 t288, .int .i64 0]) ?_ 1 _ rfl; (with_reducible repeat (first | refine blk_drewN ?_ _ | refine blk_drew ?_ | refine blk_alloc ?_ _)); refine blk_put (cs := #[.int .i64 0, .int .i64 0]) ?_ 0 _ rfl; (with_reducible repeat (first | refine blk_drewN ?_ _ | refine blk_drew ?_ | refine blk_alloc ?_ _)); refine blk_far ?_ NB292_291.out _; (with_reducible repeat (first | refine blk_drewN ?_ _ | refine blk_drew ?_ | refine blk_alloc ?_ _)); refine blk_far ?_ NB292_291.out _; (with_reducible repeat (first | refine blk_drewN ?_ _ | refine blk_drew ?_ | refine blk_alloc ?_ _)); exact BK292.out) hb); have n4_ := zA (below_step (zqJ HB.out GE284.out GE285.out GE291.out GE292.out) hb); clear BK284; clear BK285; clear BK291; clear BK292; clear HB; have BK284 := n0_; have BK285 := n1_; have BK291 := n2_; have BK292 := n3_; have HB := n4_; clear n0_ n1_ n2_ n3_ n4_; (try clear hb); (try clear hb2); (try clear hk); (try clear hi)))
    go_meet
    case rel => exact ⟨_, (true), zqQ, H', ⟨by first | omega | exact Nat.le_refl _⟩, ⟨zqB BK284.out⟩, ⟨zqB BK285.out⟩, ⟨zqB BK291.out⟩, ⟨zqB BK292.out⟩, ⟨zqJ HB.out GE284.out GE285.out GE291.out GE292.out⟩⟩
  case rest =>
   clear HC5
   try clear c1
   try clear c2
   try clear p2
   try clear c3
   try clear c4
   try clear c4b0
   try clear c4b1
   try clear c5
   try clear p6
   try clear c8
   try clear c13
   try clear c14
   try clear c15
   try clear c17
   try clear c18
   try clear c21
   try clear c22
   try clear c23
   try clear c24
   try clear c28
   try clear c29
   try clear c30
   try clear c31
   try clear hcz16_0
   try clear hcz16_1
   try clear hcz19_0
   try clear hcz19_1
   try clear hcz25_0
   try clear hcz25_1
   try clear hcz27_0
   try clear hcz27_1
   try clear hcz31_0
   try clear hcz31_1
   try clear hcz9_0
   try clear hcz9_1
   try clear hcz9_2
   try clear hcz9_3
   try clear hcz9_4
   try clear hfz16_0
   try clear hfz16_1
   try clear hfz19_0
   try clear hfz19_1
   try clear hfz25_0
   try clear hfz25_1
   try clear hfz27_0
   try clear hfz27_1
   try clear hfz31_0
   try clear hfz31_1
   try clear hfz9_0
   try clear hfz9_1
   try clear hfz9_2
   try clear hfz9_3
   try clear hfz9_4
   obtain ⟨kq, x34_4, rfl, HA, HJ4, BK284, BK285, BK291, BK292, HB⟩ := hcut
   cases kq with
   | zero => exact absurd HA.out (by simp [pianolaref03_Bridge.j0])
   | succ kj4 =>
    have H := HA.out
    clear HA
    simp only [pianolaref03_Bridge.j0] at H
    by_cases c33 : x34_4 = true
    ·
     subst c33
     have H1 : (some (([] : List (S52)), 3)) = some (r1, r2) := by rw [if_pos rfl] at H; exact H
     clear H; have H := H1; clear H1
     simp only [Option.some.injEq, Prod.mk.injEq] at H
     obtain ⟨rfl, rfl⟩ := H
     go_wp2
     go_ret2
     exact ⟨_, zqR, by first | exact Kd.R_nil _ _ _ _ _ | exact Kd.N_nil _ _ _ _ _ | exact Kd.V_nil _ _ _ _ _ | exact Kd.Q_nil _ _ _ _ _ | exact Kd.S_nil _ _ _ _ _, zqJ HB.out GE284.out GE285.out GE291.out GE292.out⟩
    ·
     replace c33 := Bool.eq_false_iff.mpr c33
     subst c33
     have H1 : (pianolaref03_Bridge.l0 kj4 1 a1_0 a1_1 t286 t287 t288 t289) = some (r1, r2) := by rw [if_neg (show ¬ (false = true) by decide)] at H; exact H
     clear H; have H := H1; clear H1
     have H' := zA H
     clear H
     go_wp2
     go_loopg [9] kj4 (fun kq v9 w' => ∃ (x9_2 : Int), v9 = .int .i64 x9_2 ∧ Aside0 (pianolaref03_Bridge.l0 kq x9_2 a1_0 a1_1 t286 t287 t288 t289 = some (r1, r2)) ∧ Aside0 (kq ≤ kj4) ∧ Aside0 (w'.heap[gb284]? = some (.cells #[.int .i64 a0_0, .int .i64 a0_1, .int .i64 a0_2, .int .i64 a0_3, .int .i64 a0_4] 58 (0, 0))) ∧ Aside0 (w'.heap[gb285]? = some (.cells #[.int .i64 a1_0, .int .i64 a1_1] 52 (0, 0))) ∧ Aside0 (w'.heap[gb291]? = some (.cells #[.int .i64 t286, .int .i64 t287] 55 (0, 0))) ∧ Aside0 (w'.heap[gb292]? = some (.cells #[.int .i64 t288, .int .i64 t289] 55 (0, 0))) ∧ Aside0 (Below w.heap.size w w'))
     case atStart => exact ⟨(1), zqQ, H', ⟨Nat.le_refl _⟩, ⟨zqB BK284.out⟩, ⟨zqB BK285.out⟩, ⟨zqB BK291.out⟩, ⟨zqB BK292.out⟩, ⟨zqJ HB.out GE284.out GE285.out GE291.out GE292.out⟩⟩
     case round =>
      clear H'
      try clear c1
      try clear c2
      try clear p2
      try clear c3
      try clear c4
      try clear c4b0
      try clear c4b1
      try clear c5
      try clear p6
      try clear c8
      try clear c13
      try clear c14
      try clear c15
      try clear c17
      try clear c18
      try clear c21
      try clear c22
      try clear c23
      try clear c24
      try clear c28
      try clear c29
      try clear c30
      try clear c31
      try clear c33
      try clear hcz16_0
      try clear hcz16_1
      try clear hcz19_0
      try clear hcz19_1
      try clear hcz25_0
      try clear hcz25_1
      try clear hcz27_0
      try clear hcz27_1
      try clear hcz31_0
      try clear hcz31_1
      try clear hcz9_0
      try clear hcz9_1
      try clear hcz9_2
      try clear hcz9_3
      try clear hcz9_4
      try clear hfz16_0
      try clear hfz16_1
      try clear hfz19_0
      try clear hfz19_1
      try clear hfz25_0
      try clear hfz25_1
      try clear hfz27_0
      try clear hfz27_1
      try clear hfz31_0
      try clear hfz31_1
      try clear hfz9_0
      try clear hfz9_1
      try clear hfz9_2
      try clear hfz9_3
      try clear hfz9_4
      try clear p2
      try clear p6
      obtain ⟨x9_2, rfl, HA, HK2, BK284, BK285, BK291, BK292, HB⟩ := hrel
      cases gk with
      | zero => exact absurd HA.out (by simp [pianolaref03_Bridge.l0])
      | succ k2 =>
       have H := HA.out
       clear HA
       simp only [pianolaref03_Bridge.l0] at H
       replace H := Option.bind_eq_some_iff.mp H
       obtain ⟨t294, A340, H⟩ := H
       replace H : (if t294 = true then (pianolaref03_Bridge.l1 k2 x9_2 ([] : List (S52)) a1_0 0 a1_0 a1_1 t286 t287 t288 t289) else (if (wrap64 (x9_2 + 1)) > 200 then (some (([] : List (S52)), 20)) else (if t289 = 0 then (some (([] : List (S52)), 20)) else (pianolaref03_Bridge.l0 k2 (wrap64 (x9_2 + 1)) a1_0 a1_1 t286 t287 t288 t289)))) = some (r1, r2) := H
       have A34 := zA A340
       clear A340
       by_cases c35 : t294 = true
       ·
        subst c35
        have H1 : (pianolaref03_Bridge.l1 k2 x9_2 ([] : List (S52)) a1_0 0 a1_0 a1_1 t286 t287 t288 t289) = some (r1, r2) := by rw [if_pos rfl] at H; exact H
        clear H; have H := H1; clear H1
        have H' := zA H
        clear H
        have hnb36 := NB291_284.out
        have hnc36 := NB284_291.out
        have hnb37 := NB291_285.out
        have hnc37 := NB285_291.out
        have hnb38 := NB291_292.out
        have hnc38 := NB292_291.out
        have hcz39_0 : wr.cell? ⟨gb291, 0, none⟩ = some (.int .i64 t286) := (blk_cell BK291.out 0).trans rfl
        have hcz39_1 : wr.cell? ⟨gb291, 1, none⟩ = some (.int .i64 t287) := (blk_cell BK291.out 1).trans rfl
        have hfz39_0 := blk_frozen BK291.out 0
        have hfz39_1 := blk_frozen BK291.out 1
        have hnb40 := NB292_284.out
        have hnc40 := NB284_292.out
        have hnb41 := NB292_285.out
        have hnc41 := NB285_292.out
        have hcz42_0 : wr.cell? ⟨gb292, 0, none⟩ = some (.int .i64 t288) := (blk_cell BK292.out 0).trans rfl
        have hcz42_1 : wr.cell? ⟨gb292, 1, none⟩ = some (.int .i64 t289) := (blk_cell BK292.out 1).trans rfl
        have hfz42_0 := blk_frozen BK292.out 0
        have hfz42_1 := blk_frozen BK292.out 1
        have hnb43 := NB285_284.out
        have hnc43 := NB284_285.out
        have hcz44_0 : wr.cell? ⟨gb285, 0, none⟩ = some (.int .i64 a1_0) := (blk_cell BK285.out 0).trans rfl
        have hcz44_1 : wr.cell? ⟨gb285, 1, none⟩ = some (.int .i64 a1_1) := (blk_cell BK285.out 1).trans rfl
        have hfz44_0 := blk_frozen BK285.out 0
        have hfz44_1 := blk_frozen BK285.out 1
        go_wp2_with (first | ((with_reducible refine gate_callee (f := 75) rfl ?_); refine goesL_ (some 45) rfl rfl Try.func75 (by kernel_rfl) rfl #[.agg #[.int .i64 t286, .int .i64 t287], .agg #[.int .i64 t288, .int .i64 t289], .int .i64 (wrap64 (a1_1 - a1_0)), .int .i64 x9_2, .int .i64 (wrap64 (x9_2 - 1))] rfl zqE ?_; (with_reducible refine (pianolaref03_can.calls t286 t287 t288 t289 (wrap64 (a1_1 - a1_0)) x9_2 (wrap64 (x9_2 - 1)) true _ A34.out).mono ?_); rintro e w45 ⟨rfl, hb⟩; refine ⟨_, rfl, ?_⟩; have n0_ := zA (blk_below (g := gb284) (o := .cells #[.int .i64 a0_0, .int .i64 a0_1, .int .i64 a0_2, .int .i64 a0_3, .int .i64 a0_4] 58 (0, 0)) (zqB BK284.out) hb); have n1_ := zA (blk_below (g := gb285) (o := .cells #[.int .i64 a1_0, .int .i64 a1_1] 52 (0, 0)) (zqB BK285.out) hb); have n2_ := zA (blk_below (g := gb291) (o := .cells #[.int .i64 t286, .int .i64 t287] 55 (0, 0)) (zqB BK291.out) hb); have n3_ := zA (blk_below (g := gb292) (o := .cells #[.int .i64 t288, .int .i64 t289] 55 (0, 0)) (zqB BK292.out) hb); have n4_ := zA (below_step (zqJ HB.out GE284.out GE285.out GE291.out GE292.out) hb); clear BK284; clear BK285; clear BK291; clear BK292; clear HB; have BK284 := n0_; have BK285 := n1_; have BK291 := n2_; have BK292 := n3_; have HB := n4_; clear n0_ n1_ n2_ n3_ n4_; (try clear hb); (try clear hb2); (try clear hk); (try clear hi); have hcz46_0 : w45.cell? ⟨gb285, 0, none⟩ = some (.int .i64 a1_0) := (blk_cell BK285.out 0).trans rfl; have hcz46_1 : w45.cell? ⟨gb285, 1, none⟩ = some (.int .i64 a1_1) := (blk_cell BK285.out 1).trans rfl; have hfz46_0 := blk_frozen BK285.out 0; have hfz46_1 := blk_frozen BK285.out 1))
        go_loopg [10, 11, 12] k2 (fun kq v10 v11 v12 w' => ∃ (x10_3 : List (S52)) (x11_3 : Int) (x12_3 : Int), v11 = .int .i64 x11_3 ∧ v12 = .int .i64 x12_3 ∧ Aside0 (pianolaref03_Bridge.l1 kq x9_2 x10_3 x11_3 x12_3 a1_0 a1_1 t286 t287 t288 t289 = some (r1, r2)) ∧ Aside0 (kq ≤ k2) ∧ Aside0 (Kd.R k52 52 w' w.heap.size (fun k_ => k_ ≠ gb285) v10 x10_3) ∧ Aside0 (w'.heap[gb284]? = some (.cells #[.int .i64 a0_0, .int .i64 a0_1, .int .i64 a0_2, .int .i64 a0_3, .int .i64 a0_4] 58 (0, 0))) ∧ Aside0 (w'.heap[gb285]? = some (.cells #[.int .i64 a1_0, .int .i64 a1_1] 52 (0, 0))) ∧ Aside0 (w'.heap[gb291]? = some (.cells #[.int .i64 t286, .int .i64 t287] 55 (0, 0))) ∧ Aside0 (w'.heap[gb292]? = some (.cells #[.int .i64 t288, .int .i64 t289] 55 (0, 0))) ∧ Aside0 (Below w.heap.size w w'))
        case atStart => exact ⟨(([] : List (S52))), (a1_0), (0), zqQ, zqQ, H', ⟨Nat.le_refl _⟩, ⟨by first | exact Kd.R_nil _ _ _ _ _ | exact Kd.N_nil _ _ _ _ _ | exact Kd.V_nil _ _ _ _ _ | exact Kd.Q_nil _ _ _ _ _ | exact Kd.S_nil _ _ _ _ _⟩, ⟨zqB BK284.out⟩, ⟨zqB BK285.out⟩, ⟨zqB BK291.out⟩, ⟨zqB BK292.out⟩, ⟨zqJ HB.out GE284.out GE285.out GE291.out GE292.out⟩⟩
        case round =>
         clear H'
         try clear c1
         try clear c2
         try clear p2
         try clear c3
         try clear c4
         try clear c4b0
         try clear c4b1
         try clear c5
         try clear p6
         try clear c7
         try clear c8
         try clear c13
         try clear c14
         try clear c15
         try clear c17
         try clear c18
         try clear c21
         try clear c22
         try clear c23
         try clear c24
         try clear c28
         try clear c29
         try clear c30
         try clear c31
         try clear c33
         try clear c35
         try clear c36
         try clear c37
         try clear c38
         try clear c40
         try clear c41
         try clear c43
         try clear hcz16_0
         try clear hcz16_1
         try clear hcz19_0
         try clear hcz19_1
         try clear hcz25_0
         try clear hcz25_1
         try clear hcz27_0
         try clear hcz27_1
         try clear hcz31_0
         try clear hcz31_1
         try clear hcz39_0
         try clear hcz39_1
         try clear hcz42_0
         try clear hcz42_1
         try clear hcz44_0
         try clear hcz44_1
         try clear hcz46_0
         try clear hcz46_1
         try clear hcz9_0
         try clear hcz9_1
         try clear hcz9_2
         try clear hcz9_3
         try clear hcz9_4
         try clear hfz16_0
         try clear hfz16_1
         try clear hfz19_0
         try clear hfz19_1
         try clear hfz25_0
         try clear hfz25_1
         try clear hfz27_0
         try clear hfz27_1
         try clear hfz31_0
         try clear hfz31_1
         try clear hfz39_0
         try clear hfz39_1
         try clear hfz42_0
         try clear hfz42_1
         try clear hfz44_0
         try clear hfz44_1
         try clear hfz46_0
         try clear hfz46_1
         try clear hfz9_0
         try clear hfz9_1
         try clear hfz9_2
         try clear hfz9_3
         try clear hfz9_4
         try clear p2
         try clear p6
         obtain ⟨x10_3, x11_3, x12_3, rfl, rfl, HA, HK3, HO_10, BK284, BK285, BK291, BK292, HB⟩ := hrel
         cases gk with
         | zero => exact absurd HA.out (by simp [pianolaref03_Bridge.l1])
         | succ k3 =>
          have H := HA.out
          clear HA
          simp only [pianolaref03_Bridge.l1] at H
          by_cases c47 : x12_3 < x9_2
          ·
           rw [if_pos c47] at H
           have c47b0 : decide (x12_3 < x9_2) = true := decide_eq_true c47
           clear c47
           have H' := zA H
           clear H
           have hnb48 := NB291_284.out
           have hnc48 := NB284_291.out
           have hnb49 := NB291_285.out
           have hnc49 := NB285_291.out
           have hnb50 := NB291_292.out
           have hnc50 := NB292_291.out
           have hcz51_0 : wr.cell? ⟨gb291, 0, none⟩ = some (.int .i64 t286) := (blk_cell BK291.out 0).trans rfl
           have hcz51_1 : wr.cell? ⟨gb291, 1, none⟩ = some (.int .i64 t287) := (blk_cell BK291.out 1).trans rfl
           have hfz51_0 := blk_frozen BK291.out 0
           have hfz51_1 := blk_frozen BK291.out 1
           go_wp2
           go_loopg [13] k3 (fun kq v13 w' => ∃ (x13_4 : Int), v13 = .int .i64 x13_4 ∧ Aside0 (pianolaref03_Bridge.l2 kq x9_2 x10_3 x11_3 x12_3 x13_4 a1_0 a1_1 t286 t287 t288 t289 = some (r1, r2)) ∧ Aside0 (kq ≤ k3) ∧ Aside0 (Kd.R k52 52 w' w.heap.size (fun k_ => k_ ≠ gb285) u10 x10_3) ∧ Aside0 (w'.heap[gb284]? = some (.cells #[.int .i64 a0_0, .int .i64 a0_1, .int .i64 a0_2, .int .i64 a0_3, .int .i64 a0_4] 58 (0, 0))) ∧ Aside0 (w'.heap[gb285]? = some (.cells #[.int .i64 a1_0, .int .i64 a1_1] 52 (0, 0))) ∧ Aside0 (w'.heap[gb291]? = some (.cells #[.int .i64 t286, .int .i64 t287] 55 (0, 0))) ∧ Aside0 (w'.heap[gb292]? = some (.cells #[.int .i64 t288, .int .i64 t289] 55 (0, 0))) ∧ Aside0 (Below w.heap.size w w'))
           case atStart => exact ⟨(t287), zqQ, H', ⟨Nat.le_refl _⟩, ⟨zqC HO_10.out⟩, ⟨zqB BK284.out⟩, ⟨zqB BK285.out⟩, ⟨zqB BK291.out⟩, ⟨zqB BK292.out⟩, ⟨zqJ HB.out GE284.out GE285.out GE291.out GE292.out⟩⟩
           case round =>
            clear H'
            try clear c1
            try clear c2
            try clear p2
            try clear c3
            try clear c4
            try clear c4b0
            try clear c4b1
            try clear c5
            try clear p6
            try clear c7
            try clear c8
            try clear c13
            try clear c14
            try clear c15
            try clear c17
            try clear c18
            try clear c21
            try clear c22
            try clear c23
            try clear c24
            try clear c28
            try clear c29
            try clear c30
            try clear c31
            try clear c33
            try clear c35
            try clear c36
            try clear c37
            try clear c38
            try clear c40
            try clear c41
            try clear c43
            try clear c47
            try clear c47b0
            try clear c48
            try clear c49
            try clear c50
            try clear hcz16_0
            try clear hcz16_1
            try clear hcz19_0
            try clear hcz19_1
            try clear hcz25_0
            try clear hcz25_1
            try clear hcz27_0
            try clear hcz27_1
            try clear hcz31_0
            try clear hcz31_1
            try clear hcz39_0
            try clear hcz39_1
            try clear hcz42_0
            try clear hcz42_1
            try clear hcz44_0
            try clear hcz44_1
            try clear hcz46_0
            try clear hcz46_1
            try clear hcz51_0
            try clear hcz51_1
            try clear hcz9_0
            try clear hcz9_1
            try clear hcz9_2
            try clear hcz9_3
            try clear hcz9_4
            try clear hfz16_0
            try clear hfz16_1
            try clear hfz19_0
            try clear hfz19_1
            try clear hfz25_0
            try clear hfz25_1
            try clear hfz27_0
            try clear hfz27_1
            try clear hfz31_0
            try clear hfz31_1
            try clear hfz39_0
            try clear hfz39_1
            try clear hfz42_0
            try clear hfz42_1
            try clear hfz44_0
            try clear hfz44_1
            try clear hfz46_0
            try clear hfz46_1
            try clear hfz51_0
            try clear hfz51_1
            try clear hfz9_0
            try clear hfz9_1
            try clear hfz9_2
            try clear hfz9_3
            try clear hfz9_4
            try clear p2
            try clear p6
            obtain ⟨x13_4, rfl, HA, HK4, HO_10, BK284, BK285, BK291, BK292, HB⟩ := hrel
            cases gk with
            | zero => exact absurd HA.out (by simp [pianolaref03_Bridge.l2])
            | succ k4 =>
             have H := HA.out
             clear HA
             simp only [pianolaref03_Bridge.l2] at H
             replace H := Option.bind_eq_some_iff.mp H
             obtain ⟨t295, A520, H⟩ := H
             replace H : (if t295 = true then (if x10_3.length < 8796093022208 then ((some (x10_3 ++ [(⟨x11_3, wrap64 (x11_3 + x13_4)⟩ : S52)] : List (S52))).bind fun y296 => (if x12_3 = (wrap64 (x9_2 - 1)) then (some (y296, 0)) else (pianolaref03_Bridge.l3 k4 x9_2 y296 (wrap64 (x11_3 + x13_4)) x12_3 t289 a1_0 a1_1 t286 t287 t288 t289))) else (none)) else (pianolaref03_Bridge.l2 k4 x9_2 x10_3 x11_3 x12_3 (wrap64 (x13_4 - 1)) a1_0 a1_1 t286 t287 t288 t289)) = some (r1, r2) := H
             have A52 := zA A520
             clear A520
             by_cases c53 : t295 = true
             ·
              subst c53
              have H1 : (if x10_3.length < 8796093022208 then ((some (x10_3 ++ [(⟨x11_3, wrap64 (x11_3 + x13_4)⟩ : S52)] : List (S52))).bind fun y296 => (if x12_3 = (wrap64 (x9_2 - 1)) then (some (y296, 0)) else (pianolaref03_Bridge.l3 k4 x9_2 y296 (wrap64 (x11_3 + x13_4)) x12_3 t289 a1_0 a1_1 t286 t287 t288 t289))) else (none)) = some (r1, r2) := by rw [if_pos rfl] at H; exact H
              clear H; have H := H1; clear H1
              by_cases c54 : x10_3.length < 8796093022208
              ·
               rw [if_pos c54] at H
               have LMc54 := zA c54
               clear c54
               obtain ⟨y296, hy296⟩ : ∃ y_ : List (S52), y_ = (x10_3 ++ [(⟨x11_3, wrap64 (x11_3 + x13_4)⟩ : S52)]) := ⟨_, rfl⟩
               replace H : (if x12_3 = (wrap64 (x9_2 - 1)) then (some (y296, 0)) else (pianolaref03_Bridge.l3 k4 x9_2 y296 (wrap64 (x11_3 + x13_4)) x12_3 t289 a1_0 a1_1 t286 t287 t288 t289)) = some (r1, r2) := zqF hy296 H
               have Ny296 := zA hy296
               clear hy296
               by_cases c55 : x12_3 = (wrap64 (x9_2 - 1))
               ·
                rw [if_pos c55] at H
                have c55b0 : (x12_3 == (wrap64 (x9_2 - 1))) = true := beq_iff_eq.mpr c55
                have c55b1 : (x12_3 != (wrap64 (x9_2 - 1))) = false := bne_eq_false_iff_eq.mpr c55
                clear c55
                simp only [Option.some.injEq, Prod.mk.injEq] at H
                obtain ⟨rfl, rfl⟩ := H
                have hnb56 := NB291_284.out
                have hnc56 := NB284_291.out
                have hnb57 := NB291_285.out
                have hnc57 := NB285_291.out
                have hnb58 := NB291_292.out
                have hnc58 := NB292_291.out
                have hcz59_0 : wr.cell? ⟨gb291, 0, none⟩ = some (.int .i64 t286) := (blk_cell BK291.out 0).trans rfl
                have hcz59_1 : wr.cell? ⟨gb291, 1, none⟩ = some (.int .i64 t287) := (blk_cell BK291.out 1).trans rfl
                have hfz59_0 := blk_frozen BK291.out 0
                have hfz59_1 := blk_frozen BK291.out 1
                have hnb60 := NB292_284.out
                have hnc60 := NB284_292.out
                have hnb61 := NB292_285.out
                have hnc61 := NB285_292.out
                have hcz62_0 : wr.cell? ⟨gb292, 0, none⟩ = some (.int .i64 t288) := (blk_cell BK292.out 0).trans rfl
                have hcz62_1 : wr.cell? ⟨gb292, 1, none⟩ = some (.int .i64 t289) := (blk_cell BK292.out 1).trans rfl
                have hfz62_0 := blk_frozen BK292.out 0
                have hfz62_1 := blk_frozen BK292.out 1
                have hnb63 := NB285_284.out
                have hnc63 := NB284_285.out
                have hcz64_0 : wr.cell? ⟨gb285, 0, none⟩ = some (.int .i64 a1_0) := (blk_cell BK285.out 0).trans rfl
                have hcz64_1 : wr.cell? ⟨gb285, 1, none⟩ = some (.int .i64 a1_1) := (blk_cell BK285.out 1).trans rfl
                have hfz64_0 := blk_frozen BK285.out 0
                have hfz64_1 := blk_frozen BK285.out 1
                go_wp2_with (first | ((with_reducible refine gate_callee (f := 75) rfl ?_); refine goesL_ (some 81) rfl rfl Try.func75 (by kernel_rfl) rfl #[.agg #[.int .i64 t286, .int .i64 t287], .agg #[.int .i64 t288, .int .i64 t289], .int .i64 (wrap64 ((wrap64 (a1_1 - x11_3)) - x13_4)), .int .i64 (wrap64 ((wrap64 (x9_2 - 1)) - x12_3)), .int .i64 (wrap64 ((wrap64 (x9_2 - 1)) - x12_3))] rfl zqE ?_; (with_reducible refine (pianolaref03_can.calls t286 t287 t288 t289 (wrap64 ((wrap64 (a1_1 - x11_3)) - x13_4)) (wrap64 ((wrap64 (x9_2 - 1)) - x12_3)) (wrap64 ((wrap64 (x9_2 - 1)) - x12_3)) true _ A52.out).mono ?_); rintro e w65 ⟨rfl, hb⟩; refine ⟨_, rfl, ?_⟩; have n0_ := zA (Kd.R_below (zqC HO_10.out) hb); have n1_ := zA (blk_below (g := gb284) (o := .cells #[.int .i64 a0_0, .int .i64 a0_1, .int .i64 a0_2, .int .i64 a0_3, .int .i64 a0_4] 58 (0, 0)) (zqB BK284.out) hb); have n2_ := zA (blk_below (g := gb285) (o := .cells #[.int .i64 a1_0, .int .i64 a1_1] 52 (0, 0)) (zqB BK285.out) hb); have n3_ := zA (blk_below (g := gb291) (o := .cells #[.int .i64 t286, .int .i64 t287] 55 (0, 0)) (zqB BK291.out) hb); have n4_ := zA (blk_below (g := gb292) (o := .cells #[.int .i64 t288, .int .i64 t289] 55 (0, 0)) (zqB BK292.out) hb); have n5_ := zA (below_step (zqJ HB.out GE284.out GE285.out GE291.out GE292.out) hb); clear HO_10; clear BK284; clear BK285; clear BK291; clear BK292; clear HB; have HO_10 := n0_; have BK284 := n1_; have BK285 := n2_; have BK291 := n3_; have BK292 := n4_; have HB := n5_; clear n0_ n1_ n2_ n3_ n4_ n5_; (try clear hb); (try clear hb2); (try clear hk); (try clear hi)) | ((with_reducible refine gate_builtin (b := .append) (xs := #[.tmp 85, .tmp 91]) rfl ?_); at_builtin; refine Kd.R_append k52 (w0 := w) w.heap.size rfl (.tmp 85) (.tmp 91) 31 52 (.agg #[(.int .i64 0), (.int .i64 0)]) 16 rfl Try.underlying31 info52 rfl (by decide) (by omega) u10 x10_3 (⟨x11_3, wrap64 (x11_3 + x13_4)⟩ : S52) [.int .i64 x11_3, .int .i64 (wrap64 (x11_3 + x13_4))] (fun k_ => k_ ≠ gb285) (fun _ => False) rfl rfl ?aP (fun _ hk => hk.elim) ?aF ?aO ?aB ?aS ?aL ?_; (case aP => exact k52_mkM _ _ _ (⟨x11_3, wrap64 (x11_3 + x13_4)⟩ : S52)); (case aB => exact (zqJ HB.out GE284.out GE285.out GE291.out GE292.out)); (case aF => exact (fun k_ hk => Kd.freshB (g := gb285) (o := .cells #[.int .i64 a1_0, .int .i64 a1_1] 52 (0, 0)) (zqB BK285.out) k_ hk)); (case aO => exact (zqC HO_10.out)); (case aS => exact (below_size (zqJ HB.out GE284.out GE285.out GE291.out GE292.out))); (case aL => have := LMc54.out; omega); intro v297 w66 ho hb hg hat; rw [← Ny296.out] at ho; have n0_ := zA (blk_grown (g := gb284) (o := .cells #[.int .i64 a0_0, .int .i64 a0_1, .int .i64 a0_2, .int .i64 a0_3, .int .i64 a0_4] 58 (0, 0)) (zqB BK284.out) hg (Kd.R_ne HO_10.out BK284.out (by decide))); have n1_ := zA (blk_grown (g := gb285) (o := .cells #[.int .i64 a1_0, .int .i64 a1_1] 52 (0, 0)) (zqB BK285.out) hg (Kd.R_away HO_10.out (fun _ hk => hk))); have n2_ := zA (blk_grown (g := gb291) (o := .cells #[.int .i64 t286, .int .i64 t287] 55 (0, 0)) (zqB BK291.out) hg (Kd.R_ne HO_10.out BK291.out (by decide))); have n3_ := zA (blk_grown (g := gb292) (o := .cells #[.int .i64 t288, .int .i64 t289] 55 (0, 0)) (zqB BK292.out) hg (Kd.R_ne HO_10.out BK292.out (by decide))); have n4_ := zA (hb); have n5_ := zA (ho); clear BK284; clear BK285; clear BK291; clear BK292; clear HB; clear HO_10; have BK284 := n0_; have BK285 := n1_; have BK291 := n2_; have BK292 := n3_; have HB := n4_; have HO298 := n5_; clear n0_ n1_ n2_ n3_ n4_ n5_; clear ho hb hg hat))
                go_ret2
                exact ⟨_, zqR, by (with_reducible repeat (first | apply Kd.R_alloc | apply Kd.R_drewN | apply Kd.R_drew)); exact Kd.R_mono HO298.out (fun _ hk => trivial), zqJ HB.out GE284.out GE285.out GE291.out GE292.out⟩
               ·
                rw [if_neg c55] at H
                have c55b0 : (x12_3 == (wrap64 (x9_2 - 1))) = false := beq_eq_false_iff_ne.mpr c55
                have c55b1 : (x12_3 != (wrap64 (x9_2 - 1))) = true := bne_iff_ne.mpr c55
                have H' := zA H
                clear H
                have hnb67 := NB291_284.out
                have hnc67 := NB284_291.out
                have hnb68 := NB291_285.out
                have hnc68 := NB285_291.out
                have hnb69 := NB291_292.out
                have hnc69 := NB292_291.out
                have hcz70_0 : wr.cell? ⟨gb291, 0, none⟩ = some (.int .i64 t286) := (blk_cell BK291.out 0).trans rfl
                have hcz70_1 : wr.cell? ⟨gb291, 1, none⟩ = some (.int .i64 t287) := (blk_cell BK291.out 1).trans rfl
                have hfz70_0 := blk_frozen BK291.out 0
                have hfz70_1 := blk_frozen BK291.out 1
                have hnb71 := NB292_284.out
                have hnc71 := NB284_292.out
                have hnb72 := NB292_285.out
                have hnc72 := NB285_292.out
                have hcz73_0 : wr.cell? ⟨gb292, 0, none⟩ = some (.int .i64 t288) := (blk_cell BK292.out 0).trans rfl
                have hcz73_1 : wr.cell? ⟨gb292, 1, none⟩ = some (.int .i64 t289) := (blk_cell BK292.out 1).trans rfl
                have hfz73_0 := blk_frozen BK292.out 0
                have hfz73_1 := blk_frozen BK292.out 1
                have hnb74 := NB285_284.out
                have hnc74 := NB284_285.out
                have hcz75_0 : wr.cell? ⟨gb285, 0, none⟩ = some (.int .i64 a1_0) := (blk_cell BK285.out 0).trans rfl
                have hcz75_1 : wr.cell? ⟨gb285, 1, none⟩ = some (.int .i64 a1_1) := (blk_cell BK285.out 1).trans rfl
                have hfz75_0 := blk_frozen BK285.out 0
                have hfz75_1 := blk_frozen BK285.out 1
                go_wp2_with (first | ((with_reducible refine gate_callee (f := 75) rfl ?_); refine goesL_ (some 81) rfl rfl Try.func75 (by kernel_rfl) rfl #[.agg #[.int .i64 t286, .int .i64 t287], .agg #[.int .i64 t288, .int .i64 t289], .int .i64 (wrap64 ((wrap64 (a1_1 - x11_3)) - x13_4)), .int .i64 (wrap64 ((wrap64 (x9_2 - 1)) - x12_3)), .int .i64 (wrap64 ((wrap64 (x9_2 - 1)) - x12_3))] rfl zqE ?_; (with_reducible refine (pianolaref03_can.calls t286 t287 t288 t289 (wrap64 ((wrap64 (a1_1 - x11_3)) - x13_4)) (wrap64 ((wrap64 (x9_2 - 1)) - x12_3)) (wrap64 ((wrap64 (x9_2 - 1)) - x12_3)) true _ A52.out).mono ?_); rintro e w76 ⟨rfl, hb⟩; refine ⟨_, rfl, ?_⟩; have n0_ := zA (Kd.R_below (zqC HO_10.out) hb); have n1_ := zA (blk_below (g := gb284) (o := .cells #[.int .i64 a0_0, .int .i64 a0_1, .int .i64 a0_2, .int .i64 a0_3, .int .i64 a0_4] 58 (0, 0)) (zqB BK284.out) hb); have n2_ := zA (blk_below (g := gb285) (o := .cells #[.int .i64 a1_0, .int .i64 a1_1] 52 (0, 0)) (zqB BK285.out) hb); have n3_ := zA (blk_below (g := gb291) (o := .cells #[.int .i64 t286, .int .i64 t287] 55 (0, 0)) (zqB BK291.out) hb); have n4_ := zA (blk_below (g := gb292) (o := .cells #[.int .i64 t288, .int .i64 t289] 55 (0, 0)) (zqB BK292.out) hb); have n5_ := zA (below_step (zqJ HB.out GE284.out GE285.out GE291.out GE292.out) hb); clear HO_10; clear BK284; clear BK285; clear BK291; clear BK292; clear HB; have HO_10 := n0_; have BK284 := n1_; have BK285 := n2_; have BK291 := n3_; have BK292 := n4_; have HB := n5_; clear n0_ n1_ n2_ n3_ n4_ n5_; (try clear hb); (try clear hb2); (try clear hk); (try clear hi)) | ((with_reducible refine gate_builtin (b := .append) (xs := #[.tmp 85, .tmp 91]) rfl ?_); at_builtin; refine Kd.R_append k52 (w0 := w) w.heap.size rfl (.tmp 85) (.tmp 91) 31 52 (.agg #[(.int .i64 0), (.int .i64 0)]) 16 rfl Try.underlying31 info52 rfl (by decide) (by omega) u10 x10_3 (⟨x11_3, wrap64 (x11_3 + x13_4)⟩ : S52) [.int .i64 x11_3, .int .i64 (wrap64 (x11_3 + x13_4))] (fun k_ => k_ ≠ gb285) (fun _ => False) rfl rfl ?aP (fun _ hk => hk.elim) ?aF ?aO ?aB ?aS ?aL ?_; (case aP => exact k52_mkM _ _ _ (⟨x11_3, wrap64 (x11_3 + x13_4)⟩ : S52)); (case aB => exact (zqJ HB.out GE284.out GE285.out GE291.out GE292.out)); (case aF => exact (fun k_ hk => Kd.freshB (g := gb285) (o := .cells #[.int .i64 a1_0, .int .i64 a1_1] 52 (0, 0)) (zqB BK285.out) k_ hk)); (case aO => exact (zqC HO_10.out)); (case aS => exact (below_size (zqJ HB.out GE284.out GE285.out GE291.out GE292.out))); (case aL => have := LMc54.out; omega); intro v297 w77 ho hb hg hat; rw [← Ny296.out] at ho; have n0_ := zA (blk_grown (g := gb284) (o := .cells #[.int .i64 a0_0, .int .i64 a0_1, .int .i64 a0_2, .int .i64 a0_3, .int .i64 a0_4] 58 (0, 0)) (zqB BK284.out) hg (Kd.R_ne HO_10.out BK284.out (by decide))); have n1_ := zA (blk_grown (g := gb285) (o := .cells #[.int .i64 a1_0, .int .i64 a1_1] 52 (0, 0)) (zqB BK285.out) hg (Kd.R_away HO_10.out (fun _ hk => hk))); have n2_ := zA (blk_grown (g := gb291) (o := .cells #[.int .i64 t286, .int .i64 t287] 55 (0, 0)) (zqB BK291.out) hg (Kd.R_ne HO_10.out BK291.out (by decide))); have n3_ := zA (blk_grown (g := gb292) (o := .cells #[.int .i64 t288, .int .i64 t289] 55 (0, 0)) (zqB BK292.out) hg (Kd.R_ne HO_10.out BK292.out (by decide))); have n4_ := zA (hb); have n5_ := zA (ho); clear BK284; clear BK285; clear BK291; clear BK292; clear HB; clear HO_10; have BK284 := n0_; have BK285 := n1_; have BK291 := n2_; have BK292 := n3_; have HB := n4_; have HO298 := n5_; clear n0_ n1_ n2_ n3_ n4_ n5_; clear ho hb hg hat; have hcz78_0 : w77.cell? ⟨gb292, 0, none⟩ = some (.int .i64 t288) := (blk_cell BK292.out 0).trans rfl; have hcz78_1 : w77.cell? ⟨gb292, 1, none⟩ = some (.int .i64 t289) := (blk_cell BK292.out 1).trans rfl; have hfz78_0 := blk_frozen BK292.out 0; have hfz78_1 := blk_frozen BK292.out 1))
                go_loopg [14] k4 (fun kq v14 w' => ∃ (x14_5 : Int), v14 = .int .i64 x14_5 ∧ Aside0 (pianolaref03_Bridge.l3 kq x9_2 y296 (wrap64 (x11_3 + x13_4)) x12_3 x14_5 a1_0 a1_1 t286 t287 t288 t289 = some (r1, r2)) ∧ Aside0 (kq ≤ k4) ∧ Aside0 (Kd.R k52 52 w' w.heap.size (fun k_ => k_ ≠ gb285) v297 y296) ∧ Aside0 (w'.heap[gb284]? = some (.cells #[.int .i64 a0_0, .int .i64 a0_1, .int .i64 a0_2, .int .i64 a0_3, .int .i64 a0_4] 58 (0, 0))) ∧ Aside0 (w'.heap[gb285]? = some (.cells #[.int .i64 a1_0, .int .i64 a1_1] 52 (0, 0))) ∧ Aside0 (w'.heap[gb291]? = some (.cells #[.int .i64 t286, .int .i64 t287] 55 (0, 0))) ∧ Aside0 (w'.heap[gb292]? = some (.cells #[.int .i64 t288, .int .i64 t289] 55 (0, 0))) ∧ Aside0 (Below w.heap.size w w'))
                case atStart => exact ⟨(t289), zqQ, H', ⟨Nat.le_refl _⟩, ⟨zqC HO298.out⟩, ⟨zqB BK284.out⟩, ⟨zqB BK285.out⟩, ⟨zqB BK291.out⟩, ⟨zqB BK292.out⟩, ⟨zqJ HB.out GE284.out GE285.out GE291.out GE292.out⟩⟩
                case round =>
                 clear H'
                 try clear c1
                 try clear c2
                 try clear p2
                 try clear c3
                 try clear c4
                 try clear c4b0
                 try clear c4b1
                 try clear c5
                 try clear c6
                 try clear p6
                 try clear c7
                 try clear c8
                 try clear c13
                 try clear c14
                 try clear c15
                 try clear c17
                 try clear c18
                 try clear c21
                 try clear c22
                 try clear c23
                 try clear c24
                 try clear c28
                 try clear c29
                 try clear c30
                 try clear c31
                 try clear c33
                 try clear c35
                 try clear c36
                 try clear c37
                 try clear c38
                 try clear c40
                 try clear c41
                 try clear c43
                 try clear c47
                 try clear c47b0
                 try clear c48
                 try clear c49
                 try clear c50
                 try clear c53
                 try clear c54
                 try clear c55
                 try clear c55b0
                 try clear c55b1
                 try clear c56
                 try clear c57
                 try clear c58
                 try clear c60
                 try clear c61
                 try clear c63
                 try clear p64
                 try clear c67
                 try clear c68
                 try clear c69
                 try clear c71
                 try clear c72
                 try clear c74
                 try clear c75
                 try clear hcz16_0
                 try clear hcz16_1
                 try clear hcz19_0
                 try clear hcz19_1
                 try clear hcz25_0
                 try clear hcz25_1
                 try clear hcz27_0
                 try clear hcz27_1
                 try clear hcz31_0
                 try clear hcz31_1
                 try clear hcz39_0
                 try clear hcz39_1
                 try clear hcz42_0
                 try clear hcz42_1
                 try clear hcz44_0
                 try clear hcz44_1
                 try clear hcz46_0
                 try clear hcz46_1
                 try clear hcz51_0
                 try clear hcz51_1
                 try clear hcz59_0
                 try clear hcz59_1
                 try clear hcz62_0
                 try clear hcz62_1
                 try clear hcz64_0
                 try clear hcz64_1
                 try clear hcz70_0
                 try clear hcz70_1
                 try clear hcz73_0
                 try clear hcz73_1
                 try clear hcz75_0
                 try clear hcz75_1
                 try clear hcz78_0
                 try clear hcz78_1
                 try clear hcz9_0
                 try clear hcz9_1
                 try clear hcz9_2
                 try clear hcz9_3
                 try clear hcz9_4
                 try clear hfz16_0
                 try clear hfz16_1
                 try clear hfz19_0
                 try clear hfz19_1
                 try clear hfz25_0
                 try clear hfz25_1
                 try clear hfz27_0
                 try clear hfz27_1
                 try clear hfz31_0
                 try clear hfz31_1
                 try clear hfz39_0
                 try clear hfz39_1
                 try clear hfz42_0
                 try clear hfz42_1
                 try clear hfz44_0
                 try clear hfz44_1
                 try clear hfz46_0
                 try clear hfz46_1
                 try clear hfz51_0
                 try clear hfz51_1
                 try clear hfz59_0
                 try clear hfz59_1
                 try clear hfz62_0
                 try clear hfz62_1
                 try clear hfz64_0
                 try clear hfz64_1
                 try clear hfz70_0
                 try clear hfz70_1
                 try clear hfz73_0
                 try clear hfz73_1
                 try clear hfz75_0
                 try clear hfz75_1
                 try clear hfz78_0
                 try clear hfz78_1
                 try clear hfz9_0
                 try clear hfz9_1
                 try clear hfz9_2
                 try clear hfz9_3
                 try clear hfz9_4
                 try clear p2
                 try clear p6
                 obtain ⟨x14_5, rfl, HA, HK5, HO_10, BK284, BK285, BK291, BK292, HB⟩ := hrel
                 cases gk with
                 | zero => exact absurd HA.out (by simp [pianolaref03_Bridge.l3])
                 | succ k5 =>
                  have H := HA.out
                  clear HA
                  simp only [pianolaref03_Bridge.l3] at H
                  replace H := Option.bind_eq_some_iff.mp H
                  obtain ⟨t299, A790, H⟩ := H
                  replace H : (if t299 = true then (pianolaref03_Bridge.l1 k5 x9_2 y296 (wrap64 ((wrap64 (x11_3 + x13_4)) + x14_5)) (wrap64 (x12_3 + 1)) a1_0 a1_1 t286 t287 t288 t289) else (pianolaref03_Bridge.l3 k5 x9_2 y296 (wrap64 (x11_3 + x13_4)) x12_3 (wrap64 (x14_5 - 1)) a1_0 a1_1 t286 t287 t288 t289)) = some (r1, r2) := H
                  have A79 := zA A790
                  clear A790
                  by_cases c80 : t299 = true
                  ·
                   subst c80
                   have H1 : (pianolaref03_Bridge.l1 k5 x9_2 y296 (wrap64 ((wrap64 (x11_3 + x13_4)) + x14_5)) (wrap64 (x12_3 + 1)) a1_0 a1_1 t286 t287 t288 t289) = some (r1, r2) := by rw [if_pos rfl] at H; exact H
                   clear H; have H := H1; clear H1
                   have H' := zA H
                   clear H
                   have hnb81 := NB291_284.out
                   have hnc81 := NB284_291.out
                   have hnb82 := NB291_285.out
                   have hnc82 := NB285_291.out
                   have hnb83 := NB291_292.out
                   have hnc83 := NB292_291.out
                   have hcz84_0 : wr.cell? ⟨gb291, 0, none⟩ = some (.int .i64 t286) := (blk_cell BK291.out 0).trans rfl
                   have hcz84_1 : wr.cell? ⟨gb291, 1, none⟩ = some (.int .i64 t287) := (blk_cell BK291.out 1).trans rfl
                   have hfz84_0 := blk_frozen BK291.out 0
                   have hfz84_1 := blk_frozen BK291.out 1
                   have hnb85 := NB292_284.out
                   have hnc85 := NB284_292.out
                   have hnb86 := NB292_285.out
                   have hnc86 := NB285_292.out
                   have hcz87_0 : wr.cell? ⟨gb292, 0, none⟩ = some (.int .i64 t288) := (blk_cell BK292.out 0).trans rfl
                   have hcz87_1 : wr.cell? ⟨gb292, 1, none⟩ = some (.int .i64 t289) := (blk_cell BK292.out 1).trans rfl
                   have hfz87_0 := blk_frozen BK292.out 0
                   have hfz87_1 := blk_frozen BK292.out 1
                   have hnb88 := NB285_284.out
                   have hnc88 := NB284_285.out
                   have hcz89_0 : wr.cell? ⟨gb285, 0, none⟩ = some (.int .i64 a1_0) := (blk_cell BK285.out 0).trans rfl
                   have hcz89_1 : wr.cell? ⟨gb285, 1, none⟩ = some (.int .i64 a1_1) := (blk_cell BK285.out 1).trans rfl
                   have hfz89_0 := blk_frozen BK285.out 0
                   have hfz89_1 := blk_frozen BK285.out 1
                   go_wp2_with (first | ((with_reducible refine gate_callee (f := 75) rfl ?_); refine goesL_ (some 118) rfl rfl Try.func75 (by kernel_rfl) rfl #[.agg #[.int .i64 t286, .int .i64 t287], .agg #[.int .i64 t288, .int .i64 t289], .int .i64 (wrap64 ((wrap64 (a1_1 - (wrap64 (x11_3 + x13_4)))) - x14_5)), .int .i64 (wrap64 ((wrap64 (x9_2 - 1)) - x12_3)), .int .i64 (wrap64 ((wrap64 (x9_2 - 2)) - x12_3))] rfl zqE ?_; (with_reducible refine (pianolaref03_can.calls t286 t287 t288 t289 (wrap64 ((wrap64 (a1_1 - (wrap64 (x11_3 + x13_4)))) - x14_5)) (wrap64 ((wrap64 (x9_2 - 1)) - x12_3)) (wrap64 ((wrap64 (x9_2 - 2)) - x12_3)) true _ A79.out).mono ?_); rintro e w90 ⟨rfl, hb⟩; refine ⟨_, rfl, ?_⟩; have n0_ := zA (Kd.R_below (zqC HO_10.out) hb); have n1_ := zA (blk_below (g := gb284) (o := .cells #[.int .i64 a0_0, .int .i64 a0_1, .int .i64 a0_2, .int .i64 a0_3, .int .i64 a0_4] 58 (0, 0)) (zqB BK284.out) hb); have n2_ := zA (blk_below (g := gb285) (o := .cells #[.int .i64 a1_0, .int .i64 a1_1] 52 (0, 0)) (zqB BK285.out) hb); have n3_ := zA (blk_below (g := gb291) (o := .cells #[.int .i64 t286, .int .i64 t287] 55 (0, 0)) (zqB BK291.out) hb); have n4_ := zA (blk_below (g := gb292) (o := .cells #[.int .i64 t288, .int .i64 t289] 55 (0, 0)) (zqB BK292.out) hb); have n5_ := zA (below_step (zqJ HB.out GE284.out GE285.out GE291.out GE292.out) hb); clear HO_10; clear BK284; clear BK285; clear BK291; clear BK292; clear HB; have HO_10 := n0_; have BK284 := n1_; have BK285 := n2_; have BK291 := n3_; have BK292 := n4_; have HB := n5_; clear n0_ n1_ n2_ n3_ n4_ n5_; (try clear hb); (try clear hb2); (try clear hk); (try clear hi)))
                   go_roundg k5
                   case measure => have := HJ4.out; have := HK2.out; have := HK3.out; have := HK4.out; have := HK5.out; omega
                   case rel => exact ⟨(y296), (wrap64 ((wrap64 (x11_3 + x13_4)) + x14_5)), (wrap64 (x12_3 + 1)), zqQ, zqQ, H', ⟨by have := HJ4.out; have := HK2.out; have := HK3.out; have := HK4.out; have := HK5.out; omega⟩, ⟨zqC HO_10.out⟩, ⟨zqB BK284.out⟩, ⟨zqB BK285.out⟩, ⟨zqB BK291.out⟩, ⟨zqB BK292.out⟩, ⟨zqJ HB.out GE284.out GE285.out GE291.out GE292.out⟩⟩
                  ·
                   replace c80 := Bool.eq_false_iff.mpr c80
                   subst c80
                   have H1 : (pianolaref03_Bridge.l3 k5 x9_2 y296 (wrap64 (x11_3 + x13_4)) x12_3 (wrap64 (x14_5 - 1)) a1_0 a1_1 t286 t287 t288 t289) = some (r1, r2) := by rw [if_neg (show ¬ (false = true) by decide)] at H; exact H
                   clear H; have H := H1; clear H1
                   have H' := zA H
                   clear H
                   have hnb91 := NB291_284.out
                   have hnc91 := NB284_291.out
                   have hnb92 := NB291_285.out
                   have hnc92 := NB285_291.out
                   have hnb93 := NB291_292.out
                   have hnc93 := NB292_291.out
                   have hcz94_0 : wr.cell? ⟨gb291, 0, none⟩ = some (.int .i64 t286) := (blk_cell BK291.out 0).trans rfl
                   have hcz94_1 : wr.cell? ⟨gb291, 1, none⟩ = some (.int .i64 t287) := (blk_cell BK291.out 1).trans rfl
                   have hfz94_0 := blk_frozen BK291.out 0
                   have hfz94_1 := blk_frozen BK291.out 1
                   have hnb95 := NB292_284.out
                   have hnc95 := NB284_292.out
                   have hnb96 := NB292_285.out
                   have hnc96 := NB285_292.out
                   have hcz97_0 : wr.cell? ⟨gb292, 0, none⟩ = some (.int .i64 t288) := (blk_cell BK292.out 0).trans rfl
                   have hcz97_1 : wr.cell? ⟨gb292, 1, none⟩ = some (.int .i64 t289) := (blk_cell BK292.out 1).trans rfl
                   have hfz97_0 := blk_frozen BK292.out 0
                   have hfz97_1 := blk_frozen BK292.out 1
                   have hnb98 := NB285_284.out
                   have hnc98 := NB284_285.out
                   have hcz99_0 : wr.cell? ⟨gb285, 0, none⟩ = some (.int .i64 a1_0) := (blk_cell BK285.out 0).trans rfl
                   have hcz99_1 : wr.cell? ⟨gb285, 1, none⟩ = some (.int .i64 a1_1) := (blk_cell BK285.out 1).trans rfl
                   have hfz99_0 := blk_frozen BK285.out 0
                   have hfz99_1 := blk_frozen BK285.out 1
                   go_wp2_with (first | ((with_reducible refine gate_callee (f := 75) rfl ?_); refine goesL_ (some 118) rfl rfl Try.func75 (by kernel_rfl) rfl #[.agg #[.int .i64 t286, .int .i64 t287], .agg #[.int .i64 t288, .int .i64 t289], .int .i64 (wrap64 ((wrap64 (a1_1 - (wrap64 (x11_3 + x13_4)))) - x14_5)), .int .i64 (wrap64 ((wrap64 (x9_2 - 1)) - x12_3)), .int .i64 (wrap64 ((wrap64 (x9_2 - 2)) - x12_3))] rfl zqE ?_; (with_reducible refine (pianolaref03_can.calls t286 t287 t288 t289 (wrap64 ((wrap64 (a1_1 - (wrap64 (x11_3 + x13_4)))) - x14_5)) (wrap64 ((wrap64 (x9_2 - 1)) - x12_3)) (wrap64 ((wrap64 (x9_2 - 2)) - x12_3)) false _ A79.out).mono ?_); rintro e w100 ⟨rfl, hb⟩; refine ⟨_, rfl, ?_⟩; have n0_ := zA (Kd.R_below (zqC HO_10.out) hb); have n1_ := zA (blk_below (g := gb284) (o := .cells #[.int .i64 a0_0, .int .i64 a0_1, .int .i64 a0_2, .int .i64 a0_3, .int .i64 a0_4] 58 (0, 0)) (zqB BK284.out) hb); have n2_ := zA (blk_below (g := gb285) (o := .cells #[.int .i64 a1_0, .int .i64 a1_1] 52 (0, 0)) (zqB BK285.out) hb); have n3_ := zA (blk_below (g := gb291) (o := .cells #[.int .i64 t286, .int .i64 t287] 55 (0, 0)) (zqB BK291.out) hb); have n4_ := zA (blk_below (g := gb292) (o := .cells #[.int .i64 t288, .int .i64 t289] 55 (0, 0)) (zqB BK292.out) hb); have n5_ := zA (below_step (zqJ HB.out GE284.out GE285.out GE291.out GE292.out) hb); clear HO_10; clear BK284; clear BK285; clear BK291; clear BK292; clear HB; have HO_10 := n0_; have BK284 := n1_; have BK285 := n2_; have BK291 := n3_; have BK292 := n4_; have HB := n5_; clear n0_ n1_ n2_ n3_ n4_ n5_; (try clear hb); (try clear hb2); (try clear hk); (try clear hi)))
                   go_roundg k5
                   case measure => have := HJ4.out; have := HK2.out; have := HK3.out; have := HK4.out; have := HK5.out; omega
                   case rel => exact ⟨(wrap64 (x14_5 - 1)), zqQ, H', ⟨by have := HJ4.out; have := HK2.out; have := HK3.out; have := HK4.out; have := HK5.out; omega⟩, ⟨zqC HO_10.out⟩, ⟨zqB BK284.out⟩, ⟨zqB BK285.out⟩, ⟨zqB BK291.out⟩, ⟨zqB BK292.out⟩, ⟨zqJ HB.out GE284.out GE285.out GE291.out GE292.out⟩⟩
              ·
               rw [if_neg c54] at H
               exact absurd H (by simp)
             ·
              replace c53 := Bool.eq_false_iff.mpr c53
              subst c53
              have H1 : (pianolaref03_Bridge.l2 k4 x9_2 x10_3 x11_3 x12_3 (wrap64 (x13_4 - 1)) a1_0 a1_1 t286 t287 t288 t289) = some (r1, r2) := by rw [if_neg (show ¬ (false = true) by decide)] at H; exact H
              clear H; have H := H1; clear H1
              have H' := zA H
              clear H
              have hnb101 := NB291_284.out
              have hnc101 := NB284_291.out
              have hnb102 := NB291_285.out
              have hnc102 := NB285_291.out
              have hnb103 := NB291_292.out
              have hnc103 := NB292_291.out
              have hcz104_0 : wr.cell? ⟨gb291, 0, none⟩ = some (.int .i64 t286) := (blk_cell BK291.out 0).trans rfl
              have hcz104_1 : wr.cell? ⟨gb291, 1, none⟩ = some (.int .i64 t287) := (blk_cell BK291.out 1).trans rfl
              have hfz104_0 := blk_frozen BK291.out 0
              have hfz104_1 := blk_frozen BK291.out 1
              have hnb105 := NB292_284.out
              have hnc105 := NB284_292.out
              have hnb106 := NB292_285.out
              have hnc106 := NB285_292.out
              have hcz107_0 : wr.cell? ⟨gb292, 0, none⟩ = some (.int .i64 t288) := (blk_cell BK292.out 0).trans rfl
              have hcz107_1 : wr.cell? ⟨gb292, 1, none⟩ = some (.int .i64 t289) := (blk_cell BK292.out 1).trans rfl
              have hfz107_0 := blk_frozen BK292.out 0
              have hfz107_1 := blk_frozen BK292.out 1
              have hnb108 := NB285_284.out
              have hnc108 := NB284_285.out
              have hcz109_0 : wr.cell? ⟨gb285, 0, none⟩ = some (.int .i64 a1_0) := (blk_cell BK285.out 0).trans rfl
              have hcz109_1 : wr.cell? ⟨gb285, 1, none⟩ = some (.int .i64 a1_1) := (blk_cell BK285.out 1).trans rfl
              have hfz109_0 := blk_frozen BK285.out 0
              have hfz109_1 := blk_frozen BK285.out 1
              go_wp2_with (first | ((with_reducible refine gate_callee (f := 75) rfl ?_); refine goesL_ (some 81) rfl rfl Try.func75 (by kernel_rfl) rfl #[.agg #[.int .i64 t286, .int .i64 t287], .agg #[.int .i64 t288, .int .i64 t289], .int .i64 (wrap64 ((wrap64 (a1_1 - x11_3)) - x13_4)), .int .i64 (wrap64 ((wrap64 (x9_2 - 1)) - x12_3)), .int .i64 (wrap64 ((wrap64 (x9_2 - 1)) - x12_3))] rfl zqE ?_; (with_reducible refine (pianolaref03_can.calls t286 t287 t288 t289 (wrap64 ((wrap64 (a1_1 - x11_3)) - x13_4)) (wrap64 ((wrap64 (x9_2 - 1)) - x12_3)) (wrap64 ((wrap64 (x9_2 - 1)) - x12_3)) false _ A52.out).mono ?_); rintro e w110 ⟨rfl, hb⟩; refine ⟨_, rfl, ?_⟩; have n0_ := zA (Kd.R_below (zqC HO_10.out) hb); have n1_ := zA (blk_below (g := gb284) (o := .cells #[.int .i64 a0_0, .int .i64 a0_1, .int .i64 a0_2, .int .i64 a0_3, .int .i64 a0_4] 58 (0, 0)) (zqB BK284.out) hb); have n2_ := zA (blk_below (g := gb285) (o := .cells #[.int .i64 a1_0, .int .i64 a1_1] 52 (0, 0)) (zqB BK285.out) hb); have n3_ := zA (blk_below (g := gb291) (o := .cells #[.int .i64 t286, .int .i64 t287] 55 (0, 0)) (zqB BK291.out) hb); have n4_ := zA (blk_below (g := gb292) (o := .cells #[.int .i64 t288, .int .i64 t289] 55 (0, 0)) (zqB BK292.out) hb); have n5_ := zA (below_step (zqJ HB.out GE284.out GE285.out GE291.out GE292.out) hb); clear HO_10; clear BK284; clear BK285; clear BK291; clear BK292; clear HB; have HO_10 := n0_; have BK284 := n1_; have BK285 := n2_; have BK291 := n3_; have BK292 := n4_; have HB := n5_; clear n0_ n1_ n2_ n3_ n4_ n5_; (try clear hb); (try clear hb2); (try clear hk); (try clear hi)))
              go_roundg k4
              case measure => have := HJ4.out; have := HK2.out; have := HK3.out; have := HK4.out; omega
              case rel => exact ⟨(wrap64 (x13_4 - 1)), zqQ, H', ⟨by have := HJ4.out; have := HK2.out; have := HK3.out; have := HK4.out; omega⟩, ⟨zqC HO_10.out⟩, ⟨zqB BK284.out⟩, ⟨zqB BK285.out⟩, ⟨zqB BK291.out⟩, ⟨zqB BK292.out⟩, ⟨zqJ HB.out GE284.out GE285.out GE291.out GE292.out⟩⟩
          ·
           rw [if_neg c47] at H
           have c47b0 : decide (x12_3 < x9_2) = false := decide_eq_false c47
           clear c47
           simp only [Option.some.injEq, Prod.mk.injEq] at H
           obtain ⟨rfl, rfl⟩ := H
           go_wp2
           go_ret2
           exact ⟨_, zqR, by (with_reducible repeat (first | apply Kd.R_alloc | apply Kd.R_drewN | apply Kd.R_drew)); exact Kd.R_mono HO_10.out (fun _ hk => trivial), zqJ HB.out GE284.out GE285.out GE291.out GE292.out⟩
       ·
        replace c35 := Bool.eq_false_iff.mpr c35
        subst c35
        have H1 : (if (wrap64 (x9_2 + 1)) > 200 then (some (([] : List (S52)), 20)) else (if t289 = 0 then (some (([] : List (S52)), 20)) else (pianolaref03_Bridge.l0 k2 (wrap64 (x9_2 + 1)) a1_0 a1_1 t286 t287 t288 t289))) = some (r1, r2) := by rw [if_neg (show ¬ (false = true) by decide)] at H; exact H
        clear H; have H := H1; clear H1
        by_cases c111 : (wrap64 (x9_2 + 1)) > 200
        ·
         rw [if_pos c111] at H
         have c111b0 : decide (200 < (wrap64 (x9_2 + 1))) = true := decide_eq_true c111
         clear c111
         simp only [Option.some.injEq, Prod.mk.injEq] at H
         obtain ⟨rfl, rfl⟩ := H
         have hnb112 := NB291_284.out
         have hnc112 := NB284_291.out
         have hnb113 := NB291_285.out
         have hnc113 := NB285_291.out
         have hnb114 := NB291_292.out
         have hnc114 := NB292_291.out
         have hcz115_0 : wr.cell? ⟨gb291, 0, none⟩ = some (.int .i64 t286) := (blk_cell BK291.out 0).trans rfl
         have hcz115_1 : wr.cell? ⟨gb291, 1, none⟩ = some (.int .i64 t287) := (blk_cell BK291.out 1).trans rfl
         have hfz115_0 := blk_frozen BK291.out 0
         have hfz115_1 := blk_frozen BK291.out 1
         have hnb116 := NB292_284.out
         have hnc116 := NB284_292.out
         have hnb117 := NB292_285.out
         have hnc117 := NB285_292.out
         have hcz118_0 : wr.cell? ⟨gb292, 0, none⟩ = some (.int .i64 t288) := (blk_cell BK292.out 0).trans rfl
         have hcz118_1 : wr.cell? ⟨gb292, 1, none⟩ = some (.int .i64 t289) := (blk_cell BK292.out 1).trans rfl
         have hfz118_0 := blk_frozen BK292.out 0
         have hfz118_1 := blk_frozen BK292.out 1
         have hnb119 := NB285_284.out
         have hnc119 := NB284_285.out
         have hcz120_0 : wr.cell? ⟨gb285, 0, none⟩ = some (.int .i64 a1_0) := (blk_cell BK285.out 0).trans rfl
         have hcz120_1 : wr.cell? ⟨gb285, 1, none⟩ = some (.int .i64 a1_1) := (blk_cell BK285.out 1).trans rfl
         have hfz120_0 := blk_frozen BK285.out 0
         have hfz120_1 := blk_frozen BK285.out 1
         go_wp2_with (first | ((with_reducible refine gate_callee (f := 75) rfl ?_); refine goesL_ (some 45) rfl rfl Try.func75 (by kernel_rfl) rfl #[.agg #[.int .i64 t286, .int .i64 t287], .agg #[.int .i64 t288, .int .i64 t289], .int .i64 (wrap64 (a1_1 - a1_0)), .int .i64 x9_2, .int .i64 (wrap64 (x9_2 - 1))] rfl zqE ?_; (with_reducible refine (pianolaref03_can.calls t286 t287 t288 t289 (wrap64 (a1_1 - a1_0)) x9_2 (wrap64 (x9_2 - 1)) false _ A34.out).mono ?_); rintro e w121 ⟨rfl, hb⟩; refine ⟨_, rfl, ?_⟩; have n0_ := zA (blk_below (g := gb284) (o := .cells #[.int .i64 a0_0, .int .i64 a0_1, .int .i64 a0_2, .int .i64 a0_3, .int .i64 a0_4] 58 (0, 0)) (zqB BK284.out) hb); have n1_ := zA (blk_below (g := gb285) (o := .cells #[.int .i64 a1_0, .int .i64 a1_1] 52 (0, 0)) (zqB BK285.out) hb); have n2_ := zA (blk_below (g := gb291) (o := .cells #[.int .i64 t286, .int .i64 t287] 55 (0, 0)) (zqB BK291.out) hb); have n3_ := zA (blk_below (g := gb292) (o := .cells #[.int .i64 t288, .int .i64 t289] 55 (0, 0)) (zqB BK292.out) hb); have n4_ := zA (below_step (zqJ HB.out GE284.out GE285.out GE291.out GE292.out) hb); clear BK284; clear BK285; clear BK291; clear BK292; clear HB; have BK284 := n0_; have BK285 := n1_; have BK291 := n2_; have BK292 := n3_; have HB := n4_; clear n0_ n1_ n2_ n3_ n4_; (try clear hb); (try clear hb2); (try clear hk); (try clear hi)))
         go_ret2
         exact ⟨_, zqR, by first | exact Kd.R_nil _ _ _ _ _ | exact Kd.N_nil _ _ _ _ _ | exact Kd.V_nil _ _ _ _ _ | exact Kd.Q_nil _ _ _ _ _ | exact Kd.S_nil _ _ _ _ _, zqJ HB.out GE284.out GE285.out GE291.out GE292.out⟩
        ·
         rw [if_neg c111] at H
         have c111b0 : decide (200 < (wrap64 (x9_2 + 1))) = false := decide_eq_false c111
         clear c111
         by_cases c122 : t289 = 0
         ·
          rw [if_pos c122] at H
          have c122b0 : (t289 == 0) = true := beq_iff_eq.mpr c122
          have c122b1 : (t289 != 0) = false := bne_eq_false_iff_eq.mpr c122
          clear c122
          simp only [Option.some.injEq, Prod.mk.injEq] at H
          obtain ⟨rfl, rfl⟩ := H
          have hnb123 := NB291_284.out
          have hnc123 := NB284_291.out
          have hnb124 := NB291_285.out
          have hnc124 := NB285_291.out
          have hnb125 := NB291_292.out
          have hnc125 := NB292_291.out
          have hcz126_0 : wr.cell? ⟨gb291, 0, none⟩ = some (.int .i64 t286) := (blk_cell BK291.out 0).trans rfl
          have hcz126_1 : wr.cell? ⟨gb291, 1, none⟩ = some (.int .i64 t287) := (blk_cell BK291.out 1).trans rfl
          have hfz126_0 := blk_frozen BK291.out 0
          have hfz126_1 := blk_frozen BK291.out 1
          have hnb127 := NB292_284.out
          have hnc127 := NB284_292.out
          have hnb128 := NB292_285.out
          have hnc128 := NB285_292.out
          have hcz129_0 : wr.cell? ⟨gb292, 0, none⟩ = some (.int .i64 t288) := (blk_cell BK292.out 0).trans rfl
          have hcz129_1 : wr.cell? ⟨gb292, 1, none⟩ = some (.int .i64 t289) := (blk_cell BK292.out 1).trans rfl
          have hfz129_0 := blk_frozen BK292.out 0
          have hfz129_1 := blk_frozen BK292.out 1
          have hnb130 := NB285_284.out
          have hnc130 := NB284_285.out
          have hcz131_0 : wr.cell? ⟨gb285, 0, none⟩ = some (.int .i64 a1_0) := (blk_cell BK285.out 0).trans rfl
          have hcz131_1 : wr.cell? ⟨gb285, 1, none⟩ = some (.int .i64 a1_1) := (blk_cell BK285.out 1).trans rfl
          have hfz131_0 := blk_frozen BK285.out 0
          have hfz131_1 := blk_frozen BK285.out 1
          go_wp2_with (first | ((with_reducible refine gate_callee (f := 75) rfl ?_); refine goesL_ (some 45) rfl rfl Try.func75 (by kernel_rfl) rfl #[.agg #[.int .i64 t286, .int .i64 t287], .agg #[.int .i64 t288, .int .i64 t289], .int .i64 (wrap64 (a1_1 - a1_0)), .int .i64 x9_2, .int .i64 (wrap64 (x9_2 - 1))] rfl zqE ?_; (with_reducible refine (pianolaref03_can.calls t286 t287 t288 t289 (wrap64 (a1_1 - a1_0)) x9_2 (wrap64 (x9_2 - 1)) false _ A34.out).mono ?_); rintro e w132 ⟨rfl, hb⟩; refine ⟨_, rfl, ?_⟩; have n0_ := zA (blk_below (g := gb284) (o := .cells #[.int .i64 a0_0, .int .i64 a0_1, .int .i64 a0_2, .int .i64 a0_3, .int .i64 a0_4] 58 (0, 0)) (zqB BK284.out) hb); have n1_ := zA (blk_below (g := gb285) (o := .cells #[.int .i64 a1_0, .int .i64 a1_1] 52 (0, 0)) (zqB BK285.out) hb); have n2_ := zA (blk_below (g := gb291) (o := .cells #[.int .i64 t286, .int .i64 t287] 55 (0, 0)) (zqB BK291.out) hb); have n3_ := zA (blk_below (g := gb292) (o := .cells #[.int .i64 t288, .int .i64 t289] 55 (0, 0)) (zqB BK292.out) hb); have n4_ := zA (below_step (zqJ HB.out GE284.out GE285.out GE291.out GE292.out) hb); clear BK284; clear BK285; clear BK291; clear BK292; clear HB; have BK284 := n0_; have BK285 := n1_; have BK291 := n2_; have BK292 := n3_; have HB := n4_; clear n0_ n1_ n2_ n3_ n4_; (try clear hb); (try clear hb2); (try clear hk); (try clear hi); have hcz133_0 : w132.cell? ⟨gb292, 0, none⟩ = some (.int .i64 t288) := (blk_cell BK292.out 0).trans rfl; have hcz133_1 : w132.cell? ⟨gb292, 1, none⟩ = some (.int .i64 t289) := (blk_cell BK292.out 1).trans rfl; have hfz133_0 := blk_frozen BK292.out 0; have hfz133_1 := blk_frozen BK292.out 1))
          go_ret2
          exact ⟨_, zqR, by first | exact Kd.R_nil _ _ _ _ _ | exact Kd.N_nil _ _ _ _ _ | exact Kd.V_nil _ _ _ _ _ | exact Kd.Q_nil _ _ _ _ _ | exact Kd.S_nil _ _ _ _ _, zqJ HB.out GE284.out GE285.out GE291.out GE292.out⟩
         ·
          rw [if_neg c122] at H
          have c122b0 : (t289 == 0) = false := beq_eq_false_iff_ne.mpr c122
          have c122b1 : (t289 != 0) = true := bne_iff_ne.mpr c122
          have H' := zA H
          clear H
          have hnb134 := NB291_284.out
          have hnc134 := NB284_291.out
          have hnb135 := NB291_285.out
          have hnc135 := NB285_291.out
          have hnb136 := NB291_292.out
          have hnc136 := NB292_291.out
          have hcz137_0 : wr.cell? ⟨gb291, 0, none⟩ = some (.int .i64 t286) := (blk_cell BK291.out 0).trans rfl
          have hcz137_1 : wr.cell? ⟨gb291, 1, none⟩ = some (.int .i64 t287) := (blk_cell BK291.out 1).trans rfl
          have hfz137_0 := blk_frozen BK291.out 0
          have hfz137_1 := blk_frozen BK291.out 1
          have hnb138 := NB292_284.out
          have hnc138 := NB284_292.out
          have hnb139 := NB292_285.out
          have hnc139 := NB285_292.out
          have hcz140_0 : wr.cell? ⟨gb292, 0, none⟩ = some (.int .i64 t288) := (blk_cell BK292.out 0).trans rfl
          have hcz140_1 : wr.cell? ⟨gb292, 1, none⟩ = some (.int .i64 t289) := (blk_cell BK292.out 1).trans rfl
          have hfz140_0 := blk_frozen BK292.out 0
          have hfz140_1 := blk_frozen BK292.out 1
          have hnb141 := NB285_284.out
          have hnc141 := NB284_285.out
          have hcz142_0 : wr.cell? ⟨gb285, 0, none⟩ = some (.int .i64 a1_0) := (blk_cell BK285.out 0).trans rfl
          have hcz142_1 : wr.cell? ⟨gb285, 1, none⟩ = some (.int .i64 a1_1) := (blk_cell BK285.out 1).trans rfl
          have hfz142_0 := blk_frozen BK285.out 0
          have hfz142_1 := blk_frozen BK285.out 1
          go_wp2_with (first | ((with_reducible refine gate_callee (f := 75) rfl ?_); refine goesL_ (some 45) rfl rfl Try.func75 (by kernel_rfl) rfl #[.agg #[.int .i64 t286, .int .i64 t287], .agg #[.int .i64 t288, .int .i64 t289], .int .i64 (wrap64 (a1_1 - a1_0)), .int .i64 x9_2, .int .i64 (wrap64 (x9_2 - 1))] rfl zqE ?_; (with_reducible refine (pianolaref03_can.calls t286 t287 t288 t289 (wrap64 (a1_1 - a1_0)) x9_2 (wrap64 (x9_2 - 1)) false _ A34.out).mono ?_); rintro e w143 ⟨rfl, hb⟩; refine ⟨_, rfl, ?_⟩; have n0_ := zA (blk_below (g := gb284) (o := .cells #[.int .i64 a0_0, .int .i64 a0_1, .int .i64 a0_2, .int .i64 a0_3, .int .i64 a0_4] 58 (0, 0)) (zqB BK284.out) hb); have n1_ := zA (blk_below (g := gb285) (o := .cells #[.int .i64 a1_0, .int .i64 a1_1] 52 (0, 0)) (zqB BK285.out) hb); have n2_ := zA (blk_below (g := gb291) (o := .cells #[.int .i64 t286, .int .i64 t287] 55 (0, 0)) (zqB BK291.out) hb); have n3_ := zA (blk_below (g := gb292) (o := .cells #[.int .i64 t288, .int .i64 t289] 55 (0, 0)) (zqB BK292.out) hb); have n4_ := zA (below_step (zqJ HB.out GE284.out GE285.out GE291.out GE292.out) hb); clear BK284; clear BK285; clear BK291; clear BK292; clear HB; have BK284 := n0_; have BK285 := n1_; have BK291 := n2_; have BK292 := n3_; have HB := n4_; clear n0_ n1_ n2_ n3_ n4_; (try clear hb); (try clear hb2); (try clear hk); (try clear hi); have hcz144_0 : w143.cell? ⟨gb292, 0, none⟩ = some (.int .i64 t288) := (blk_cell BK292.out 0).trans rfl; have hcz144_1 : w143.cell? ⟨gb292, 1, none⟩ = some (.int .i64 t289) := (blk_cell BK292.out 1).trans rfl; have hfz144_0 := blk_frozen BK292.out 0; have hfz144_1 := blk_frozen BK292.out 1))
          go_roundg k2
          case measure => have := HJ4.out; have := HK2.out; omega
          case rel => exact ⟨(wrap64 (x9_2 + 1)), zqQ, H', ⟨by have := HJ4.out; have := HK2.out; omega⟩, ⟨zqB BK284.out⟩, ⟨zqB BK285.out⟩, ⟨zqB BK291.out⟩, ⟨zqB BK292.out⟩, ⟨zqJ HB.out GE284.out GE285.out GE291.out GE292.out⟩⟩
 ·
  rw [if_neg c4] at H
  have c4b0 : (t290 == 0) = false := beq_eq_false_iff_ne.mpr c4
  have c4b1 : (t290 != 0) = true := bne_iff_ne.mpr c4
  simp only [Option.some.injEq, Prod.mk.injEq] at H
  obtain ⟨rfl, rfl⟩ := H
  go_enter Try.func33, Try.ntmps33
  go_wp2_with (first | ((with_reducible refine gate_dst (N := 2) rfl ?_); refine box_event ?hg (N := 2) ?hd (cs := #[.int .i64 a0_0, .int .i64 a0_1, .int .i64 a0_2, .int .i64 a0_3, .int .i64 a0_4]) (t := 58) ?hr ?_; (case hd => rfl); (case hg => rfl); (case hr => first | (go_simp; done) | (go_simp; rfl)); intro gb284 hg w145 hbox hb; have n0_ := zA (below_step (zqA HB.out) hb); have n1_ := zA (hbox); have n2_ := zA ((by rw [hg]; exact (below_size (zqA HB.out)) : w.heap.size ≤ gb284)); have n3_ := zA ((by rw [hg]; exact (below_size (zqA HB.out)) : w.heap.size ≤ gb284)); clear HB; have HB := n0_; have BK284 := n1_; have GW284 := n2_; have GE284 := n3_; clear n0_ n1_ n2_ n3_; clear hb hbox hg) | ((with_reducible refine gate_dst (N := 3) rfl ?_); refine box_event ?hg (N := 3) ?hd (cs := #[.int .i64 a1_0, .int .i64 a1_1]) (t := 52) ?hr ?_; (case hd => rfl); (case hg => rfl); (case hr => first | (go_simp; done) | (go_simp; rfl)); intro gb285 hg w146 hbox hb; have n0_ := zA (blk_below (g := gb284) (o := .cells #[.int .i64 a0_0, .int .i64 a0_1, .int .i64 a0_2, .int .i64 a0_3, .int .i64 a0_4] 58 (0, 0)) (zqB BK284.out) hb); have n1_ := zA (below_step (zqG HB.out GE284.out) hb); have n2_ := zA (hbox); have n3_ := zA ((by rw [hg]; exact (below_size (zqG HB.out GE284.out)) : w.heap.size ≤ gb285)); have n4_ := zA ((by rw [hg]; exact (below_size (zqG HB.out GE284.out)) : w.heap.size ≤ gb285)); have n5_ := zA ((by rw [hg]; exact Nat.ne_of_lt (blk_lt (g := gb284) (o := .cells #[.int .i64 a0_0, .int .i64 a0_1, .int .i64 a0_2, .int .i64 a0_3, .int .i64 a0_4] 58 (0, 0)) (zqB BK284.out)) : gb284 ≠ gb285)); have n6_ := zA ((by rw [hg]; exact Nat.ne_of_gt (blk_lt (g := gb284) (o := .cells #[.int .i64 a0_0, .int .i64 a0_1, .int .i64 a0_2, .int .i64 a0_3, .int .i64 a0_4] 58 (0, 0)) (zqB BK284.out)) : gb285 ≠ gb284)); clear BK284; clear HB; have BK284 := n0_; have HB := n1_; have BK285 := n2_; have GW285 := n3_; have GE285 := n4_; have NB284_285 := n5_; have NB285_284 := n6_; clear n0_ n1_ n2_ n3_ n4_ n5_ n6_; clear hb hbox hg; have hnb147 := NB284_285.out; have hnc147 := NB285_284.out; have hcz148_0 : w146.cell? ⟨gb284, 0, none⟩ = some (.int .i64 a0_0) := (blk_cell BK284.out 0).trans rfl; have hcz148_1 : w146.cell? ⟨gb284, 1, none⟩ = some (.int .i64 a0_1) := (blk_cell BK284.out 1).trans rfl; have hcz148_2 : w146.cell? ⟨gb284, 2, none⟩ = some (.int .i64 a0_2) := (blk_cell BK284.out 2).trans rfl; have hcz148_3 : w146.cell? ⟨gb284, 3, none⟩ = some (.int .i64 a0_3) := (blk_cell BK284.out 3).trans rfl; have hcz148_4 : w146.cell? ⟨gb284, 4, none⟩ = some (.int .i64 a0_4) := (blk_cell BK284.out 4).trans rfl; have hfz148_0 := blk_frozen BK284.out 0; have hfz148_1 := blk_frozen BK284.out 1; have hfz148_2 := blk_frozen BK284.out 2; have hfz148_3 := blk_frozen BK284.out 3; have hfz148_4 := blk_frozen BK284.out 4) | ((with_reducible refine gate_callee (f := 31) rfl ?_); refine goesL_ (some 17) rfl rfl Try.func31 (by kernel_rfl) rfl #[.agg #[.int .i64 a0_0, .int .i64 a0_1, .int .i64 a0_2, .int .i64 a0_3, .int .i64 a0_4]] rfl zqE ?_; (with_reducible refine (pianolaref03_Bars.calls k a0_0 a0_1 a0_2 a0_3 a0_4 t286 t287 t288 t289 t290 _ A3.out).mono ?_); rintro e w149 ⟨rfl, hb⟩; refine ⟨_, rfl, ?_⟩; have n0_ := zA (blk_below (g := gb284) (o := .cells #[.int .i64 a0_0, .int .i64 a0_1, .int .i64 a0_2, .int .i64 a0_3, .int .i64 a0_4] 58 (0, 0)) (zqB BK284.out) hb); have n1_ := zA (blk_below (g := gb285) (o := .cells #[.int .i64 a1_0, .int .i64 a1_1] 52 (0, 0)) (zqB BK285.out) hb); have n2_ := zA (below_step (zqH HB.out GE284.out GE285.out) hb); clear BK284; clear BK285; clear HB; have BK284 := n0_; have BK285 := n1_; have HB := n2_; clear n0_ n1_ n2_; (try clear hb); (try clear hb2); (try clear hk); (try clear hi)) | ((with_reducible refine gate_dst (N := 6) rfl ?_); refine box_event ?hg (N := 6) ?hd (cs := #[.int .i64 0, .int .i64 0]) (t := 55) ?hr ?_; (case hd => rfl); (case hg => rfl); (case hr => first | (go_simp; done) | (go_simp; rfl)); intro gb291 hg w150 hbox hb; have n0_ := zA (blk_below (g := gb284) (o := .cells #[.int .i64 a0_0, .int .i64 a0_1, .int .i64 a0_2, .int .i64 a0_3, .int .i64 a0_4] 58 (0, 0)) (zqB BK284.out) hb); have n1_ := zA (blk_below (g := gb285) (o := .cells #[.int .i64 a1_0, .int .i64 a1_1] 52 (0, 0)) (zqB BK285.out) hb); have n2_ := zA (below_step (zqH HB.out GE284.out GE285.out) hb); have n3_ := zA (hbox); have n4_ := zA ((by rw [hg]; exact (below_size (zqH HB.out GE284.out GE285.out)) : w.heap.size ≤ gb291)); have n5_ := zA ((by rw [hg]; exact (below_size (zqH HB.out GE284.out GE285.out)) : w.heap.size ≤ gb291)); have n6_ := zA ((by rw [hg]; exact Nat.ne_of_lt (blk_lt (g := gb284) (o := .cells #[.int .i64 a0_0, .int .i64 a0_1, .int .i64 a0_2, .int .i64 a0_3, .int .i64 a0_4] 58 (0, 0)) (zqB BK284.out)) : gb284 ≠ gb291)); have n7_ := zA ((by rw [hg]; exact Nat.ne_of_gt (blk_lt (g := gb284) (o := .cells #[.int .i64 a0_0, .int .i64 a0_1, .int .i64 a0_2, .int .i64 a0_3, .int .i64 a0_4] 58 (0, 0)) (zqB BK284.out)) : gb291 ≠ gb284)); have n8_ := zA ((by rw [hg]; exact Nat.ne_of_lt (blk_lt (g := gb285) (o := .cells #[.int .i64 a1_0, .int .i64 a1_1] 52 (0, 0)) (zqB BK285.out)) : gb285 ≠ gb291)); have n9_ := zA ((by rw [hg]; exact Nat.ne_of_gt (blk_lt (g := gb285) (o := .cells #[.int .i64 a1_0, .int .i64 a1_1] 52 (0, 0)) (zqB BK285.out)) : gb291 ≠ gb285)); clear BK284; clear BK285; clear HB; have BK284 := n0_; have BK285 := n1_; have HB := n2_; have BK291 := n3_; have GW291 := n4_; have GE291 := n5_; have NB284_291 := n6_; have NB291_284 := n7_; have NB285_291 := n8_; have NB291_285 := n9_; clear n0_ n1_ n2_ n3_ n4_ n5_ n6_ n7_ n8_ n9_; clear hb hbox hg) | ((with_reducible refine gate_dst (N := 7) rfl ?_); refine box_event ?hg (N := 7) ?hd (cs := #[.int .i64 0, .int .i64 0]) (t := 55) ?hr ?_; (case hd => rfl); (case hg => rfl); (case hr => first | (go_simp; done) | (go_simp; rfl)); intro gb292 hg w151 hbox hb; have n0_ := zA (blk_below (g := gb284) (o := .cells #[.int .i64 a0_0, .int .i64 a0_1, .int .i64 a0_2, .int .i64 a0_3, .int .i64 a0_4] 58 (0, 0)) (zqB BK284.out) hb); have n1_ := zA (blk_below (g := gb285) (o := .cells #[.int .i64 a1_0, .int .i64 a1_1] 52 (0, 0)) (zqB BK285.out) hb); have n2_ := zA (blk_below (g := gb291) (o := .cells #[.int .i64 0, .int .i64 0] 55 (0, 0)) (zqB BK291.out) hb); have n3_ := zA (below_step (zqI HB.out GE284.out GE285.out GE291.out) hb); have n4_ := zA (hbox); have n5_ := zA ((by rw [hg]; exact (below_size (zqI HB.out GE284.out GE285.out GE291.out)) : w.heap.size ≤ gb292)); have n6_ := zA ((by rw [hg]; exact (below_size (zqI HB.out GE284.out GE285.out GE291.out)) : w.heap.size ≤ gb292)); have n7_ := zA ((by rw [hg]; exact Nat.ne_of_lt (blk_lt (g := gb284) (o := .cells #[.int .i64 a0_0, .int .i64 a0_1, .int .i64 a0_2, .int .i64 a0_3, .int .i64 a0_4] 58 (0, 0)) (zqB BK284.out)) : gb284 ≠ gb292)); have n8_ := zA ((by rw [hg]; exact Nat.ne_of_gt (blk_lt (g := gb284) (o := .cells #[.int .i64 a0_0, .int .i64 a0_1, .int .i64 a0_2, .int .i64 a0_3, .int .i64 a0_4] 58 (0, 0)) (zqB BK284.out)) : gb292 ≠ gb284)); have n9_ := zA ((by rw [hg]; exact Nat.ne_of_lt (blk_lt (g := gb285) (o := .cells #[.int .i64 a1_0, .int .i64 a1_1] 52 (0, 0)) (zqB BK285.out)) : gb285 ≠ gb292)); have n10_ := zA ((by rw [hg]; exact Nat.ne_of_gt (blk_lt (g := gb285) (o := .cells #[.int .i64 a1_0, .int .i64 a1_1] 52 (0, 0)) (zqB BK285.out)) : gb292 ≠ gb285)); have n11_ := zA ((by rw [hg]; exact Nat.ne_of_lt (blk_lt (g := gb291) (o := .cells #[.int .i64 0, .int .i64 0] 55 (0, 0)) (zqB BK291.out)) : gb291 ≠ gb292)); have n12_ := zA ((by rw [hg]; exact Nat.ne_of_gt (blk_lt (g := gb291) (o := .cells #[.int .i64 0, .int .i64 0] 55 (0, 0)) (zqB BK291.out)) : gb292 ≠ gb291)); clear BK284; clear BK285; clear BK291; clear HB; have BK284 := n0_; have BK285 := n1_; have BK291 := n2_; have HB := n3_; have BK292 := n4_; have GW292 := n5_; have GE292 := n6_; have NB284_292 := n7_; have NB292_284 := n8_; have NB285_292 := n9_; have NB292_285 := n10_; have NB291_292 := n11_; have NB292_291 := n12_; clear n0_ n1_ n2_ n3_ n4_ n5_ n6_ n7_ n8_ n9_ n10_ n11_ n12_; clear hb hbox hg; have hnb152 := NB291_284.out; have hnc152 := NB284_291.out; have hnb153 := NB291_285.out; have hnc153 := NB285_291.out; have hnb154 := NB291_292.out; have hnc154 := NB292_291.out; have hcz155_0 : w151.cell? ⟨gb291, 0, none⟩ = some (.int .i64 0) := (blk_cell BK291.out 0).trans rfl; have hcz155_1 : w151.cell? ⟨gb291, 1, none⟩ = some (.int .i64 0) := (blk_cell BK291.out 1).trans rfl; have hfz155_0 := blk_frozen BK291.out 0; have hfz155_1 := blk_frozen BK291.out 1; have hnb156 := NB292_284.out; have hnc156 := NB284_292.out; have hnb157 := NB292_285.out; have hnc157 := NB285_292.out; have hcz158_0 : w151.cell? ⟨gb292, 0, none⟩ = some (.int .i64 0) := (blk_cell BK292.out 0).trans rfl; have hcz158_1 : w151.cell? ⟨gb292, 1, none⟩ = some (.int .i64 0) := (blk_cell BK292.out 1).trans rfl; have hfz158_0 := blk_frozen BK292.out 0; have hfz158_1 := blk_frozen BK292.out 1))
  go_ret2
  exact ⟨_, zqR, by first | exact Kd.R_nil _ _ _ _ _ | exact Kd.N_nil _ _ _ _ _ | exact Kd.V_nil _ _ _ _ _ | exact Kd.Q_nil _ _ _ _ _ | exact Kd.S_nil _ _ _ _ _, zqJ HB.out GE284.out GE285.out GE291.out GE292.out⟩
def pianolalaw03_same.l0 : Nat → List (S47) → List (S52) → Int → Option (Bool)
  | 0, _, _, _ => none
  | k + 1, x0, x1, x5 => if x5 < (x0.length : Int) then (if 0 ≤ x5 then (if x5 < (x1.length : Int) then (if (!(((rd_T47 x0 x5).f0) == ((rd_T52 x1 x5).f0)) || (!(((rd_T47 x0 x5).f1) == ((rd_T52 x1 x5).f1)))) = true then (some false) else (pianolalaw03_same.l0 k x0 x1 (wrap64 (x5 + 1)))) else (none)) else (none)) else (some true)
def pianolalaw03_same.f (k : Nat) (l0 : List (S47)) (l1 : List (S52)) : Option (Bool) := if (l0.length : Int) = (l1.length : Int) then (pianolalaw03_same.l0 k l0 l1 0) else (some false)
set_option maxHeartbeats 8000000 in
set_option maxRecDepth 100000 in
theorem pianolalaw03_same.calls (k : Nat) (A0 : Option Addr) (c0 : Nat) (l0 : List (S47)) (A1 : Option Addr) (c1 : Nat) (l1 : List (S52)) (r : Bool) (w : World) (hr0 : Kd.C k47 w A0 l0.length l0) (hc0 : l0.length ≤ c0) (hr1 : Kd.C k52 w A1 l1.length l1) (hc1 : l1.length ≤ c1) (h : pianolalaw03_same.f k l0 l1 = some r) :
  Calls Try.prog 34 #[.slice A0 l0.length c0, .slice A1 l1.length c1] w fun e w' => e = .returned (.bool r) ∧ Drawn0 w w' := by
 have hu47 := Try.underlying47
 have hu52 := Try.underlying52
 have HR0 := zA hr0
 have HC0 := zA hc0
 clear hr0 hc0
 have HR1 := zA hr1
 have HC1 := zA hc1
 clear hr1 hc1
 have H : (if (l0.length : Int) = (l1.length : Int) then (pianolalaw03_same.l0 k l0 l1 0) else (some false)) = some r := h
 clear h
 by_cases c3 : (l0.length : Int) = (l1.length : Int)
 ·
  rw [if_pos c3] at H
  have c3b0 : ((l0.length : Int) == (l1.length : Int)) = true := beq_iff_eq.mpr c3
  have c3b1 : ((l0.length : Int) != (l1.length : Int)) = false := bne_eq_false_iff_eq.mpr c3
  have c3b2 : (l0.length == l1.length) = true := by first | simpa using c3 | (simp at c3 ⊢; omega)
  clear c3
  have H' := zA H
  clear H
  go_enter Try.func34, Try.ntmps34
  go_wp2
  (first | (refine wp_region_still_tail 8 (by kernel_rfl) (by kernel_rfl) ?_; simp only [List.take_succ_cons, List.take_zero, List.drop_succ_cons, List.drop_zero]; change wpStill _ _ (World.drew _) (fun a' => wpList _ _ _ _ a' (World.drew _)) _ _; (repeat still_step); refine wpStill_nil ?_; go_wp2) | skip)
  go_loopg [5] k (fun kq v5 w' => ∃ (x5_1 : Int), v5 = .int .i64 x5_1 ∧ Aside0 (pianolalaw03_same.l0 kq l0 l1 x5_1 = some r) ∧ Aside0 (kq ≤ k) ∧ Drawn0 w w')
  case atStart => exact ⟨(0), zqQ, H', ⟨Nat.le_refl _⟩, by repeat (first | exact Drawn0.refl _ | apply Drawn0.step)⟩
  case round =>
   clear H'
   try clear c1
   try clear p2
   try clear c3
   try clear c3b0
   try clear c3b1
   try clear c3b2
   obtain ⟨x5_1, rfl, HA, HK1, ⟨m1, rfl⟩⟩ := hrel
   cases gk with
   | zero => exact absurd HA.out (by simp [pianolalaw03_same.l0])
   | succ k1 =>
    have H := HA.out
    clear HA
    simp only [pianolalaw03_same.l0] at H
    by_cases c4 : x5_1 < (l0.length : Int)
    ·
     rw [if_pos c4] at H
     have c4b0 : decide (x5_1 < (l0.length : Int)) = true := decide_eq_true c4
     clear c4
     by_cases c5 : 0 ≤ x5_1
     ·
      rw [if_pos c5] at H
      have c5b0 : decide (0 ≤ x5_1) = true := decide_eq_true c5
      clear c5
      by_cases c6 : x5_1 < (l1.length : Int)
      ·
       rw [if_pos c6] at H
       have c6b0 : decide (x5_1 < (l1.length : Int)) = true := decide_eq_true c6
       clear c6
       by_cases c7 : (!(((rd_T47 l0 x5_1).f0) == ((rd_T52 l1 x5_1).f0)) || (!(((rd_T47 l0 x5_1).f1) == ((rd_T52 l1 x5_1).f1)))) = true
       ·
        rw [if_pos c7] at H
        have c7b0 : (!(((rd_T47 l0 x5_1).f0) == ((rd_T52 l1 x5_1).f0)) || (!(((rd_T47 l0 x5_1).f1) == ((rd_T52 l1 x5_1).f1)))) = true := c7
        clear c7
        obtain rfl := Option.some.inj H
        have p300 : 0 ≤ (x5_1 : Int) := of_decide_eq_true (zqD)
        have q300 : x5_1 < (l0.length : Int) := of_decide_eq_true (zqD)
        obtain ⟨ad300, e300, hx300_0, hx300_1⟩ := at_T47 HR0.out x5_1 p300 q300
        cases e300; replace p300 := eq_true p300; replace q300 := eq_true q300
        have p301 : 0 ≤ (x5_1 : Int) := of_decide_eq_true (zqD)
        have q301 : x5_1 < (l1.length : Int) := of_decide_eq_true (zqD)
        obtain ⟨ad301, e301, hx301_0, hx301_1⟩ := at_T52 HR1.out x5_1 p301 q301
        cases e301; replace p301 := eq_true p301; replace q301 := eq_true q301
        by_cases hq8 : ((rd_T47 l0 x5_1).f0) = ((rd_T52 l1 x5_1).f0)
        all_goals (have hq9 : ¬ (((rd_T47 l0 x5_1).f0) = ((rd_T52 l1 x5_1).f0) ∧ ((rd_T47 l0 x5_1).f1) = ((rd_T52 l1 x5_1).f1)) := (fun hh => by simp [hh.1, hh.2] at c7b0); (try (have hq10 : ¬ (((rd_T47 l0 x5_1).f1) = ((rd_T52 l1 x5_1).f1)) := fun e => hq9 ⟨hq8, e⟩)); clear hq9 c7b0; go_wp2)
        all_goals (first | (refine wp_region_still_tail 8 (by kernel_rfl) (by kernel_rfl) ?_; simp only [List.take_succ_cons, List.take_zero, List.drop_succ_cons, List.drop_zero]; change wpStill _ _ (World.drew _) (fun a' => wpList _ _ _ _ a' (World.drew _)) _ _; (repeat still_step); refine wpStill_nil ?_; go_wp2) | skip)
        all_goals go_ret
        all_goals exact ⟨by first | rfl | (simp; done) | (simp [*]; done), by repeat (first | exact Drawn0.refl _ | apply Drawn0.step)⟩
       ·
        rw [if_neg c7] at H
        have c7b0 : (!(((rd_T47 l0 x5_1).f0) == ((rd_T52 l1 x5_1).f0)) || (!(((rd_T47 l0 x5_1).f1) == ((rd_T52 l1 x5_1).f1)))) = false := by simpa using c7
        have hq7 := c7b0
        simp only [Bool.or_eq_false_iff, Bool.not_eq_false', beq_iff_eq] at hq7
        clear c7
        have H' := zA H
        clear H
        have p300 : 0 ≤ (x5_1 : Int) := of_decide_eq_true (zqD)
        have q300 : x5_1 < (l0.length : Int) := of_decide_eq_true (zqD)
        obtain ⟨ad300, e300, hx300_0, hx300_1⟩ := at_T47 HR0.out x5_1 p300 q300
        cases e300; replace p300 := eq_true p300; replace q300 := eq_true q300
        have p301 : 0 ≤ (x5_1 : Int) := of_decide_eq_true (zqD)
        have q301 : x5_1 < (l1.length : Int) := of_decide_eq_true (zqD)
        obtain ⟨ad301, e301, hx301_0, hx301_1⟩ := at_T52 HR1.out x5_1 p301 q301
        cases e301; replace p301 := eq_true p301; replace q301 := eq_true q301
        rw [hq7.1] at hx300_0
        rw [hq7.2] at hx300_1
        go_wp2
        (first | (refine wp_region_still_tail 8 (by kernel_rfl) (by kernel_rfl) ?_; simp only [List.take_succ_cons, List.take_zero, List.drop_succ_cons, List.drop_zero]; change wpStill _ _ (World.drew _) (fun a' => wpList _ _ _ _ a' (World.drew _)) _ _; (repeat still_step); refine wpStill_nil ?_; go_wp2) | skip)
        go_roundg k1
        case measure => have := HK1.out; omega
        case rel => exact ⟨(wrap64 (x5_1 + 1)), zqQ, H', ⟨by have := HK1.out; omega⟩, by repeat (first | exact Drawn0.refl _ | apply Drawn0.step)⟩
      ·
       rw [if_neg c6] at H
       exact absurd H (by simp)
     ·
      rw [if_neg c5] at H
      exact absurd H (by simp)
    ·
     rw [if_neg c4] at H
     have c4b0 : decide (x5_1 < (l0.length : Int)) = false := decide_eq_false c4
     clear c4
     obtain rfl := Option.some.inj H
     go_wp2
     (first | (refine wp_region_still_tail 8 (by kernel_rfl) (by kernel_rfl) ?_; simp only [List.take_succ_cons, List.take_zero, List.drop_succ_cons, List.drop_zero]; change wpStill _ _ (World.drew _) (fun a' => wpList _ _ _ _ a' (World.drew _)) _ _; (repeat still_step); refine wpStill_nil ?_; go_wp2) | skip)
     all_goals go_ret
     all_goals exact ⟨by first | rfl | (simp; done) | (simp [*]; done), by repeat (first | exact Drawn0.refl _ | apply Drawn0.step)⟩
 ·
  rw [if_neg c3] at H
  have c3b0 : ((l0.length : Int) == (l1.length : Int)) = false := beq_eq_false_iff_ne.mpr c3
  have c3b1 : ((l0.length : Int) != (l1.length : Int)) = true := bne_iff_ne.mpr c3
  have c3b2 : (l0.length == l1.length) = false := by first | simpa using c3 | (simp at c3 ⊢; omega)
  obtain rfl := Option.some.inj H
  go_enter Try.func34, Try.ntmps34
  go_wp2
  (first | (refine wp_region_still_tail 8 (by kernel_rfl) (by kernel_rfl) ?_; simp only [List.take_succ_cons, List.take_zero, List.drop_succ_cons, List.drop_zero]; change wpStill _ _ (World.drew _) (fun a' => wpList _ _ _ _ a' (World.drew _)) _ _; (repeat still_step); refine wpStill_nil ?_; go_wp2) | skip)
  all_goals go_ret
  all_goals exact ⟨by first | rfl | (simp; done) | (simp [*]; done), by repeat (first | exact Drawn0.refl _ | apply Drawn0.step)⟩
end Go.Proofs.Ytegffliopblajaa.P
end
section
namespace Go.Proofs.Ytegffliopblajaa.P
open Go.RowKit Go.Proofs.YtegffliopblajaaW.PrintWords Go.Proofs.YtegffliopblajaaW.PrintLast Go.Proofs.YtegffliopblajaaW.PrintMore
attribute [local go_sem] max2_int min2_int max_two min_two max_three min_three max_four min_four
set_option linter.unusedVariables false
set_option linter.unusedSimpArgs false
def pianolalaw03_PunchBars.f (k : Nat) (a0_0 : Int) (a0_1 : Int) (a0_2 : Int) (a0_3 : Int) (a0_4 : Int) (a1_0 : Int) (a1_1 : Int) : Option (Bool) := (punch_Bars.f a0_0 a0_1 a0_2 a0_3 a0_4).bind fun bt305 => ((pianolaref03_Bars.f k a0_0 a0_1 a0_2 a0_3 a0_4).bind fun bt312 => ((punch_Bridge.f k a0_0 a0_1 a0_2 a0_3 a0_4 a1_0 a1_1).bind fun bt319 => ((pianolaref03_Bridge.f k a0_0 a0_1 a0_2 a0_3 a0_4 a1_0 a1_1).bind fun bt323 => (if (bt305.1 == bt312.1 && (bt305.2.1 == bt312.2.1)) = true then (if (bt305.2.2.1 == bt312.2.2.1 && (bt305.2.2.2.1 == bt312.2.2.2.1)) = true then (if bt305.2.2.2.2 = bt312.2.2.2.2 then ((pianolalaw03_same.f k bt319.1 bt323.1).bind fun t327 => (if t327 = true then (if bt319.2 = bt323.2 then ((pianolalaw03_works.f).bind fun t328 => (some t328)) else (some false)) else (some false))) else (some false)) else (some false)) else (some false)))))
set_option maxHeartbeats 8000000 in
set_option maxRecDepth 100000 in
theorem pianolalaw03_PunchBars.calls (k : Nat) (a0_0 : Int) (a0_1 : Int) (a0_2 : Int) (a0_3 : Int) (a0_4 : Int) (a1_0 : Int) (a1_1 : Int) (r : Bool) (hrt : r = true) (w : World) (h : pianolalaw03_PunchBars.f k a0_0 a0_1 a0_2 a0_3 a0_4 a1_0 a1_1 = some r) :
  Calls Try.prog 6 #[.agg #[.int .i64 a0_0, .int .i64 a0_1, .int .i64 a0_2, .int .i64 a0_3, .int .i64 a0_4], .agg #[.int .i64 a1_0, .int .i64 a1_1]] w fun e w' => e = .returned (.bool r) ∧ Below w.heap.size w w' := by
 have HRT := zA hrt
 clear hrt
 have hu57 := Try.underlying57
 have hu47 := Try.underlying47
 have hu58 := Try.underlying58
 have hu55 := Try.underlying55
 have HB := zA (Below.refl w.heap.size w)
 have H : ((punch_Bars.f a0_0 a0_1 a0_2 a0_3 a0_4).bind fun bt305 => ((pianolaref03_Bars.f k a0_0 a0_1 a0_2 a0_3 a0_4).bind fun bt312 => ((punch_Bridge.f k a0_0 a0_1 a0_2 a0_3 a0_4 a1_0 a1_1).bind fun bt319 => ((pianolaref03_Bridge.f k a0_0 a0_1 a0_2 a0_3 a0_4 a1_0 a1_1).bind fun bt323 => (if (bt305.1 == bt312.1 && (bt305.2.1 == bt312.2.1)) = true then (if (bt305.2.2.1 == bt312.2.2.1 && (bt305.2.2.2.1 == bt312.2.2.2.1)) = true then (if bt305.2.2.2.2 = bt312.2.2.2.2 then ((pianolalaw03_same.f k bt319.1 bt323.1).bind fun t327 => (if t327 = true then (if bt319.2 = bt323.2 then ((pianolalaw03_works.f).bind fun t328 => (some t328)) else (some false)) else (some false))) else (some false)) else (some false)) else (some false)))))) = some r := h
 clear h
 replace H := Option.bind_eq_some_iff.mp H
 obtain ⟨⟨t305, t306, t307, t308, t309⟩, A30, H⟩ := H
 replace H : ((pianolaref03_Bars.f k a0_0 a0_1 a0_2 a0_3 a0_4).bind fun bt312 => ((punch_Bridge.f k a0_0 a0_1 a0_2 a0_3 a0_4 a1_0 a1_1).bind fun bt319 => ((pianolaref03_Bridge.f k a0_0 a0_1 a0_2 a0_3 a0_4 a1_0 a1_1).bind fun bt323 => (if (t305 == bt312.1 && (t306 == bt312.2.1)) = true then (if (t307 == bt312.2.2.1 && (t308 == bt312.2.2.2.1)) = true then (if t309 = bt312.2.2.2.2 then ((pianolalaw03_same.f k bt319.1 bt323.1).bind fun t327 => (if t327 = true then (if bt319.2 = bt323.2 then ((pianolalaw03_works.f).bind fun t328 => (some t328)) else (some false)) else (some false))) else (some false)) else (some false)) else (some false))))) = some r := H
 have A3 := zA A30
 clear A30
 replace H := Option.bind_eq_some_iff.mp H
 obtain ⟨⟨t312, t313, t314, t315, t316⟩, A40, H⟩ := H
 replace H : ((punch_Bridge.f k a0_0 a0_1 a0_2 a0_3 a0_4 a1_0 a1_1).bind fun bt319 => ((pianolaref03_Bridge.f k a0_0 a0_1 a0_2 a0_3 a0_4 a1_0 a1_1).bind fun bt323 => (if (t305 == t312 && (t306 == t313)) = true then (if (t307 == t314 && (t308 == t315)) = true then (if t309 = t316 then ((pianolalaw03_same.f k bt319.1 bt323.1).bind fun t327 => (if t327 = true then (if bt319.2 = bt323.2 then ((pianolalaw03_works.f).bind fun t328 => (some t328)) else (some false)) else (some false))) else (some false)) else (some false)) else (some false)))) = some r := H
 have A4 := zA A40
 clear A40
 replace H := Option.bind_eq_some_iff.mp H
 obtain ⟨⟨t319, t322⟩, A50, H⟩ := H
 replace H : ((pianolaref03_Bridge.f k a0_0 a0_1 a0_2 a0_3 a0_4 a1_0 a1_1).bind fun bt323 => (if (t305 == t312 && (t306 == t313)) = true then (if (t307 == t314 && (t308 == t315)) = true then (if t309 = t316 then ((pianolalaw03_same.f k t319 bt323.1).bind fun t327 => (if t327 = true then (if t322 = bt323.2 then ((pianolalaw03_works.f).bind fun t328 => (some t328)) else (some false)) else (some false))) else (some false)) else (some false)) else (some false))) = some r := H
 have A5 := zA A50
 clear A50
 replace H := Option.bind_eq_some_iff.mp H
 obtain ⟨⟨t323, t326⟩, A60, H⟩ := H
 replace H : (if (t305 == t312 && (t306 == t313)) = true then (if (t307 == t314 && (t308 == t315)) = true then (if t309 = t316 then ((pianolalaw03_same.f k t319 t323).bind fun t327 => (if t327 = true then (if t322 = t326 then ((pianolalaw03_works.f).bind fun t328 => (some t328)) else (some false)) else (some false))) else (some false)) else (some false)) else (some false)) = some r := H
 have A6 := zA A60
 clear A60
 by_cases c7 : (t305 == t312 && (t306 == t313)) = true
 ·
  rw [if_pos c7] at H
  have c7b0 : (t305 == t312 && (t306 == t313)) = true := c7
  have Qc7 : Aside0 (t305 = t312 ∧ t306 = t313) := ⟨by simpa using c7b0⟩
  (try (have c7b1 : decide (t305 = t312 && (t306 == t313)) = true := by simpa using c7))
  (try (have c7b2 : (t305 == t312 && (t306 == t313)) = true := by simpa using c7))
  clear c7
  by_cases c8 : (t307 == t314 && (t308 == t315)) = true
  ·
   rw [if_pos c8] at H
   have c8b0 : (t307 == t314 && (t308 == t315)) = true := c8
   have Qc8 : Aside0 (t307 = t314 ∧ t308 = t315) := ⟨by simpa using c8b0⟩
   (try (have c8b1 : decide (t307 = t314 && (t308 == t315)) = true := by simpa using c8))
   (try (have c8b2 : (t307 == t314 && (t308 == t315)) = true := by simpa using c8))
   clear c8
   by_cases c9 : t309 = t316
   ·
    rw [if_pos c9] at H
    have c9b0 : (t309 == t316) = true := beq_iff_eq.mpr c9
    have c9b1 : (t309 != t316) = false := bne_eq_false_iff_eq.mpr c9
    clear c9
    replace H := Option.bind_eq_some_iff.mp H
    obtain ⟨t327, A100, H⟩ := H
    replace H : (if t327 = true then (if t322 = t326 then ((pianolalaw03_works.f).bind fun t328 => (some t328)) else (some false)) else (some false)) = some r := H
    have A10 := zA A100
    clear A100
    by_cases c11 : t327 = true
    ·
     subst c11
     have H1 : (if t322 = t326 then ((pianolalaw03_works.f).bind fun t328 => (some t328)) else (some false)) = some r := by rw [if_pos rfl] at H; exact H
     clear H; have H := H1; clear H1
     by_cases c12 : t322 = t326
     ·
      rw [if_pos c12] at H
      have c12b0 : (t322 == t326) = true := beq_iff_eq.mpr c12
      have c12b1 : (t322 != t326) = false := bne_eq_false_iff_eq.mpr c12
      clear c12
      replace H := Option.bind_eq_some_iff.mp H
      obtain ⟨t328, A130, H⟩ := H
      replace H : (some t328) = some r := H
      have A13 := zA A130
      clear A130
      obtain rfl := Option.some.inj H
      go_enter Try.func6, Try.ntmps6
      go_wp2_with (first | ((with_reducible refine gate_dst (N := 2) rfl ?_); refine box_event ?hg (N := 2) ?hd (cs := #[.int .i64 a0_0, .int .i64 a0_1, .int .i64 a0_2, .int .i64 a0_3, .int .i64 a0_4]) (t := 57) ?hr ?_; (case hd => rfl); (case hg => rfl); (case hr => first | (go_simp; done) | (go_simp; rfl)); intro gb302 hg w14 hbox hb; have n0_ := zA (below_step (zqA HB.out) hb); have n1_ := zA (hbox); have n2_ := zA ((by rw [hg]; exact (below_size (zqA HB.out)) : w.heap.size ≤ gb302)); have n3_ := zA ((by rw [hg]; exact (below_size (zqA HB.out)) : w.heap.size ≤ gb302)); clear HB; have HB := n0_; have BK302 := n1_; have GW302 := n2_; have GE302 := n3_; clear n0_ n1_ n2_ n3_; clear hb hbox hg) | ((with_reducible refine gate_dst (N := 3) rfl ?_); refine box_event ?hg (N := 3) ?hd (cs := #[.int .i64 a1_0, .int .i64 a1_1]) (t := 47) ?hr ?_; (case hd => rfl); (case hg => rfl); (case hr => first | (go_simp; done) | (go_simp; rfl)); intro gb303 hg w15 hbox hb; have n0_ := zA (blk_below (g := gb302) (o := .cells #[.int .i64 a0_0, .int .i64 a0_1, .int .i64 a0_2, .int .i64 a0_3, .int .i64 a0_4] 57 (0, 0)) (zqB BK302.out) hb); have n1_ := zA (below_step (zqG HB.out GE302.out) hb); have n2_ := zA (hbox); have n3_ := zA ((by rw [hg]; exact (below_size (zqG HB.out GE302.out)) : w.heap.size ≤ gb303)); have n4_ := zA ((by rw [hg]; exact (below_size (zqG HB.out GE302.out)) : w.heap.size ≤ gb303)); have n5_ := zA ((by rw [hg]; exact Nat.ne_of_lt (blk_lt (g := gb302) (o := .cells #[.int .i64 a0_0, .int .i64 a0_1, .int .i64 a0_2, .int .i64 a0_3, .int .i64 a0_4] 57 (0, 0)) (zqB BK302.out)) : gb302 ≠ gb303)); have n6_ := zA ((by rw [hg]; exact Nat.ne_of_gt (blk_lt (g := gb302) (o := .cells #[.int .i64 a0_0, .int .i64 a0_1, .int .i64 a0_2, .int .i64 a0_3, .int .i64 a0_4] 57 (0, 0)) (zqB BK302.out)) : gb303 ≠ gb302)); clear BK302; clear HB; have BK302 := n0_; have HB := n1_; have BK303 := n2_; have GW303 := n3_; have GE303 := n4_; have NB302_303 := n5_; have NB303_302 := n6_; clear n0_ n1_ n2_ n3_ n4_ n5_ n6_; clear hb hbox hg; have hnb16 := NB302_303.out; have hnc16 := NB303_302.out; have hcz17_0 : w15.cell? ⟨gb302, 0, none⟩ = some (.int .i64 a0_0) := (blk_cell BK302.out 0).trans rfl; have hcz17_1 : w15.cell? ⟨gb302, 1, none⟩ = some (.int .i64 a0_1) := (blk_cell BK302.out 1).trans rfl; have hcz17_2 : w15.cell? ⟨gb302, 2, none⟩ = some (.int .i64 a0_2) := (blk_cell BK302.out 2).trans rfl; have hcz17_3 : w15.cell? ⟨gb302, 3, none⟩ = some (.int .i64 a0_3) := (blk_cell BK302.out 3).trans rfl; have hcz17_4 : w15.cell? ⟨gb302, 4, none⟩ = some (.int .i64 a0_4) := (blk_cell BK302.out 4).trans rfl; have hfz17_0 := blk_frozen BK302.out 0; have hfz17_1 := blk_frozen BK302.out 1; have hfz17_2 := blk_frozen BK302.out 2; have hfz17_3 := blk_frozen BK302.out 3; have hfz17_4 := blk_frozen BK302.out 4) | ((with_reducible refine gate_dst (N := 5) rfl ?_); refine box_event ?hg (N := 5) ?hd (cs := #[.int .i64 0, .int .i64 0, .int .i64 0, .int .i64 0, .int .i64 0]) (t := 58) ?hr ?_; (case hd => rfl); (case hg => rfl); (case hr => first | (go_simp; done) | (go_simp; rfl)); intro gb304 hg w18 hbox hb; have n0_ := zA (blk_below (g := gb302) (o := .cells #[.int .i64 a0_0, .int .i64 a0_1, .int .i64 a0_2, .int .i64 a0_3, .int .i64 a0_4] 57 (0, 0)) (zqB BK302.out) hb); have n1_ := zA (blk_below (g := gb303) (o := .cells #[.int .i64 a1_0, .int .i64 a1_1] 47 (0, 0)) (zqB BK303.out) hb); have n2_ := zA (below_step (zqH HB.out GE302.out GE303.out) hb); have n3_ := zA (hbox); have n4_ := zA ((by rw [hg]; exact (below_size (zqH HB.out GE302.out GE303.out)) : w.heap.size ≤ gb304)); have n5_ := zA ((by rw [hg]; exact (below_size (zqH HB.out GE302.out GE303.out)) : w.heap.size ≤ gb304)); have n6_ := zA ((by rw [hg]; exact Nat.ne_of_lt (blk_lt (g := gb302) (o := .cells #[.int .i64 a0_0, .int .i64 a0_1, .int .i64 a0_2, .int .i64 a0_3, .int .i64 a0_4] 57 (0, 0)) (zqB BK302.out)) : gb302 ≠ gb304)); have n7_ := zA ((by rw [hg]; exact Nat.ne_of_gt (blk_lt (g := gb302) (o := .cells #[.int .i64 a0_0, .int .i64 a0_1, .int .i64 a0_2, .int .i64 a0_3, .int .i64 a0_4] 57 (0, 0)) (zqB BK302.out)) : gb304 ≠ gb302)); have n8_ := zA ((by rw [hg]; exact Nat.ne_of_lt (blk_lt (g := gb303) (o := .cells #[.int .i64 a1_0, .int .i64 a1_1] 47 (0, 0)) (zqB BK303.out)) : gb303 ≠ gb304)); have n9_ := zA ((by rw [hg]; exact Nat.ne_of_gt (blk_lt (g := gb303) (o := .cells #[.int .i64 a1_0, .int .i64 a1_1] 47 (0, 0)) (zqB BK303.out)) : gb304 ≠ gb303)); clear BK302; clear BK303; clear HB; have BK302 := n0_; have BK303 := n1_; have HB := n2_; have BK304 := n3_; have GW304 := n4_; have GE304 := n5_; have NB302_304 := n6_; have NB304_302 := n7_; have NB303_304 := n8_; have NB304_303 := n9_; clear n0_ n1_ n2_ n3_ n4_ n5_ n6_ n7_ n8_ n9_; clear hb hbox hg; have hnb19 := NB304_302.out; have hnc19 := NB302_304.out; have hnb20 := NB304_303.out; have hnc20 := NB303_304.out; have hcz21_0 : w18.cell? ⟨gb304, 0, none⟩ = some (.int .i64 0) := (blk_cell BK304.out 0).trans rfl; have hcz21_1 : w18.cell? ⟨gb304, 1, none⟩ = some (.int .i64 0) := (blk_cell BK304.out 1).trans rfl; have hcz21_2 : w18.cell? ⟨gb304, 2, none⟩ = some (.int .i64 0) := (blk_cell BK304.out 2).trans rfl; have hcz21_3 : w18.cell? ⟨gb304, 3, none⟩ = some (.int .i64 0) := (blk_cell BK304.out 3).trans rfl; have hcz21_4 : w18.cell? ⟨gb304, 4, none⟩ = some (.int .i64 0) := (blk_cell BK304.out 4).trans rfl; have hfz21_0 := blk_frozen BK304.out 0; have hfz21_1 := blk_frozen BK304.out 1; have hfz21_2 := blk_frozen BK304.out 2; have hfz21_3 := blk_frozen BK304.out 3; have hfz21_4 := blk_frozen BK304.out 4; have hcz22_0 : w18.cell? ⟨gb302, 0, none⟩ = some (.int .i64 a0_0) := (blk_cell BK302.out 0).trans rfl; have hcz22_1 : w18.cell? ⟨gb302, 1, none⟩ = some (.int .i64 a0_1) := (blk_cell BK302.out 1).trans rfl; have hcz22_2 : w18.cell? ⟨gb302, 2, none⟩ = some (.int .i64 a0_2) := (blk_cell BK302.out 2).trans rfl; have hcz22_3 : w18.cell? ⟨gb302, 3, none⟩ = some (.int .i64 a0_3) := (blk_cell BK302.out 3).trans rfl; have hcz22_4 : w18.cell? ⟨gb302, 4, none⟩ = some (.int .i64 a0_4) := (blk_cell BK302.out 4).trans rfl; have hfz22_0 := blk_frozen BK302.out 0; have hfz22_1 := blk_frozen BK302.out 1; have hfz22_2 := blk_frozen BK302.out 2; have hfz22_3 := blk_frozen BK302.out 3; have hfz22_4 := blk_frozen BK302.out 4) | ((with_reducible refine gate_callee (f := 30) rfl ?_); refine goesL_ (some 19) rfl rfl Try.func30 (by kernel_rfl) rfl #[.agg #[.int .i64 a0_0, .int .i64 a0_1, .int .i64 a0_2, .int .i64 a0_3, .int .i64 a0_4]] rfl zqE ?_; (with_reducible refine (punch_Bars.calls a0_0 a0_1 a0_2 a0_3 a0_4 t305 t306 t307 t308 t309 _ A3.out).mono ?_); rintro e w23 ⟨rfl, hb⟩; refine ⟨_, rfl, ?_⟩; have n0_ := zA (blk_below (g := gb302) (o := .cells #[.int .i64 a0_0, .int .i64 a0_1, .int .i64 a0_2, .int .i64 a0_3, .int .i64 a0_4] 57 (0, 0)) (by (with_reducible repeat (first | refine blk_drewN ?_ _ | refine blk_drew ?_ | refine blk_alloc ?_ _)); refine blk_far ?_ NB302_304.out _; (with_reducible repeat (first | refine blk_drewN ?_ _ | refine blk_drew ?_ | refine blk_alloc ?_ _)); refine blk_far ?_ NB302_304.out _; (with_reducible repeat (first | refine blk_drewN ?_ _ | refine blk_drew ?_ | refine blk_alloc ?_ _)); refine blk_far ?_ NB302_304.out _; (with_reducible repeat (first | refine blk_drewN ?_ _ | refine blk_drew ?_ | refine blk_alloc ?_ _)); refine blk_far ?_ NB302_304.out _; (with_reducible repeat (first | refine blk_drewN ?_ _ | refine blk_drew ?_ | refine blk_alloc ?_ _)); refine blk_far ?_ NB302_304.out _; (with_reducible repeat (first | refine blk_drewN ?_ _ | refine blk_drew ?_ | refine blk_alloc ?_ _)); exact BK302.out) hb); have n1_ := zA (blk_below (g := gb303) (o := .cells #[.int .i64 a1_0, .int .i64 a1_1] 47 (0, 0)) (by (with_reducible repeat (first | refine blk_drewN ?_ _ | refine blk_drew ?_ | refine blk_alloc ?_ _)); refine blk_far ?_ NB303_304.out _; (with_reducible repeat (first | refine blk_drewN ?_ _ | refine blk_drew ?_ | refine blk_alloc ?_ _)); refine blk_far ?_ NB303_304.out _; (with_reducible repeat (first | refine blk_drewN ?_ _ | refine blk_drew ?_ | refine blk_alloc ?_ _)); refine blk_far ?_ NB303_304.out _; (with_reducible repeat (first | refine blk_drewN ?_ _ | refine blk_drew ?_ | refine blk_alloc ?_ _)); refine blk_far ?_ NB303_304.out _; (with_reducible repeat (first | refine blk_drewN ?_ _ | refine blk_drew ?_ | refine blk_alloc ?_ _)); refine blk_far ?_ NB303_304.out _; (with_reducible repeat (first | refine blk_drewN ?_ _ | refine blk_drew ?_ | refine blk_alloc ?_ _)); exact BK303.out) hb); have n2_ := zA (blk_below (g := gb304) (o := .cells #[.int .i64 a0_0, .int .i64 a0_1, .int .i64 a0_2, .int .i64 a0_3, .int .i64 a0_4] 58 (0, 0)) (by (with_reducible repeat (first | refine blk_drewN ?_ _ | refine blk_drew ?_ | refine blk_alloc ?_ _)); refine blk_put (cs := #[.int .i64 a0_0, .int .i64 a0_1, .int .i64 a0_2, .int .i64 a0_3, .int .i64 0]) ?_ 4 _ rfl; (with_reducible repeat (first | refine blk_drewN ?_ _ | refine blk_drew ?_ | refine blk_alloc ?_ _)); refine blk_put (cs := #[.int .i64 a0_0, .int .i64 a0_1, .int .i64 a0_2, .int .i64 0, .int .i64 0]) ?_ 3 _ rfl; (with_reducible repeat (first | refine blk_drewN ?_ _ | refine blk_drew ?_ | refine blk_alloc ?_ _)); refine blk_put (cs := #[.int .i64 a0_0, .int .i64 a0_1, .int .i64 0, .int .i64 0, .int .i64 0]) ?_ 2 _ rfl; (with_reducible repeat (first | refine blk_drewN ?_ _ | refine blk_drew ?_ | refine blk_alloc ?_ _)); refine blk_put (cs := #[.int .i64 a0_0, .int .i64 0, .int .i64 0, .int .i64 0, .int .i64 0]) ?_ 1 _ rfl; (with_reducible repeat (first | refine blk_drewN ?_ _ | refine blk_drew ?_ | refine blk_alloc ?_ _)); refine blk_put (cs := #[.int .i64 0, .int .i64 0, .int .i64 0, .int .i64 0, .int .i64 0]) ?_ 0 _ rfl; (with_reducible repeat (first | refine blk_drewN ?_ _ | refine blk_drew ?_ | refine blk_alloc ?_ _)); exact BK304.out) hb); have n3_ := zA (below_step (zqI HB.out GE302.out GE303.out GE304.out) hb); clear BK302; clear BK303; clear BK304; clear HB; have BK302 := n0_; have BK303 := n1_; have BK304 := n2_; have HB := n3_; clear n0_ n1_ n2_ n3_; (try clear hb); (try clear hb2); (try clear hk); (try clear hi)) | ((with_reducible refine gate_dst (N := 6) rfl ?_); refine box_event ?hg (N := 6) ?hd (cs := #[.int .i64 0, .int .i64 0]) (t := 55) ?hr ?_; (case hd => rfl); (case hg => rfl); (case hr => first | (go_simp; done) | (go_simp; rfl)); intro gb310 hg w24 hbox hb; have n0_ := zA (blk_below (g := gb302) (o := .cells #[.int .i64 a0_0, .int .i64 a0_1, .int .i64 a0_2, .int .i64 a0_3, .int .i64 a0_4] 57 (0, 0)) (zqB BK302.out) hb); have n1_ := zA (blk_below (g := gb303) (o := .cells #[.int .i64 a1_0, .int .i64 a1_1] 47 (0, 0)) (zqB BK303.out) hb); have n2_ := zA (blk_below (g := gb304) (o := .cells #[.int .i64 a0_0, .int .i64 a0_1, .int .i64 a0_2, .int .i64 a0_3, .int .i64 a0_4] 58 (0, 0)) (zqB BK304.out) hb); have n3_ := zA (below_step (zqI HB.out GE302.out GE303.out GE304.out) hb); have n4_ := zA (hbox); have n5_ := zA ((by rw [hg]; exact (below_size (zqI HB.out GE302.out GE303.out GE304.out)) : w.heap.size ≤ gb310)); have n6_ := zA ((by rw [hg]; exact (below_size (zqI HB.out GE302.out GE303.out GE304.out)) : w.heap.size ≤ gb310)); have n7_ := zA ((by rw [hg]; exact Nat.ne_of_lt (blk_lt (g := gb302) (o := .cells #[.int .i64 a0_0, .int .i64 a0_1, .int .i64 a0_2, .int .i64 a0_3, .int .i64 a0_4] 57 (0, 0)) (zqB BK302.out)) : gb302 ≠ gb310)); have n8_ := zA ((by rw [hg]; exact Nat.ne_of_gt (blk_lt (g := gb302) (o := .cells #[.int .i64 a0_0, .int .i64 a0_1, .int .i64 a0_2, .int .i64 a0_3, .int .i64 a0_4] 57 (0, 0)) (zqB BK302.out)) : gb310 ≠ gb302)); have n9_ := zA ((by rw [hg]; exact Nat.ne_of_lt (blk_lt (g := gb303) (o := .cells #[.int .i64 a1_0, .int .i64 a1_1] 47 (0, 0)) (zqB BK303.out)) : gb303 ≠ gb310)); have n10_ := zA ((by rw [hg]; exact Nat.ne_of_gt (blk_lt (g := gb303) (o := .cells #[.int .i64 a1_0, .int .i64 a1_1] 47 (0, 0)) (zqB BK303.out)) : gb310 ≠ gb303)); have n11_ := zA ((by rw [hg]; exact Nat.ne_of_lt (blk_lt (g := gb304) (o := .cells #[.int .i64 a0_0, .int .i64 a0_1, .int .i64 a0_2, .int .i64 a0_3, .int .i64 a0_4] 58 (0, 0)) (zqB BK304.out)) : gb304 ≠ gb310)); have n12_ := zA ((by rw [hg]; exact Nat.ne_of_gt (blk_lt (g := gb304) (o := .cells #[.int .i64 a0_0, .int .i64 a0_1, .int .i64 a0_2, .int .i64 a0_3, .int .i64 a0_4] 58 (0, 0)) (zqB BK304.out)) : gb310 ≠ gb304)); clear BK302; clear BK303; clear BK304; clear HB; have BK302 := n0_; have BK303 := n1_; have BK304 := n2_; have HB := n3_; have BK310 := n4_; have GW310 := n5_; have GE310 := n6_; have NB302_310 := n7_; have NB310_302 := n8_; have NB303_310 := n9_; have NB310_303 := n10_; have NB304_310 := n11_; have NB310_304 := n12_; clear n0_ n1_ n2_ n3_ n4_ n5_ n6_ n7_ n8_ n9_ n10_ n11_ n12_; clear hb hbox hg) | ((with_reducible refine gate_dst (N := 7) rfl ?_); refine box_event ?hg (N := 7) ?hd (cs := #[.int .i64 0, .int .i64 0]) (t := 55) ?hr ?_; (case hd => rfl); (case hg => rfl); (case hr => first | (go_simp; done) | (go_simp; rfl)); intro gb311 hg w25 hbox hb; have n0_ := zA (blk_below (g := gb302) (o := .cells #[.int .i64 a0_0, .int .i64 a0_1, .int .i64 a0_2, .int .i64 a0_3, .int .i64 a0_4] 57 (0, 0)) (zqB BK302.out) hb); have n1_ := zA (blk_below (g := gb303) (o := .cells #[.int .i64 a1_0, .int .i64 a1_1] 47 (0, 0)) (zqB BK303.out) hb); have n2_ := zA (blk_below (g := gb304) (o := .cells #[.int .i64 a0_0, .int .i64 a0_1, .int .i64 a0_2, .int .i64 a0_3, .int .i64 a0_4] 58 (0, 0)) (zqB BK304.out) hb); have n3_ := zA (blk_below (g := gb310) (o := .cells #[.int .i64 0, .int .i64 0] 55 (0, 0)) (zqB BK310.out) hb); have n4_ := zA (below_step (zqJ HB.out GE302.out GE303.out GE304.out GE310.out) hb); have n5_ := zA (hbox); have n6_ := zA ((by rw [hg]; exact (below_size (zqJ HB.out GE302.out GE303.out GE304.out GE310.out)) : w.heap.size ≤ gb311)); have n7_ := zA ((by rw [hg]; exact (below_size (zqJ HB.out GE302.out GE303.out GE304.out GE310.out)) : w.heap.size ≤ gb311)); have n8_ := zA ((by rw [hg]; exact Nat.ne_of_lt (blk_lt (g := gb302) (o := .cells #[.int .i64 a0_0, .int .i64 a0_1, .int .i64 a0_2, .int .i64 a0_3, .int .i64 a0_4] 57 (0, 0)) (zqB BK302.out)) : gb302 ≠ gb311)); have n9_ := zA ((by rw [hg]; exact Nat.ne_of_gt (blk_lt (g := gb302) (o := .cells #[.int .i64 a0_0, .int .i64 a0_1, .int .i64 a0_2, .int .i64 a0_3, .int .i64 a0_4] 57 (0, 0)) (zqB BK302.out)) : gb311 ≠ gb302)); have n10_ := zA ((by rw [hg]; exact Nat.ne_of_lt (blk_lt (g := gb303) (o := .cells #[.int .i64 a1_0, .int .i64 a1_1] 47 (0, 0)) (zqB BK303.out)) : gb303 ≠ gb311)); have n11_ := zA ((by rw [hg]; exact Nat.ne_of_gt (blk_lt (g := gb303) (o := .cells #[.int .i64 a1_0, .int .i64 a1_1] 47 (0, 0)) (zqB BK303.out)) : gb311 ≠ gb303)); have n12_ := zA ((by rw [hg]; exact Nat.ne_of_lt (blk_lt (g := gb304) (o := .cells #[.int .i64 a0_0, .int .i64 a0_1, .int .i64 a0_2, .int .i64 a0_3, .int .i64 a0_4] 58 (0, 0)) (zqB BK304.out)) : gb304 ≠ gb311)); have n13_ := zA ((by rw [hg]; exact Nat.ne_of_gt (blk_lt (g := gb304) (o := .cells #[.int .i64 a0_0, .int .i64 a0_1, .int .i64 a0_2, .int .i64 a0_3, .int .i64 a0_4] 58 (0, 0)) (zqB BK304.out)) : gb311 ≠ gb304)); have n14_ := zA ((by rw [hg]; exact Nat.ne_of_lt (blk_lt (g := gb310) (o := .cells #[.int .i64 0, .int .i64 0] 55 (0, 0)) (zqB BK310.out)) : gb310 ≠ gb311)); have n15_ := zA ((by rw [hg]; exact Nat.ne_of_gt (blk_lt (g := gb310) (o := .cells #[.int .i64 0, .int .i64 0] 55 (0, 0)) (zqB BK310.out)) : gb311 ≠ gb310)); clear BK302; clear BK303; clear BK304; clear BK310; clear HB; have BK302 := n0_; have BK303 := n1_; have BK304 := n2_; have BK310 := n3_; have HB := n4_; have BK311 := n5_; have GW311 := n6_; have GE311 := n7_; have NB302_311 := n8_; have NB311_302 := n9_; have NB303_311 := n10_; have NB311_303 := n11_; have NB304_311 := n12_; have NB311_304 := n13_; have NB310_311 := n14_; have NB311_310 := n15_; clear n0_ n1_ n2_ n3_ n4_ n5_ n6_ n7_ n8_ n9_ n10_ n11_ n12_ n13_ n14_ n15_; clear hb hbox hg; have hnb26 := NB310_302.out; have hnc26 := NB302_310.out; have hnb27 := NB310_303.out; have hnc27 := NB303_310.out; have hnb28 := NB310_304.out; have hnc28 := NB304_310.out; have hnb29 := NB310_311.out; have hnc29 := NB311_310.out; have hcz30_0 : w25.cell? ⟨gb310, 0, none⟩ = some (.int .i64 0) := (blk_cell BK310.out 0).trans rfl; have hcz30_1 : w25.cell? ⟨gb310, 1, none⟩ = some (.int .i64 0) := (blk_cell BK310.out 1).trans rfl; have hfz30_0 := blk_frozen BK310.out 0; have hfz30_1 := blk_frozen BK310.out 1; have hnb31 := NB311_302.out; have hnc31 := NB302_311.out; have hnb32 := NB311_303.out; have hnc32 := NB303_311.out; have hnb33 := NB311_304.out; have hnc33 := NB304_311.out; have hcz34_0 : w25.cell? ⟨gb311, 0, none⟩ = some (.int .i64 0) := (blk_cell BK311.out 0).trans rfl; have hcz34_1 : w25.cell? ⟨gb311, 1, none⟩ = some (.int .i64 0) := (blk_cell BK311.out 1).trans rfl; have hfz34_0 := blk_frozen BK311.out 0; have hfz34_1 := blk_frozen BK311.out 1; have hcz35_0 : w25.cell? ⟨gb304, 0, none⟩ = some (.int .i64 a0_0) := (blk_cell BK304.out 0).trans rfl; have hcz35_1 : w25.cell? ⟨gb304, 1, none⟩ = some (.int .i64 a0_1) := (blk_cell BK304.out 1).trans rfl; have hcz35_2 : w25.cell? ⟨gb304, 2, none⟩ = some (.int .i64 a0_2) := (blk_cell BK304.out 2).trans rfl; have hcz35_3 : w25.cell? ⟨gb304, 3, none⟩ = some (.int .i64 a0_3) := (blk_cell BK304.out 3).trans rfl; have hcz35_4 : w25.cell? ⟨gb304, 4, none⟩ = some (.int .i64 a0_4) := (blk_cell BK304.out 4).trans rfl; have hfz35_0 := blk_frozen BK304.out 0; have hfz35_1 := blk_frozen BK304.out 1; have hfz35_2 := blk_frozen BK304.out 2; have hfz35_3 := blk_frozen BK304.out 3; have hfz35_4 := blk_frozen BK304.out 4) | ((with_reducible refine gate_callee (f := 31) rfl ?_); refine goesL_ (some 25) rfl rfl Try.func31 (by kernel_rfl) rfl #[.agg #[.int .i64 a0_0, .int .i64 a0_1, .int .i64 a0_2, .int .i64 a0_3, .int .i64 a0_4]] rfl zqE ?_; (with_reducible refine (pianolaref03_Bars.calls k a0_0 a0_1 a0_2 a0_3 a0_4 t312 t313 t314 t315 t316 _ A4.out).mono ?_); rintro e w36 ⟨rfl, hb⟩; refine ⟨_, rfl, ?_⟩; have n0_ := zA (blk_below (g := gb302) (o := .cells #[.int .i64 a0_0, .int .i64 a0_1, .int .i64 a0_2, .int .i64 a0_3, .int .i64 a0_4] 57 (0, 0)) (by (with_reducible repeat (first | refine blk_drewN ?_ _ | refine blk_drew ?_ | refine blk_alloc ?_ _)); refine blk_far ?_ NB302_311.out _; (with_reducible repeat (first | refine blk_drewN ?_ _ | refine blk_drew ?_ | refine blk_alloc ?_ _)); refine blk_far ?_ NB302_311.out _; (with_reducible repeat (first | refine blk_drewN ?_ _ | refine blk_drew ?_ | refine blk_alloc ?_ _)); refine blk_far ?_ NB302_310.out _; (with_reducible repeat (first | refine blk_drewN ?_ _ | refine blk_drew ?_ | refine blk_alloc ?_ _)); refine blk_far ?_ NB302_310.out _; (with_reducible repeat (first | refine blk_drewN ?_ _ | refine blk_drew ?_ | refine blk_alloc ?_ _)); exact BK302.out) hb); have n1_ := zA (blk_below (g := gb303) (o := .cells #[.int .i64 a1_0, .int .i64 a1_1] 47 (0, 0)) (by (with_reducible repeat (first | refine blk_drewN ?_ _ | refine blk_drew ?_ | refine blk_alloc ?_ _)); refine blk_far ?_ NB303_311.out _; (with_reducible repeat (first | refine blk_drewN ?_ _ | refine blk_drew ?_ | refine blk_alloc ?_ _)); refine blk_far ?_ NB303_311.out _; (with_reducible repeat (first | refine blk_drewN ?_ _ | refine blk_drew ?_ | refine blk_alloc ?_ _)); refine blk_far ?_ NB303_310.out _; (with_reducible repeat (first | refine blk_drewN ?_ _ | refine blk_drew ?_ | refine blk_alloc ?_ _)); refine blk_far ?_ NB303_310.out _; (with_reducible repeat (first | refine blk_drewN ?_ _ | refine blk_drew ?_ | refine blk_alloc ?_ _)); exact BK303.out) hb); have n2_ := zA (blk_below (g := gb304) (o := .cells #[.int .i64 a0_0, .int .i64 a0_1, .int .i64 a0_2, .int .i64 a0_3, .int .i64 a0_4] 58 (0, 0)) (by (with_reducible repeat (first | refine blk_drewN ?_ _ | refine blk_drew ?_ | refine blk_alloc ?_ _)); refine blk_far ?_ NB304_311.out _; (with_reducible repeat (first | refine blk_drewN ?_ _ | refine blk_drew ?_ | refine blk_alloc ?_ _)); refine blk_far ?_ NB304_311.out _; (with_reducible repeat (first | refine blk_drewN ?_ _ | refine blk_drew ?_ | refine blk_alloc ?_ _)); refine blk_far ?_ NB304_310.out _; (with_reducible repeat (first | refine blk_drewN ?_ _ | refine blk_drew ?_ | refine blk_alloc ?_ _)); refine blk_far ?_ NB304_310.out _; (with_reducible repeat (first | refine blk_drewN ?_ _ | refine blk_drew ?_ | refine blk_alloc ?_ _)); exact BK304.out) hb); have n3_ := zA (blk_below (g := gb310) (o := .cells #[.int .i64 t305, .int .i64 t306] 55 (0, 0)) (by (with_reducible repeat (first | refine blk_drewN ?_ _ | refine blk_drew ?_ | refine blk_alloc ?_ _)); refine blk_far ?_ NB310_311.out _; (with_reducible repeat (first | refine blk_drewN ?_ _ | refine blk_drew ?_ | refine blk_alloc ?_ _)); refine blk_far ?_ NB310_311.out _; (with_reducible repeat (first | refine blk_drewN ?_ _ | refine blk_drew ?_ | refine blk_alloc ?_ _)); refine blk_put (cs := #[.int .i64 t305, .int .i64 0]) ?_ 1 _ rfl; (with_reducible repeat (first | refine blk_drewN ?_ _ | refine blk_drew ?_ | refine blk_alloc ?_ _)); refine blk_put (cs := #[.int .i64 0, .int .i64 0]) ?_ 0 _ rfl; (with_reducible repeat (first | refine blk_drewN ?_ _ | refine blk_drew ?_ | refine blk_alloc ?_ _)); exact BK310.out) hb); have n4_ := zA (blk_below (g := gb311) (o := .cells #[.int .i64 t307, .int .i64 t308] 55 (0, 0)) (by (with_reducible repeat (first | refine blk_drewN ?_ _ | refine blk_drew ?_ | refine blk_alloc ?_ _)); refine blk_put (cs := #[.int .i64 t307, .int .i64 0]) ?_ 1 _ rfl; (with_reducible repeat (first | refine blk_drewN ?_ _ | refine blk_drew ?_ | refine blk_alloc ?_ _)); refine blk_put (cs := #[.int .i64 0, .int .i64 0]) ?_ 0 _ rfl; (with_reducible repeat (first | refine blk_drewN ?_ _ | refine blk_drew ?_ | refine blk_alloc ?_ _)); refine blk_far ?_ NB311_310.out _; (with_reducible repeat (first | refine blk_drewN ?_ _ | refine blk_drew ?_ | refine blk_alloc ?_ _)); refine blk_far ?_ NB311_310.out _; (with_reducible repeat (first | refine blk_drewN ?_ _ | refine blk_drew ?_ | refine blk_alloc ?_ _)); exact BK311.out) hb); have n5_ := zA (below_step (by repeat (first | (with_reducible first | exact HB.out | apply below_alloc | apply pw_below_drewN | apply below_drew1 | refine below_set ?_ GE302.out | refine below_set ?_ GE303.out | refine below_set ?_ GE304.out | refine below_set ?_ GE310.out | refine below_set ?_ GE311.out) | exact HB.out)) hb); clear BK302; clear BK303; clear BK304; clear BK310; clear BK311; clear HB; have BK302 := n0_; have BK303 := n1_; have BK304 := n2_; have BK310 := n3_; have BK311 := n4_; have HB := n5_; clear n0_ n1_ n2_ n3_ n4_ n5_; (try clear hb); (try clear hb2); (try clear hk); (try clear hi)) | ((with_reducible refine gate_dst (N := 9) rfl ?_); refine box_event ?hg (N := 9) ?hd (cs := #[.int .i64 0, .int .i64 0]) (t := 55) ?hr ?_; (case hd => rfl); (case hg => rfl); (case hr => first | (go_simp; done) | (go_simp; rfl)); intro gb317 hg w37 hbox hb; have n0_ := zA (blk_below (g := gb302) (o := .cells #[.int .i64 a0_0, .int .i64 a0_1, .int .i64 a0_2, .int .i64 a0_3, .int .i64 a0_4] 57 (0, 0)) (zqB BK302.out) hb); have n1_ := zA (blk_below (g := gb303) (o := .cells #[.int .i64 a1_0, .int .i64 a1_1] 47 (0, 0)) (zqB BK303.out) hb); have n2_ := zA (blk_below (g := gb304) (o := .cells #[.int .i64 a0_0, .int .i64 a0_1, .int .i64 a0_2, .int .i64 a0_3, .int .i64 a0_4] 58 (0, 0)) (zqB BK304.out) hb); have n3_ := zA (blk_below (g := gb310) (o := .cells #[.int .i64 t305, .int .i64 t306] 55 (0, 0)) (zqB BK310.out) hb); have n4_ := zA (blk_below (g := gb311) (o := .cells #[.int .i64 t307, .int .i64 t308] 55 (0, 0)) (zqB BK311.out) hb); have n5_ := zA (below_step (by repeat (first | (with_reducible first | exact HB.out | apply below_alloc | apply pw_below_drewN | apply below_drew1 | refine below_set ?_ GE302.out | refine below_set ?_ GE303.out | refine below_set ?_ GE304.out | refine below_set ?_ GE310.out | refine below_set ?_ GE311.out) | exact HB.out)) hb); have n6_ := zA (hbox); have n7_ := zA ((by rw [hg]; exact (below_size (by repeat (first | (with_reducible first | exact HB.out | apply below_alloc | apply pw_below_drewN | apply below_drew1 | refine below_set ?_ GE302.out | refine below_set ?_ GE303.out | refine below_set ?_ GE304.out | refine below_set ?_ GE310.out | refine below_set ?_ GE311.out) | exact HB.out))) : w.heap.size ≤ gb317)); have n8_ := zA ((by rw [hg]; exact (below_size (by repeat (first | (with_reducible first | exact HB.out | apply below_alloc | apply pw_below_drewN | apply below_drew1 | refine below_set ?_ GE302.out | refine below_set ?_ GE303.out | refine below_set ?_ GE304.out | refine below_set ?_ GE310.out | refine below_set ?_ GE311.out) | exact HB.out))) : w.heap.size ≤ gb317)); have n9_ := zA ((by rw [hg]; exact Nat.ne_of_lt (blk_lt (g := gb302) (o := .cells #[.int .i64 a0_0, .int .i64 a0_1, .int .i64 a0_2, .int .i64 a0_3, .int .i64 a0_4] 57 (0, 0)) (zqB BK302.out)) : gb302 ≠ gb317)); have n10_ := zA ((by rw [hg]; exact Nat.ne_of_gt (blk_lt (g := gb302) (o := .cells #[.int .i64 a0_0, .int .i64 a0_1, .int .i64 a0_2, .int .i64 a0_3, .int .i64 a0_4] 57 (0, 0)) (zqB BK302.out)) : gb317 ≠ gb302)); have n11_ := zA ((by rw [hg]; exact Nat.ne_of_lt (blk_lt (g := gb303) (o := .cells #[.int .i64 a1_0, .int .i64 a1_1] 47 (0, 0)) (zqB BK303.out)) : gb303 ≠ gb317)); have n12_ := zA ((by rw [hg]; exact Nat.ne_of_gt (blk_lt (g := gb303) (o := .cells #[.int .i64 a1_0, .int .i64 a1_1] 47 (0, 0)) (zqB BK303.out)) : gb317 ≠ gb303)); have n13_ := zA ((by rw [hg]; exact Nat.ne_of_lt (blk_lt (g := gb304) (o := .cells #[.int .i64 a0_0, .int .i64 a0_1, .int .i64 a0_2, .int .i64 a0_3, .int .i64 a0_4] 58 (0, 0)) (zqB BK304.out)) : gb304 ≠ gb317)); have n14_ := zA ((by rw [hg]; exact Nat.ne_of_gt (blk_lt (g := gb304) (o := .cells #[.int .i64 a0_0, .int .i64 a0_1, .int .i64 a0_2, .int .i64 a0_3, .int .i64 a0_4] 58 (0, 0)) (zqB BK304.out)) : gb317 ≠ gb304)); have n15_ := zA ((by rw [hg]; exact Nat.ne_of_lt (blk_lt (g := gb310) (o := .cells #[.int .i64 t305, .int .i64 t306] 55 (0, 0)) (zqB BK310.out)) : gb310 ≠ gb317)); have n16_ := zA ((by rw [hg]; exact Nat.ne_of_gt (blk_lt (g := gb310) (o := .cells #[.int .i64 t305, .int .i64 t306] 55 (0, 0)) (zqB BK310.out)) : gb317 ≠ gb310)); have n17_ := zA ((by rw [hg]; exact Nat.ne_of_lt (blk_lt (g := gb311) (o := .cells #[.int .i64 t307, .int .i64 t308] 55 (0, 0)) (zqB BK311.out)) : gb311 ≠ gb317)); have n18_ := zA ((by rw [hg]; exact Nat.ne_of_gt (blk_lt (g := gb311) (o := .cells #[.int .i64 t307, .int .i64 t308] 55 (0, 0)) (zqB BK311.out)) : gb317 ≠ gb311)); clear BK302; clear BK303; clear BK304; clear BK310; clear BK311; clear HB; have BK302 := n0_; have BK303 := n1_; have BK304 := n2_; have BK310 := n3_; have BK311 := n4_; have HB := n5_; have BK317 := n6_; have GW317 := n7_; have GE317 := n8_; have NB302_317 := n9_; have NB317_302 := n10_; have NB303_317 := n11_; have NB317_303 := n12_; have NB304_317 := n13_; have NB317_304 := n14_; have NB310_317 := n15_; have NB317_310 := n16_; have NB311_317 := n17_; have NB317_311 := n18_; clear n0_ n1_ n2_ n3_ n4_ n5_ n6_ n7_ n8_ n9_ n10_ n11_ n12_ n13_ n14_ n15_ n16_ n17_ n18_; clear hb hbox hg) | ((with_reducible refine gate_dst (N := 10) rfl ?_); refine box_event ?hg (N := 10) ?hd (cs := #[.int .i64 0, .int .i64 0]) (t := 55) ?hr ?_; (case hd => rfl); (case hg => rfl); (case hr => first | (go_simp; done) | (go_simp; rfl)); intro gb318 hg w38 hbox hb; have n0_ := zA (blk_below (g := gb302) (o := .cells #[.int .i64 a0_0, .int .i64 a0_1, .int .i64 a0_2, .int .i64 a0_3, .int .i64 a0_4] 57 (0, 0)) (zqB BK302.out) hb); have n1_ := zA (blk_below (g := gb303) (o := .cells #[.int .i64 a1_0, .int .i64 a1_1] 47 (0, 0)) (zqB BK303.out) hb); have n2_ := zA (blk_below (g := gb304) (o := .cells #[.int .i64 a0_0, .int .i64 a0_1, .int .i64 a0_2, .int .i64 a0_3, .int .i64 a0_4] 58 (0, 0)) (zqB BK304.out) hb); have n3_ := zA (blk_below (g := gb310) (o := .cells #[.int .i64 t305, .int .i64 t306] 55 (0, 0)) (zqB BK310.out) hb); have n4_ := zA (blk_below (g := gb311) (o := .cells #[.int .i64 t307, .int .i64 t308] 55 (0, 0)) (zqB BK311.out) hb); have n5_ := zA (blk_below (g := gb317) (o := .cells #[.int .i64 0, .int .i64 0] 55 (0, 0)) (zqB BK317.out) hb); have n6_ := zA (below_step (by repeat (first | (with_reducible first | exact HB.out | apply below_alloc | apply pw_below_drewN | apply below_drew1 | refine below_set ?_ GE302.out | refine below_set ?_ GE303.out | refine below_set ?_ GE304.out | refine below_set ?_ GE310.out | refine below_set ?_ GE311.out | refine below_set ?_ GE317.out) | exact HB.out)) hb); have n7_ := zA (hbox); have n8_ := zA ((by rw [hg]; exact (below_size (by repeat (first | (with_reducible first | exact HB.out | apply below_alloc | apply pw_below_drewN | apply below_drew1 | refine below_set ?_ GE302.out | refine below_set ?_ GE303.out | refine below_set ?_ GE304.out | refine below_set ?_ GE310.out | refine below_set ?_ GE311.out | refine below_set ?_ GE317.out) | exact HB.out))) : w.heap.size ≤ gb318)); have n9_ := zA ((by rw [hg]; exact (below_size (by repeat (first | (with_reducible first | exact HB.out | apply below_alloc | apply pw_below_drewN | apply below_drew1 | refine below_set ?_ GE302.out | refine below_set ?_ GE303.out | refine below_set ?_ GE304.out | refine below_set ?_ GE310.out | refine below_set ?_ GE311.out | refine below_set ?_ GE317.out) | exact HB.out))) : w.heap.size ≤ gb318)); have n10_ := zA ((by rw [hg]; exact Nat.ne_of_lt (blk_lt (g := gb302) (o := .cells #[.int .i64 a0_0, .int .i64 a0_1, .int .i64 a0_2, .int .i64 a0_3, .int .i64 a0_4] 57 (0, 0)) (zqB BK302.out)) : gb302 ≠ gb318)); have n11_ := zA ((by rw [hg]; exact Nat.ne_of_gt (blk_lt (g := gb302) (o := .cells #[.int .i64 a0_0, .int .i64 a0_1, .int .i64 a0_2, .int .i64 a0_3, .int .i64 a0_4] 57 (0, 0)) (zqB BK302.out)) : gb318 ≠ gb302)); have n12_ := zA ((by rw [hg]; exact Nat.ne_of_lt (blk_lt (g := gb303) (o := .cells #[.int .i64 a1_0, .int .i64 a1_1] 47 (0, 0)) (zqB BK303.out)) : gb303 ≠ gb318)); have n13_ := zA ((by rw [hg]; exact Nat.ne_of_gt (blk_lt (g := gb303) (o := .cells #[.int .i64 a1_0, .int .i64 a1_1] 47 (0, 0)) (zqB BK303.out)) : gb318 ≠ gb303)); have n14_ := zA ((by rw [hg]; exact Nat.ne_of_lt (blk_lt (g := gb304) (o := .cells #[.int .i64 a0_0, .int .i64 a0_1, .int .i64 a0_2, .int .i64 a0_3, .int .i64 a0_4] 58 (0, 0)) (zqB BK304.out)) : gb304 ≠ gb318)); have n15_ := zA ((by rw [hg]; exact Nat.ne_of_gt (blk_lt (g := gb304) (o := .cells #[.int .i64 a0_0, .int .i64 a0_1, .int .i64 a0_2, .int .i64 a0_3, .int .i64 a0_4] 58 (0, 0)) (zqB BK304.out)) : gb318 ≠ gb304)); have n16_ := zA ((by rw [hg]; exact Nat.ne_of_lt (blk_lt (g := gb310) (o := .cells #[.int .i64 t305, .int .i64 t306] 55 (0, 0)) (zqB BK310.out)) : gb310 ≠ gb318)); have n17_ := zA ((by rw [hg]; exact Nat.ne_of_gt (blk_lt (g := gb310) (o := .cells #[.int .i64 t305, .int .i64 t306] 55 (0, 0)) (zqB BK310.out)) : gb318 ≠ gb310)); have n18_ := zA ((by rw [hg]; exact Nat.ne_of_lt (blk_lt (g := gb311) (o := .cells #[.int .i64 t307, .int .i64 t308] 55 (0, 0)) (zqB BK311.out)) : gb311 ≠ gb318)); have n19_ := zA ((by rw [hg]; exact Nat.ne_of_gt (blk_lt (g := gb311) (o := .cells #[.int .i64 t307, .int .i64 t308] 55 (0, 0)) (zqB BK311.out)) : gb318 ≠ gb311)); have n20_ := zA ((by rw [hg]; exact Nat.ne_of_lt (blk_lt (g := gb317) (o := .cells #[.int .i64 0, .int .i64 0] 55 (0, 0)) (zqB BK317.out)) : gb317 ≠ gb318)); have n21_ := zA ((by rw [hg]; exact Nat.ne_of_gt (blk_lt (g := gb317) (o := .cells #[.int .i64 0, .int .i64 0] 55 (0, 0)) (zqB BK317.out)) : gb318 ≠ gb317)); clear BK302; clear BK303; clear BK304; clear BK310; clear BK311; clear BK317; clear HB; have BK302 := n0_; have BK303 := n1_; have BK304 := n2_; have BK310 := n3_; have BK311 := n4_; have BK317 := n5_; have HB := n6_; have BK318 := n7_; have GW318 := n8_; have GE318 := n9_; have NB302_318 := n10_; have NB318_302 := n11_; have NB303_318 := n12_; have NB318_303 := n13_; have NB304_318 := n14_; have NB318_304 := n15_; have NB310_318 := n16_; have NB318_310 := n17_; have NB311_318 := n18_; have NB318_311 := n19_; have NB317_318 := n20_; have NB318_317 := n21_; clear n0_ n1_ n2_ n3_ n4_ n5_ n6_ n7_ n8_ n9_ n10_ n11_ n12_ n13_ n14_ n15_ n16_ n17_ n18_ n19_ n20_ n21_; clear hb hbox hg; have hnb39 := NB317_302.out; have hnc39 := NB302_317.out; have hnb40 := NB317_303.out; have hnc40 := NB303_317.out; have hnb41 := NB317_304.out; have hnc41 := NB304_317.out; have hnb42 := NB317_310.out; have hnc42 := NB310_317.out; have hnb43 := NB317_311.out; have hnc43 := NB311_317.out; have hnb44 := NB317_318.out; have hnc44 := NB318_317.out; have hcz45_0 : w38.cell? ⟨gb317, 0, none⟩ = some (.int .i64 0) := (blk_cell BK317.out 0).trans rfl; have hcz45_1 : w38.cell? ⟨gb317, 1, none⟩ = some (.int .i64 0) := (blk_cell BK317.out 1).trans rfl; have hfz45_0 := blk_frozen BK317.out 0; have hfz45_1 := blk_frozen BK317.out 1; have hnb46 := NB318_302.out; have hnc46 := NB302_318.out; have hnb47 := NB318_303.out; have hnc47 := NB303_318.out; have hnb48 := NB318_304.out; have hnc48 := NB304_318.out; have hnb49 := NB318_310.out; have hnc49 := NB310_318.out; have hnb50 := NB318_311.out; have hnc50 := NB311_318.out; have hcz51_0 : w38.cell? ⟨gb318, 0, none⟩ = some (.int .i64 0) := (blk_cell BK318.out 0).trans rfl; have hcz51_1 : w38.cell? ⟨gb318, 1, none⟩ = some (.int .i64 0) := (blk_cell BK318.out 1).trans rfl; have hfz51_0 := blk_frozen BK318.out 0; have hfz51_1 := blk_frozen BK318.out 1; have hcz52_0 : w38.cell? ⟨gb302, 0, none⟩ = some (.int .i64 a0_0) := (blk_cell BK302.out 0).trans rfl; have hcz52_1 : w38.cell? ⟨gb302, 1, none⟩ = some (.int .i64 a0_1) := (blk_cell BK302.out 1).trans rfl; have hcz52_2 : w38.cell? ⟨gb302, 2, none⟩ = some (.int .i64 a0_2) := (blk_cell BK302.out 2).trans rfl; have hcz52_3 : w38.cell? ⟨gb302, 3, none⟩ = some (.int .i64 a0_3) := (blk_cell BK302.out 3).trans rfl; have hcz52_4 : w38.cell? ⟨gb302, 4, none⟩ = some (.int .i64 a0_4) := (blk_cell BK302.out 4).trans rfl; have hfz52_0 := blk_frozen BK302.out 0; have hfz52_1 := blk_frozen BK302.out 1; have hfz52_2 := blk_frozen BK302.out 2; have hfz52_3 := blk_frozen BK302.out 3; have hfz52_4 := blk_frozen BK302.out 4; have hcz53_0 : w38.cell? ⟨gb303, 0, none⟩ = some (.int .i64 a1_0) := (blk_cell BK303.out 0).trans rfl; have hcz53_1 : w38.cell? ⟨gb303, 1, none⟩ = some (.int .i64 a1_1) := (blk_cell BK303.out 1).trans rfl; have hfz53_0 := blk_frozen BK303.out 0; have hfz53_1 := blk_frozen BK303.out 1) | ((with_reducible refine gate_callee (f := 32) rfl ?_); refine goesL_ (some 32) rfl rfl Try.func32 (by kernel_rfl) rfl #[.agg #[.int .i64 a0_0, .int .i64 a0_1, .int .i64 a0_2, .int .i64 a0_3, .int .i64 a0_4], .agg #[.int .i64 a1_0, .int .i64 a1_1]] rfl zqE ?_; (with_reducible refine (punch_Bridge.calls k a0_0 a0_1 a0_2 a0_3 a0_4 a1_0 a1_1 t319 t322 _ A5.out).mono ?_); rintro e w54 ⟨v320, rfl, ho0, hb⟩; refine ⟨_, rfl, ?_⟩; have n0_ := zA (Kd.R_lower (Kd.R_newB ho0 (g := gb303) (o := .cells #[.int .i64 a1_0, .int .i64 a1_1] 47 (0, 0)) (by (with_reducible repeat (first | refine blk_drewN ?_ _ | refine blk_drew ?_ | refine blk_alloc ?_ _)); refine blk_far ?_ NB303_318.out _; (with_reducible repeat (first | refine blk_drewN ?_ _ | refine blk_drew ?_ | refine blk_alloc ?_ _)); refine blk_far ?_ NB303_318.out _; (with_reducible repeat (first | refine blk_drewN ?_ _ | refine blk_drew ?_ | refine blk_alloc ?_ _)); refine blk_far ?_ NB303_317.out _; (with_reducible repeat (first | refine blk_drewN ?_ _ | refine blk_drew ?_ | refine blk_alloc ?_ _)); refine blk_far ?_ NB303_317.out _; (with_reducible repeat (first | refine blk_drewN ?_ _ | refine blk_drew ?_ | refine blk_alloc ?_ _)); exact BK303.out)) (below_size (by repeat (first | (with_reducible first | exact HB.out | apply below_alloc | apply pw_below_drewN | apply below_drew1 | refine below_set ?_ GE302.out | refine below_set ?_ GE303.out | refine below_set ?_ GE304.out | refine below_set ?_ GE310.out | refine below_set ?_ GE311.out | refine below_set ?_ GE317.out | refine below_set ?_ GE318.out) | exact HB.out)))); have n1_ := zA (blk_below (g := gb302) (o := .cells #[.int .i64 a0_0, .int .i64 a0_1, .int .i64 a0_2, .int .i64 a0_3, .int .i64 a0_4] 57 (0, 0)) (by (with_reducible repeat (first | refine blk_drewN ?_ _ | refine blk_drew ?_ | refine blk_alloc ?_ _)); refine blk_far ?_ NB302_318.out _; (with_reducible repeat (first | refine blk_drewN ?_ _ | refine blk_drew ?_ | refine blk_alloc ?_ _)); refine blk_far ?_ NB302_318.out _; (with_reducible repeat (first | refine blk_drewN ?_ _ | refine blk_drew ?_ | refine blk_alloc ?_ _)); refine blk_far ?_ NB302_317.out _; (with_reducible repeat (first | refine blk_drewN ?_ _ | refine blk_drew ?_ | refine blk_alloc ?_ _)); refine blk_far ?_ NB302_317.out _; (with_reducible repeat (first | refine blk_drewN ?_ _ | refine blk_drew ?_ | refine blk_alloc ?_ _)); exact BK302.out) hb); have n2_ := zA (blk_below (g := gb303) (o := .cells #[.int .i64 a1_0, .int .i64 a1_1] 47 (0, 0)) (by (with_reducible repeat (first | refine blk_drewN ?_ _ | refine blk_drew ?_ | refine blk_alloc ?_ _)); refine blk_far ?_ NB303_318.out _; (with_reducible repeat (first | refine blk_drewN ?_ _ | refine blk_drew ?_ | refine blk_alloc ?_ _)); refine blk_far ?_ NB303_318.out _; (with_reducible repeat (first | refine blk_drewN ?_ _ | refine blk_drew ?_ | refine blk_alloc ?_ _)); refine blk_far ?_ NB303_317.out _; (with_reducible repeat (first | refine blk_drewN ?_ _ | refine blk_drew ?_ | refine blk_alloc ?_ _)); refine blk_far ?_ NB303_317.out _; (with_reducible repeat (first | refine blk_drewN ?_ _ | refine blk_drew ?_ | refine blk_alloc ?_ _)); exact BK303.out) hb); have n3_ := zA (blk_below (g := gb304) (o := .cells #[.int .i64 a0_0, .int .i64 a0_1, .int .i64 a0_2, .int .i64 a0_3, .int .i64 a0_4] 58 (0, 0)) (by (with_reducible repeat (first | refine blk_drewN ?_ _ | refine blk_drew ?_ | refine blk_alloc ?_ _)); refine blk_far ?_ NB304_318.out _; (with_reducible repeat (first | refine blk_drewN ?_ _ | refine blk_drew ?_ | refine blk_alloc ?_ _)); refine blk_far ?_ NB304_318.out _; (with_reducible repeat (first | refine blk_drewN ?_ _ | refine blk_drew ?_ | refine blk_alloc ?_ _)); refine blk_far ?_ NB304_317.out _; (with_reducible repeat (first | refine blk_drewN ?_ _ | refine blk_drew ?_ | refine blk_alloc ?_ _)); refine blk_far ?_ NB304_317.out _; (with_reducible repeat (first | refine blk_drewN ?_ _ | refine blk_drew ?_ | refine blk_alloc ?_ _)); exact BK304.out) hb); have n4_ := zA (blk_below (g := gb310) (o := .cells #[.int .i64 t305, .int .i64 t306] 55 (0, 0)) (by (with_reducible repeat (first | refine blk_drewN ?_ _ | refine blk_drew ?_ | refine blk_alloc ?_ _)); refine blk_far ?_ NB310_318.out _; (with_reducible repeat (first | refine blk_drewN ?_ _ | refine blk_drew ?_ | refine blk_alloc ?_ _)); refine blk_far ?_ NB310_318.out _; (with_reducible repeat (first | refine blk_drewN ?_ _ | refine blk_drew ?_ | refine blk_alloc ?_ _)); refine blk_far ?_ NB310_317.out _; (with_reducible repeat (first | refine blk_drewN ?_ _ | refine blk_drew ?_ | refine blk_alloc ?_ _)); refine blk_far ?_ NB310_317.out _; (with_reducible repeat (first | refine blk_drewN ?_ _ | refine blk_drew ?_ | refine blk_alloc ?_ _)); exact BK310.out) hb); have n5_ := zA (blk_below (g := gb311) (o := .cells #[.int .i64 t307, .int .i64 t308] 55 (0, 0)) (by (with_reducible repeat (first | refine blk_drewN ?_ _ | refine blk_drew ?_ | refine blk_alloc ?_ _)); refine blk_far ?_ NB311_318.out _; (with_reducible repeat (first | refine blk_drewN ?_ _ | refine blk_drew ?_ | refine blk_alloc ?_ _)); refine blk_far ?_ NB311_318.out _; (with_reducible repeat (first | refine blk_drewN ?_ _ | refine blk_drew ?_ | refine blk_alloc ?_ _)); refine blk_far ?_ NB311_317.out _; (with_reducible repeat (first | refine blk_drewN ?_ _ | refine blk_drew ?_ | refine blk_alloc ?_ _)); refine blk_far ?_ NB311_317.out _; (with_reducible repeat (first | refine blk_drewN ?_ _ | refine blk_drew ?_ | refine blk_alloc ?_ _)); exact BK311.out) hb); have n6_ := zA (blk_below (g := gb317) (o := .cells #[.int .i64 t312, .int .i64 t313] 55 (0, 0)) (by (with_reducible repeat (first | refine blk_drewN ?_ _ | refine blk_drew ?_ | refine blk_alloc ?_ _)); refine blk_far ?_ NB317_318.out _; (with_reducible repeat (first | refine blk_drewN ?_ _ | refine blk_drew ?_ | refine blk_alloc ?_ _)); refine blk_far ?_ NB317_318.out _; (with_reducible repeat (first | refine blk_drewN ?_ _ | refine blk_drew ?_ | refine blk_alloc ?_ _)); refine blk_put (cs := #[.int .i64 t312, .int .i64 0]) ?_ 1 _ rfl; (with_reducible repeat (first | refine blk_drewN ?_ _ | refine blk_drew ?_ | refine blk_alloc ?_ _)); refine blk_put (cs := #[.int .i64 0, .int .i64 0]) ?_ 0 _ rfl; (with_reducible repeat (first | refine blk_drewN ?_ _ | refine blk_drew ?_ | refine blk_alloc ?_ _)); exact BK317.out) hb); have n7_ := zA (blk_below (g := gb318) (o := .cells #[.int .i64 t314, .int .i64 t315] 55 (0, 0)) (by (with_reducible repeat (first | refine blk_drewN ?_ _ | refine blk_drew ?_ | refine blk_alloc ?_ _)); refine blk_put (cs := #[.int .i64 t314, .int .i64 0]) ?_ 1 _ rfl; (with_reducible repeat (first | refine blk_drewN ?_ _ | refine blk_drew ?_ | refine blk_alloc ?_ _)); refine blk_put (cs := #[.int .i64 0, .int .i64 0]) ?_ 0 _ rfl; (with_reducible repeat (first | refine blk_drewN ?_ _ | refine blk_drew ?_ | refine blk_alloc ?_ _)); refine blk_far ?_ NB318_317.out _; (with_reducible repeat (first | refine blk_drewN ?_ _ | refine blk_drew ?_ | refine blk_alloc ?_ _)); refine blk_far ?_ NB318_317.out _; (with_reducible repeat (first | refine blk_drewN ?_ _ | refine blk_drew ?_ | refine blk_alloc ?_ _)); exact BK318.out) hb); have n8_ := zA (below_step (by repeat (first | (with_reducible first | exact HB.out | apply below_alloc | apply pw_below_drewN | apply below_drew1 | refine below_set ?_ GE302.out | refine below_set ?_ GE303.out | refine below_set ?_ GE304.out | refine below_set ?_ GE310.out | refine below_set ?_ GE311.out | refine below_set ?_ GE317.out | refine below_set ?_ GE318.out) | exact HB.out)) hb); clear BK302; clear BK303; clear BK304; clear BK310; clear BK311; clear BK317; clear BK318; clear HB; have HO321 := n0_; have BK302 := n1_; have BK303 := n2_; have BK304 := n3_; have BK310 := n4_; have BK311 := n5_; have BK317 := n6_; have BK318 := n7_; have HB := n8_; clear n0_ n1_ n2_ n3_ n4_ n5_ n6_ n7_ n8_; (try clear hb); (try clear hb2); (try clear hk); (try clear hi); (try clear ho0); have hcz55_0 : w54.cell? ⟨gb304, 0, none⟩ = some (.int .i64 a0_0) := (blk_cell BK304.out 0).trans rfl; have hcz55_1 : w54.cell? ⟨gb304, 1, none⟩ = some (.int .i64 a0_1) := (blk_cell BK304.out 1).trans rfl; have hcz55_2 : w54.cell? ⟨gb304, 2, none⟩ = some (.int .i64 a0_2) := (blk_cell BK304.out 2).trans rfl; have hcz55_3 : w54.cell? ⟨gb304, 3, none⟩ = some (.int .i64 a0_3) := (blk_cell BK304.out 3).trans rfl; have hcz55_4 : w54.cell? ⟨gb304, 4, none⟩ = some (.int .i64 a0_4) := (blk_cell BK304.out 4).trans rfl; have hfz55_0 := blk_frozen BK304.out 0; have hfz55_1 := blk_frozen BK304.out 1; have hfz55_2 := blk_frozen BK304.out 2; have hfz55_3 := blk_frozen BK304.out 3; have hfz55_4 := blk_frozen BK304.out 4; have hcz56_0 : w54.cell? ⟨gb303, 0, none⟩ = some (.int .i64 a1_0) := (blk_cell BK303.out 0).trans rfl; have hcz56_1 : w54.cell? ⟨gb303, 1, none⟩ = some (.int .i64 a1_1) := (blk_cell BK303.out 1).trans rfl; have hfz56_0 := blk_frozen BK303.out 0; have hfz56_1 := blk_frozen BK303.out 1) | ((with_reducible refine gate_callee (f := 33) rfl ?_); refine goesL_ (some 38) rfl rfl Try.func33 (by kernel_rfl) rfl #[.agg #[.int .i64 a0_0, .int .i64 a0_1, .int .i64 a0_2, .int .i64 a0_3, .int .i64 a0_4], .agg #[.int .i64 a1_0, .int .i64 a1_1]] rfl zqE ?_; (with_reducible refine (pianolaref03_Bridge.calls k a0_0 a0_1 a0_2 a0_3 a0_4 a1_0 a1_1 t323 t326 _ A6.out).mono ?_); rintro e w57 ⟨v324, rfl, ho0, hb⟩; refine ⟨_, rfl, ?_⟩; have n0_ := zA (Kd.R_below (zqC HO321.out) hb); have n1_ := zA (Kd.R_lower ho0 (below_size (by repeat (first | (with_reducible first | exact HB.out | apply below_alloc | apply pw_below_drewN | apply below_drew1 | refine below_set ?_ GE302.out | refine below_set ?_ GE303.out | refine below_set ?_ GE304.out | refine below_set ?_ GE310.out | refine below_set ?_ GE311.out | refine below_set ?_ GE317.out | refine below_set ?_ GE318.out) | exact HB.out)))); have n2_ := zA (blk_below (g := gb302) (o := .cells #[.int .i64 a0_0, .int .i64 a0_1, .int .i64 a0_2, .int .i64 a0_3, .int .i64 a0_4] 57 (0, 0)) (zqB BK302.out) hb); have n3_ := zA (blk_below (g := gb303) (o := .cells #[.int .i64 a1_0, .int .i64 a1_1] 47 (0, 0)) (zqB BK303.out) hb); have n4_ := zA (blk_below (g := gb304) (o := .cells #[.int .i64 a0_0, .int .i64 a0_1, .int .i64 a0_2, .int .i64 a0_3, .int .i64 a0_4] 58 (0, 0)) (zqB BK304.out) hb); have n5_ := zA (blk_below (g := gb310) (o := .cells #[.int .i64 t305, .int .i64 t306] 55 (0, 0)) (zqB BK310.out) hb); have n6_ := zA (blk_below (g := gb311) (o := .cells #[.int .i64 t307, .int .i64 t308] 55 (0, 0)) (zqB BK311.out) hb); have n7_ := zA (blk_below (g := gb317) (o := .cells #[.int .i64 t312, .int .i64 t313] 55 (0, 0)) (zqB BK317.out) hb); have n8_ := zA (blk_below (g := gb318) (o := .cells #[.int .i64 t314, .int .i64 t315] 55 (0, 0)) (zqB BK318.out) hb); have n9_ := zA (below_step (by repeat (first | (with_reducible first | exact HB.out | apply below_alloc | apply pw_below_drewN | apply below_drew1 | refine below_set ?_ GE302.out | refine below_set ?_ GE303.out | refine below_set ?_ GE304.out | refine below_set ?_ GE310.out | refine below_set ?_ GE311.out | refine below_set ?_ GE317.out | refine below_set ?_ GE318.out) | exact HB.out)) hb); clear HO321; clear BK302; clear BK303; clear BK304; clear BK310; clear BK311; clear BK317; clear BK318; clear HB; have HO321 := n0_; have HO325 := n1_; have BK302 := n2_; have BK303 := n3_; have BK304 := n4_; have BK310 := n5_; have BK311 := n6_; have BK317 := n7_; have BK318 := n8_; have HB := n9_; clear n0_ n1_ n2_ n3_ n4_ n5_ n6_ n7_ n8_ n9_; (try clear hb); (try clear hb2); (try clear hk); (try clear hi); (try clear ho0); have hcz58_0 : w57.cell? ⟨gb310, 0, none⟩ = some (.int .i64 t305) := (blk_cell BK310.out 0).trans rfl; have hcz58_1 : w57.cell? ⟨gb310, 1, none⟩ = some (.int .i64 t306) := (blk_cell BK310.out 1).trans rfl; have hfz58_0 := blk_frozen BK310.out 0; have hfz58_1 := blk_frozen BK310.out 1; have hcz59_0 : w57.cell? ⟨gb317, 0, none⟩ = some (.int .i64 t312) := (blk_cell BK317.out 0).trans rfl; have hcz59_1 : w57.cell? ⟨gb317, 1, none⟩ = some (.int .i64 t313) := (blk_cell BK317.out 1).trans rfl; have hfz59_0 := blk_frozen BK317.out 0; have hfz59_1 := blk_frozen BK317.out 1; have hcz60_0 : w57.cell? ⟨gb311, 0, none⟩ = some (.int .i64 t307) := (blk_cell BK311.out 0).trans rfl; have hcz60_1 : w57.cell? ⟨gb311, 1, none⟩ = some (.int .i64 t308) := (blk_cell BK311.out 1).trans rfl; have hfz60_0 := blk_frozen BK311.out 0; have hfz60_1 := blk_frozen BK311.out 1; have hcz61_0 : w57.cell? ⟨gb318, 0, none⟩ = some (.int .i64 t314) := (blk_cell BK318.out 0).trans rfl; have hcz61_1 : w57.cell? ⟨gb318, 1, none⟩ = some (.int .i64 t315) := (blk_cell BK318.out 1).trans rfl; have hfz61_0 := blk_frozen BK318.out 0; have hfz61_1 := blk_frozen BK318.out 1; obtain ⟨Ao62, co62, eo62⟩ := Kd.R_slice HO321.out; subst eo62; obtain ⟨Ao63, co63, eo63⟩ := Kd.R_slice HO325.out; subst eo63) | (go_at_call 34; (with_reducible refine (pianolalaw03_same.calls k _ _ t319 _ _ t323 true _ ?side1 ?side2 ?side3 ?side4 A10.out).mono ?_); (case side1 => exact zqK (Kd.R_reads' HO321.out).2.2); (case side2 => exact (Kd.R_reads' HO321.out).2.1); (case side3 => exact zqK (Kd.R_reads' HO325.out).2.2); (case side4 => exact (Kd.R_reads' HO325.out).2.1); rintro e w' ⟨rfl, ⟨nd, rfl⟩⟩) | (go_at_call 15; (with_reducible refine (pianolalaw03_works.calls  t328 _ A13.out).mono ?_); rintro e w64 ⟨rfl, hb⟩; have n0_ := zA (Kd.R_below (zqC HO321.out) hb); have n1_ := zA (Kd.R_below (zqC HO325.out) hb); have n2_ := zA (blk_below (g := gb302) (o := .cells #[.int .i64 a0_0, .int .i64 a0_1, .int .i64 a0_2, .int .i64 a0_3, .int .i64 a0_4] 57 (0, 0)) (zqB BK302.out) hb); have n3_ := zA (blk_below (g := gb303) (o := .cells #[.int .i64 a1_0, .int .i64 a1_1] 47 (0, 0)) (zqB BK303.out) hb); have n4_ := zA (blk_below (g := gb304) (o := .cells #[.int .i64 a0_0, .int .i64 a0_1, .int .i64 a0_2, .int .i64 a0_3, .int .i64 a0_4] 58 (0, 0)) (zqB BK304.out) hb); have n5_ := zA (blk_below (g := gb310) (o := .cells #[.int .i64 t305, .int .i64 t306] 55 (0, 0)) (zqB BK310.out) hb); have n6_ := zA (blk_below (g := gb311) (o := .cells #[.int .i64 t307, .int .i64 t308] 55 (0, 0)) (zqB BK311.out) hb); have n7_ := zA (blk_below (g := gb317) (o := .cells #[.int .i64 t312, .int .i64 t313] 55 (0, 0)) (zqB BK317.out) hb); have n8_ := zA (blk_below (g := gb318) (o := .cells #[.int .i64 t314, .int .i64 t315] 55 (0, 0)) (zqB BK318.out) hb); have n9_ := zA (below_step (by repeat (first | (with_reducible first | exact HB.out | apply below_alloc | apply pw_below_drewN | apply below_drew1 | refine below_set ?_ GE302.out | refine below_set ?_ GE303.out | refine below_set ?_ GE304.out | refine below_set ?_ GE310.out | refine below_set ?_ GE311.out | refine below_set ?_ GE317.out | refine below_set ?_ GE318.out) | exact HB.out)) hb); clear HO321; clear HO325; clear BK302; clear BK303; clear BK304; clear BK310; clear BK311; clear BK317; clear BK318; clear HB; have HO321 := n0_; have HO325 := n1_; have BK302 := n2_; have BK303 := n3_; have BK304 := n4_; have BK310 := n5_; have BK311 := n6_; have BK317 := n7_; have BK318 := n8_; have HB := n9_; clear n0_ n1_ n2_ n3_ n4_ n5_ n6_ n7_ n8_ n9_; (try clear hb); (try clear hb2); (try clear hk); (try clear hi)))
      all_goals (try (first | (rename_i hz; exact absurd Qc7.out.1 hz) | (rename_i hz; exact absurd Qc7.out.2 hz) | (rename_i hz; exact absurd Qc8.out.1 hz) | (rename_i hz; exact absurd Qc8.out.2 hz)))
      go_ret
      exact ⟨zqR, by repeat (first | (with_reducible first | exact HB.out | apply below_alloc | apply pw_below_drewN | apply below_drew1 | refine below_set ?_ GE302.out | refine below_set ?_ GE303.out | refine below_set ?_ GE304.out | refine below_set ?_ GE310.out | refine below_set ?_ GE311.out | refine below_set ?_ GE317.out | refine below_set ?_ GE318.out) | exact HB.out)⟩
     ·
      rw [if_neg c12] at H
      exact absurd ((Option.some.inj H).trans HRT.out) (by decide)
    ·
     replace c11 := Bool.eq_false_iff.mpr c11
     subst c11
     have H1 : (some false) = some r := by rw [if_neg (show ¬ (false = true) by decide)] at H; exact H
     clear H; have H := H1; clear H1
     exact absurd ((Option.some.inj H).trans HRT.out) (by decide)
   ·
    rw [if_neg c9] at H
    exact absurd ((Option.some.inj H).trans HRT.out) (by decide)
  ·
   rw [if_neg c8] at H
   exact absurd ((Option.some.inj H).trans HRT.out) (by decide)
 ·
  rw [if_neg c7] at H
  exact absurd ((Option.some.inj H).trans HRT.out) (by decide)end Go.Proofs.Ytegffliopblajaa.P
end
section
namespace Go.Proofs.Ytegffliopblajaa.P
open Go.RowKit Go.Proofs.YtegffliopblajaaW.PrintWords Go.Proofs.YtegffliopblajaaW.PrintLast Go.Proofs.YtegffliopblajaaW.PrintMore
set_option linter.unusedVariables false
set_option linter.unusedSimpArgs false
def c52 (x : S47) : S52 := ⟨x.f0, x.f1⟩
def gS (l : List S47) : List S52 := l.map c52
theorem gS_len (l : List S47) : (gS l).length = l.length := by simp [gS]
theorem gS_get (l : List S47) (i : Int) : rd_T52 (gS l) i = ⟨(rd_T47 l i).f0, (rd_T47 l i).f1⟩ := by
  unfold rd_T52 rd_T47 gS
  rw [List.getD_eq_getElem?_getD, List.getD_eq_getElem?_getD, List.getElem?_map]
  cases h : l[i.toNat]? with
  | none => rfl
  | some x => rfl
theorem w_succ (i : Nat) (h : i ≤ 1000000000) : wrap64 ((i : Int) + 1) = ((i + 1 : Nat) : Int) := by unfold wrap64; omega
theorem is_f (a b c : Int) : pianolaref03_is.f a b c = some (btw b a c) := by
  unfold pianolaref03_is.f pianolaref01_Is.f btw
  by_cases h : a ≥ b
  · rw [if_pos h, decide_eq_true (show b ≤ a from h)]; rfl
  · rw [if_neg h, decide_eq_false (show ¬ b ≤ a from h)]; rfl
theorem slot_f (a b : Int) : pianolaref03_slot.f a b = some (good ⟨a, b⟩) := by
  unfold pianolaref03_slot.f good
  by_cases h : 0 ≤ a
  · by_cases h2 : a < b <;> simp [h, h2]
  · simp [h]
end Go.Proofs.Ytegffliopblajaa.P
end
section
namespace Go.Proofs.Ytegffliopblajaa.P
open Go.RowKit Go.Proofs.YtegffliopblajaaW.PrintWords Go.Proofs.YtegffliopblajaaW.PrintLast Go.Proofs.YtegffliopblajaaW.PrintMore
set_option linter.unusedVariables false
set_option linter.unusedSimpArgs false
theorem paper_f (a b c d e : Int) : pianolaref03_paper.f a b c d e = some (if paperOk a b c d e = true then 0 else 3) := by
  unfold pianolaref03_paper.f paperOk
  simp only [is_f, Option.bind_some]
  by_cases h1 : 900 ≤ a
  · by_cases h2 : a ≤ b
    · have hb : btw 900 a b = true := by simp [btw, h1, h2]
      rw [if_pos hb]
      by_cases h3 : b ≤ 1100
      · rw [if_neg (by omega)]
        cases h4 : btw 1 c 1000 <;> cases h5 : btw 1 d 1000 <;> cases h6 : btw 1 e 1000 <;> simp [h1, h2, h3]
      · rw [if_pos (by omega)]
        simp [h3]
    · have hb : btw 900 a b = false := by simp [btw, h2]
      rw [hb]
      simp [h2]
  · have hb : btw 900 a b = false := by simp [btw, h1]
    rw [hb]
    simp [h1]
end Go.Proofs.Ytegffliopblajaa.P
end
section
namespace Go.Proofs.Ytegffliopblajaa.P
open Go.RowKit Go.Proofs.YtegffliopblajaaW.PrintWords Go.Proofs.YtegffliopblajaaW.PrintLast Go.Proofs.YtegffliopblajaaW.PrintMore
set_option linter.unusedVariables false
set_option linter.unusedSimpArgs false
def barsR (a b c d e : Int) : Int × Int × Int × Int × Int := if paperOk a b c d e = true then (if barHi b c < 1 then (0, 0, 0, 0, 20) else if barLo a d > barTo b e then (1, barHi b c, 0, 0, 0) else (1, barHi b c, barLo a d, barTo b e, 0)) else (0, 0, 0, 0, 3)
theorem Bars_f (a b c d e : Int) : punch_Bars.f a b c d e = some (barsR a b c d e) := by
  unfold punch_Bars.f barsR
  by_cases h1 : paperOk a b c d e = true
  · rw [if_pos h1, if_pos h1]
    by_cases h2 : barHi b c < 1
    · rw [if_pos h2, if_pos h2]
    · rw [if_neg h2, if_neg h2]
      by_cases h3 : barLo a d > barTo b e
      · rw [if_pos h3, if_pos h3]
      · rw [if_neg h3, if_neg h3]
  · rw [if_neg h1, if_neg h1]
theorem bar_bounds {a b c d e : Int} (h : paperOk a b c d e = true) : 0 ≤ barHi b c ∧ barHi b c ≤ 1200 ∧ 1 ≤ barLo a d ∧ 0 ≤ barTo b e ∧ barTo b e ≤ 1200 := by
  have hp := paperOk_iff.1 h
  unfold barHi barLo barTo
  refine ⟨Int.ediv_nonneg (by omega) (by omega), ?_, ?_, Int.ediv_nonneg (by omega) (by omega), ?_⟩
  · have : 1000 * c / b < 1201 := Int.ediv_lt_of_lt_mul (by omega) (by omega)
    omega
  · exact Int.le_ediv_of_mul_le (by omega) (by omega)
  · have : (1000 * e - 1) / b < 1201 := Int.ediv_lt_of_lt_mul (by omega) (by omega)
    omega
theorem hole_iff {a b c d e : Int} (h : paperOk a b c d e = true) {n : Nat} (hn : n ≤ 1200) : pianolaref03_hole.f a b c d e n = some (decide ((n : Int) ≤ barHi b c)) := by
  have hp := paperOk_iff.1 h
  have m1 : 0 ≤ (n : Int) * b := Int.mul_nonneg (by omega) (by omega)
  have m2 : (n : Int) * b ≤ 1200 * 1100 := Int.mul_le_mul (by omega) (by omega) (by omega) (by omega)
  unfold pianolaref03_hole.f
  rw [show wrap64 ((n : Int) * b) = n * b by unfold wrap64; omega, show wrap64 (1000 * c) = 1000 * c by unfold wrap64; omega]
  congr 1
  exact decide_eq_decide.2 (by unfold barHi; rw [Int.le_ediv_iff_mul_le (by omega)])
theorem lo_iff {a d : Int} (ha : 0 < a) {n : Int} : n * a ≥ 1000 * d ↔ barLo a d ≤ n := by
  unfold barLo
  rw [← Int.lt_add_one_iff, Int.ediv_lt_iff_lt_mul ha, Int.add_mul, Int.one_mul]
  omega
theorem to_iff {b e : Int} (hb : 0 < b) {n : Int} : n * b < 1000 * e ↔ n ≤ barTo b e := by
  unfold barTo
  rw [Int.le_ediv_iff_mul_le hb]
  omega
theorem bridge_iff {a b c d e : Int} (h : paperOk a b c d e = true) {n : Nat} (hn : n ≤ 1200) : pianolaref03_bridge.f a b c d e n = some (decide (barLo a d ≤ n ∧ (n : Int) ≤ barTo b e)) := by
  have hp := paperOk_iff.1 h
  have m1 : 0 ≤ (n : Int) * b := Int.mul_nonneg (by omega) (by omega)
  have m2 : (n : Int) * b ≤ 1200 * 1100 := Int.mul_le_mul (by omega) (by omega) (by omega) (by omega)
  have m3 : 0 ≤ (n : Int) * a := Int.mul_nonneg (by omega) (by omega)
  have m4 : (n : Int) * a ≤ 1200 * 1100 := Int.mul_le_mul (by omega) (by omega) (by omega) (by omega)
  unfold pianolaref03_bridge.f
  rw [show wrap64 ((n : Int) * a) = n * a by unfold wrap64; omega, show wrap64 ((n : Int) * b) = n * b by unfold wrap64; omega, show wrap64 (1000 * d) = 1000 * d by unfold wrap64; omega, show wrap64 (1000 * e) = 1000 * e by unfold wrap64; omega]
  by_cases c1 : (n : Int) * a ≥ 1000 * d
  · rw [if_pos c1]
    congr 1
    exact decide_eq_decide.2 ⟨fun h2 => ⟨(lo_iff (by omega)).1 c1, (to_iff (by omega)).1 h2⟩, fun h2 => (to_iff (by omega)).2 h2.2⟩
  · rw [if_neg c1]
    congr 1
    exact (decide_eq_false (fun h2 => c1 ((lo_iff (by omega)).2 h2.1))).symm
def s1 (H : Int) (i : Nat) : Int := if 1 ≤ min (i : Int) H then 1 else 0
def s3 (L T : Int) (i : Nat) : Int := if L ≤ min (i : Int) T then L else 0
def s4 (L T : Int) (i : Nat) : Int := if L ≤ min (i : Int) T then min (i : Int) T else 0
theorem rbars_l0 {a b c d e : Int} (h : paperOk a b c d e = true) : ∀ (m i : Nat), i + m = 1200 → Ev (fun k => pianolaref03_Bars.l0 k ((i : Int) + 1) a b c d e (s1 (barHi b c) i) (min (i : Int) (barHi b c)) (s3 (barLo a d) (barTo b e) i) (s4 (barLo a d) (barTo b e) i)) (barsR a b c d e)
 | 0, i, hi => by
  obtain rfl : i = 1200 := by omega
  obtain ⟨h1, h2, h3, h4, h5⟩ := bar_bounds h
  refine Ev.step (f := fun _ => some (barsR a b c d e)) (fun k => ?_) (Ev.now _)
  rw [pianolaref03_Bars.l0, if_neg (by omega)]
  unfold barsR s1 s3 s4
  rw [if_pos h]
  by_cases c1 : barHi b c < 1
  ·
   rw [if_pos (by omega), if_pos c1]
  ·
   rw [if_neg (by omega), if_neg c1, if_pos (by omega), show min ((1200 : Nat) : Int) (barHi b c) = barHi b c by omega, show min ((1200 : Nat) : Int) (barTo b e) = barTo b e by omega]
   by_cases c2 : barLo a d > barTo b e
   ·
    rw [if_pos c2, if_neg (by omega), if_neg (by omega)]
   ·
    rw [if_neg c2, if_pos (by omega), if_pos (by omega)]
 | m + 1, i, hi => by
  obtain ⟨h1, h2, h3, h4, h5⟩ := bar_bounds h
  have ih := rbars_l0 h m (i + 1) (by omega)
  have hc : (i : Int) + 1 = ((i + 1 : Nat) : Int) := by omega
  rw [hc]
  refine Ev.step (f := fun k => pianolaref03_Bars.j1 k ((i + 1 : Nat) : Int) a b c d e (s1 (barHi b c) (i + 1)) (min ((i + 1 : Nat) : Int) (barHi b c)) (s3 (barLo a d) (barTo b e) i) (s4 (barLo a d) (barTo b e) i)) (fun k => ?_) ?_
  ·
   rw [pianolaref03_Bars.l0, if_pos (by omega), hole_iff h (by omega)]
   show (if decide (((i + 1 : Nat) : Int) ≤ barHi b c) = true then _ else _) = _
   by_cases c1 : ((i + 1 : Nat) : Int) ≤ barHi b c
   ·
    rw [if_pos (decide_eq_true c1)]
    unfold s1
    rw [if_pos (by omega), show min ((i + 1 : Nat) : Int) (barHi b c) = ((i + 1 : Nat) : Int) by omega]
   ·
    rw [if_neg (by simpa using c1)]
    unfold s1
    rw [show min ((i + 1 : Nat) : Int) (barHi b c) = barHi b c by omega, show min (i : Int) (barHi b c) = barHi b c by omega]
  ·
   refine Ev.step (fun k => ?_) ih
   rw [pianolaref03_Bars.j1, bridge_iff h (by omega), w_succ (i + 1) (by omega)]
   show (if decide (barLo a d ≤ ((i + 1 : Nat) : Int) ∧ ((i + 1 : Nat) : Int) ≤ barTo b e) = true then _ else _) = _
   rw [show ((i + 1 + 1 : Nat) : Int) = ((i + 1 : Nat) : Int) + 1 by omega]
   by_cases c1 : barLo a d ≤ ((i + 1 : Nat) : Int) ∧ ((i + 1 : Nat) : Int) ≤ barTo b e
   ·
    rw [if_pos (decide_eq_true c1)]
    unfold s3 s4
    by_cases c2 : barLo a d ≤ (i : Int)
    ·
     rw [if_pos (show barLo a d ≤ min (i : Int) (barTo b e) by omega), if_neg (by omega), if_pos (by omega), if_pos (by omega), show min ((i + 1 : Nat) : Int) (barTo b e) = ((i + 1 : Nat) : Int) by omega]
    ·
     rw [if_neg (show ¬ barLo a d ≤ min (i : Int) (barTo b e) by omega), if_pos rfl, if_pos (by omega), if_pos (by omega), show min ((i + 1 : Nat) : Int) (barTo b e) = ((i + 1 : Nat) : Int) by omega, show barLo a d = ((i + 1 : Nat) : Int) by omega]
   ·
    rw [if_neg (by simpa using c1)]
    unfold s3 s4
    by_cases c2 : barLo a d ≤ min (i : Int) (barTo b e)
    ·
     rw [if_pos c2, if_pos c2, if_pos (by omega), if_pos (by omega), show min ((i + 1 : Nat) : Int) (barTo b e) = min (i : Int) (barTo b e) by omega]
    ·
     rw [if_neg c2, if_neg c2, if_neg (by omega), if_neg (by omega)]
theorem rBars_f (a b c d e : Int) : Ev (fun k => pianolaref03_Bars.f k a b c d e) (barsR a b c d e) := by
  unfold pianolaref03_Bars.f
  simp only [paper_f, Option.bind_some]
  by_cases c1 : paperOk a b c d e = true
  · simp only [if_pos c1, if_true]
    obtain ⟨h1, h2, h3, h4, h5⟩ := bar_bounds c1
    have := rbars_l0 c1 1200 0 (by omega)
    unfold s1 s3 s4 at this
    rw [if_neg (by omega), if_neg (by omega), if_neg (by omega), show min ((0 : Nat) : Int) (barHi b c) = 0 by omega] at this
    exact this
  · simp only [if_neg c1]
    unfold barsR
    rw [if_neg c1]
    exact Ev.now _
theorem barsR_ok {a b c d e : Int} (h : (barsR a b c d e).2.2.2.2 = 0) : (barsR a b c d e).1 = 1 ∧ 1 ≤ (barsR a b c d e).2.1 ∧ (barsR a b c d e).2.1 ≤ 1200 ∧ 0 ≤ (barsR a b c d e).2.2.1 ∧ (barsR a b c d e).2.2.1 ≤ (barsR a b c d e).2.2.2.1 ∧ (barsR a b c d e).2.2.2.1 ≤ 1200 := by
  unfold barsR at h ⊢
  split at h
  · rename_i c1
    obtain ⟨h1, h2, h3, h4, h5⟩ := bar_bounds c1
    rw [if_pos c1]
    split at h
    · cases h
    · rename_i c2
      rw [if_neg c2]
      split at h
      · rename_i c3
        rw [if_pos c3]
        refine ⟨rfl, ?_, ?_, ?_, ?_, ?_⟩ <;> dsimp only <;> omega
      · rename_i c3
        rw [if_neg c3]
        refine ⟨rfl, ?_, ?_, ?_, ?_, ?_⟩ <;> dsimp only <;> omega
  · cases h
end Go.Proofs.Ytegffliopblajaa.P
end
section
namespace Go.Proofs.Ytegffliopblajaa.P
open Go.RowKit Go.Proofs.YtegffliopblajaaW.PrintWords Go.Proofs.YtegffliopblajaaW.PrintLast Go.Proofs.YtegffliopblajaaW.PrintMore
set_option linter.unusedVariables false
set_option linter.unusedSimpArgs false
def hF (H L tq : Int) (n : Nat) (p : Int) : Int := min H (tq - p - (n + n * L))
def wF (L T tq : Int) (n : Nat) (p : Int) : Int := min T (tq - p - ((n + 1 : Nat) : Int) - n * L)
def cutF (H L T tq : Int) : Nat → Int → List S47
  | 0, p => [⟨p, p + hF H L tq 0 p⟩]
  | n + 1, p => ⟨p, p + hF H L tq (n + 1) p⟩ :: cutF H L T tq n (p + hF H L tq (n + 1) p + wF L T tq n (p + hF H L tq (n + 1) p))
structure Bd (H L T tq : Int) : Prop where
  h1 : 1 ≤ H
  h2 : H ≤ 1200
  l0 : 0 ≤ L
  lt : L ≤ T
  t2 : T ≤ 1200
  to2 : tq ≤ 1000000
structure Inv (H L T tq : Int) (n : Nat) (p : Int) : Prop where
  lo : (n : Int) + 1 + n * L ≤ tq - p
  hi : tq - p ≤ n * H + H + n * T
  p0 : 0 ≤ p
  n2 : n ≤ 200
theorem w_id {x : Int} (h0 : -4000000000000000000 ≤ x) (h1 : x ≤ 4000000000000000000) : wrap64 x = x := by unfold wrap64; omega
theorem mul_b {n : Nat} {z : Int} (hn : n ≤ 201) (h0 : 0 ≤ z) (h1 : z ≤ 1200) : 0 ≤ (n : Int) * z ∧ (n : Int) * z ≤ 241200 := by
  have a : 0 ≤ (n : Int) * z := Int.mul_nonneg (by omega) h0
  have b : (n : Int) * z ≤ 201 * 1200 := Int.mul_le_mul (by omega) h1 h0 (by omega)
  omega
theorem mul_s (n : Nat) (z : Int) : ((n + 1 : Nat) : Int) * z = n * z + z := by rw [show ((n + 1 : Nat) : Int) = (n : Int) + 1 by omega, Int.add_mul, Int.one_mul]
theorem mul_m {n : Nat} {y z : Int} (h : y ≤ z) : (n : Int) * y ≤ n * z := Int.mul_le_mul_of_nonneg_left h (by omega)
theorem mul_1 {n : Nat} {z : Int} (h : 1 ≤ z) : (n : Int) ≤ n * z := by
  have := mul_m (n := n) h
  omega
theorem h_bd {H L T tq : Int} (b : Bd H L T tq) {n : Nat} {p : Int} (i : Inv H L T tq n p) : 1 ≤ hF H L tq n p ∧ hF H L tq n p ≤ H ∧ hF H L tq n p ≤ tq - p := by
  obtain ⟨h1, h2, h3, h4, h5, h6⟩ := b
  obtain ⟨i1, i2, i3, i4⟩ := i
  have a1 := mul_b (n := n) (z := L) (by omega) h3 (by omega)
  unfold hF
  omega
theorem w_bd {H L T tq : Int} (b : Bd H L T tq) {n : Nat} {p : Int} (i : Inv H L T tq (n + 1) p) : L ≤ wF L T tq n (p + hF H L tq (n + 1) p) ∧ wF L T tq n (p + hF H L tq (n + 1) p) ≤ T ∧ wF L T tq n (p + hF H L tq (n + 1) p) ≤ tq - p ∧ Inv H L T tq n (p + hF H L tq (n + 1) p + wF L T tq n (p + hF H L tq (n + 1) p)) := by
  have hb := h_bd b i
  obtain ⟨h1, h2, h3, h4, h5, h6⟩ := b
  obtain ⟨i1, i2, i3, i4⟩ := i
  have a1 := mul_b (n := n) (z := L) (by omega) h3 (by omega)
  have a2 := mul_s n L
  have a3 := mul_s n T
  have a4 := mul_s n H
  have a5 := mul_m (n := n) h4
  have a6 := mul_1 (n := n) h1
  have a7 := mul_b (n := n) (z := T) (by omega) (by omega) h5
  rw [a2] at i1
  rw [a3, a4] at i2
  have e1 : hF H L tq (n + 1) p = min H (tq - p - (((n + 1 : Nat) : Int) + ((n : Int) * L + L))) := by unfold hF; rw [a2]
  obtain ⟨h, hh⟩ : ∃ h, h = hF H L tq (n + 1) p := ⟨_, rfl⟩
  rw [← hh] at hb e1 ⊢
  have e2 : wF L T tq n (p + h) = min T (tq - (p + h) - ((n + 1 : Nat) : Int) - n * L) := rfl
  obtain ⟨w, hw⟩ : ∃ w, w = wF L T tq n (p + h) := ⟨_, rfl⟩
  rw [← hw] at e2 ⊢
  clear hh hw
  refine ⟨by omega, by omega, by omega, ?_, ?_, by omega, by omega⟩
  · omega
  · omega
theorem cut_len (H L T tq : Int) : ∀ (n : Nat) (p : Int), (cutF H L T tq n p).length = n + 1
  | 0, _ => rfl
  | n + 1, _ => by rw [cutF, List.length_cons, cut_len]
theorem least_f (a v : Int) : Ev (fun k => punch_least.f k a [v]) (min a v) := by
  refine ⟨2, fun k hk => ?_⟩
  obtain ⟨k, rfl⟩ : ∃ q, k = q + 2 := ⟨k - 2, by omega⟩
  show punch_least.l0 (k + 1 + 1) a [v] 1 0 = _
  rw [punch_least.l0, if_pos (by simp), if_pos (by omega), if_pos (by simp), show wrap64 ((0 : Int) + 1) = 1 by unfold wrap64; omega, punch_least.l0, if_neg (by simp)]
  congr 1
  show mn a v = _
  unfold mn
  omega
theorem pbridge_l0 {H L T fr tq : Int} (b : Bd H L T tq) : ∀ (n : Nat) (p : Int) (out : List S47), Inv H L T tq n p → out.length + n ≤ 1000 → Ev (fun k => punch_Bridge.l0 k out p n fr tq 1 H L T) (out ++ cutF H L T tq n p, 0)
 | 0, p, out, i, ho => by
  have hb := h_bd b i
  obtain ⟨i1, i2, i3, i4⟩ := i
  have b2 := b.h2
  have b6 := b.to2
  refine Ev.step (f := fun k => (punch_least.f k H [tq - p]).bind fun t => (if out.length < 8796093022208 then ((some (out ++ [(⟨p, wrap64 (p + t)⟩ : S47)] : List (S47))).bind fun y275 => punch_Bridge.l0 k y275 (wrap64 (p + t)) (-1) fr tq 1 H L T) else none)) (fun k => ?_) ?_
  ·
   rw [punch_Bridge.l0, if_pos (by omega), show wrap64 (wrap64 (tq - p) - wrap64 (((0 : Nat) : Int) * wrap64 (1 + L))) = tq - p by rw [show ((0 : Nat) : Int) * wrap64 (1 + L) = 0 by simp]; unfold wrap64; omega]
   congr 1
   funext t
   simp only [if_neg (show ¬ ((0 : Nat) : Int) > 0 by omega), show wrap64 (((0 : Nat) : Int) - 1) = -1 by unfold wrap64; omega]
  ·
   refine Ev.bind (least_f H (tq - p)) ?_
   have e : min H (tq - p) = hF H L tq 0 p := by unfold hF; simp
   rw [e]
   simp only [if_pos (show out.length < 8796093022208 by omega), Option.bind_some, show wrap64 (p + hF H L tq 0 p) = p + hF H L tq 0 p by unfold wrap64; omega]
   refine Ev.step (f := fun _ => some (out ++ cutF H L T tq 0 p, 0)) (fun k => ?_) (Ev.now _)
   rw [punch_Bridge.l0, if_neg (by omega)]
   rfl
 | n + 1, p, out, i, ho => by
  have hb := h_bd b i
  obtain ⟨w1, w2, w3, i'⟩ := w_bd b i
  have a1 := mul_b (n := n + 1) (z := L) (by have := i.n2; omega) b.l0 (by have := b.lt; have := b.t2; omega)
  have a2 := mul_b (n := n) (z := L) (by have := i.n2; omega) b.l0 (by have := b.lt; have := b.t2; omega)
  have ih := pbridge_l0 (fr := fr) b n _ (out ++ [⟨p, p + hF H L tq (n + 1) p⟩]) i' (by rw [List.length_append]; simp; omega)
  obtain ⟨i1, i2, i3, i4⟩ := i
  have b1 := b.h1
  have b2 := b.h2
  have b3 := b.l0
  have b4 := b.lt
  have b5 := b.t2
  have b6 := b.to2
  have m1 : ((n + 1 : Nat) : Int) * (1 + L) = ((n + 1 : Nat) : Int) + ((n + 1 : Nat) : Int) * L := by rw [Int.mul_add, Int.mul_one]
  refine Ev.step (f := fun k => (punch_least.f k H [tq - p - (((n + 1 : Nat) : Int) + ((n + 1 : Nat) : Int) * L)]).bind fun t => (if out.length < 8796093022208 then ((some (out ++ [(⟨p, wrap64 (p + t)⟩ : S47)] : List (S47))).bind fun y275 => (punch_least.f k T [wrap64 (wrap64 (wrap64 (tq - wrap64 (p + t)) - wrap64 (((n + 1 : Nat) : Int) * 1)) - wrap64 ((n : Int) * L))]).bind fun t281 => punch_Bridge.l0 k y275 (wrap64 (wrap64 (p + t) + t281)) n fr tq 1 H L T) else none)) (fun k => ?_) ?_
  ·
   rw [punch_Bridge.l0, if_pos (by omega), show wrap64 (1 + L) = 1 + L by unfold wrap64; omega, m1, show wrap64 (wrap64 (tq - p) - wrap64 (((n + 1 : Nat) : Int) + ((n + 1 : Nat) : Int) * L)) = tq - p - (((n + 1 : Nat) : Int) + ((n + 1 : Nat) : Int) * L) by unfold wrap64; omega]
   congr 1
   funext t
   simp only [if_pos (show ((n + 1 : Nat) : Int) > 0 by omega), show wrap64 (((n + 1 : Nat) : Int) - 1) = n by unfold wrap64; omega]
  ·
   refine Ev.bind (least_f H _) ?_
   have e : min H (tq - p - (((n + 1 : Nat) : Int) + ((n + 1 : Nat) : Int) * L)) = hF H L tq (n + 1) p := rfl
   rw [e]
   have ew : wrap64 (wrap64 (wrap64 (tq - (p + hF H L tq (n + 1) p)) - wrap64 (((n + 1 : Nat) : Int) * 1)) - wrap64 ((n : Int) * L)) = tq - (p + hF H L tq (n + 1) p) - ((n + 1 : Nat) : Int) - (n : Int) * L := by
    rw [Int.mul_one]
    unfold wrap64; omega
   simp only [if_pos (show out.length < 8796093022208 by omega), Option.bind_some, show wrap64 (p + hF H L tq (n + 1) p) = p + hF H L tq (n + 1) p by unfold wrap64; omega, ew]
   refine Ev.bind (least_f T _) ?_
   have e2 : min T (tq - (p + hF H L tq (n + 1) p) - ((n + 1 : Nat) : Int) - (n : Int) * L) = wF L T tq n (p + hF H L tq (n + 1) p) := rfl
   rw [e2]
   simp only [show wrap64 (p + hF H L tq (n + 1) p + wF L T tq n (p + hF H L tq (n + 1) p)) = p + hF H L tq (n + 1) p + wF L T tq n (p + hF H L tq (n + 1) p) by unfold wrap64; omega]
   have e3 : out ++ cutF H L T tq (n + 1) p = out ++ [⟨p, p + hF H L tq (n + 1) p⟩] ++ cutF H L T tq n (p + hF H L tq (n + 1) p + wF L T tq n (p + hF H L tq (n + 1) p)) := by rw [cutF, List.append_assoc]; rfl
   rw [e3]
   exact ih
theorem can_f (H L T r : Int) (m j : Nat) (hH : 0 ≤ H ∧ H ≤ 1200) (hL : 0 ≤ L ∧ L ≤ 1200) (hT : 0 ≤ T ∧ T ≤ 1200) (hm : m ≤ 201) (hj : j ≤ 201) : pianolaref03_can.f 1 H L T r m j = some (decide ((m : Int) + j * L ≤ r ∧ r ≤ m * H + j * T)) := by
  have a1 := mul_b (n := j) (z := L) hj hL.1 hL.2
  have a2 := mul_b (n := m) (z := H) hm hH.1 hH.2
  have a3 := mul_b (n := j) (z := T) hj hT.1 hT.2
  unfold pianolaref03_can.f
  rw [Int.mul_one, w_id (x := (m : Int)) (by omega) (by omega), w_id (x := (j : Int) * L) (by omega) (by omega), w_id (x := (m : Int) * H) (by omega) (by omega), w_id (x := (j : Int) * T) (by omega) (by omega), w_id (x := (m : Int) + j * L) (by omega) (by omega), w_id (x := (m : Int) * H + j * T) (by omega) (by omega)]
  by_cases c : r ≥ (m : Int) + j * L
  · rw [if_pos c]
    congr 1
    exact decide_eq_decide.2 ⟨fun h => ⟨c, h⟩, fun h => h.2⟩
  · rw [if_neg c, decide_eq_false (fun h => c h.1)]
end Go.Proofs.Ytegffliopblajaa.P
end
section
namespace Go.Proofs.Ytegffliopblajaa.P
open Go.RowKit Go.Proofs.YtegffliopblajaaW.PrintWords Go.Proofs.YtegffliopblajaaW.PrintLast Go.Proofs.YtegffliopblajaaW.PrintMore
set_option linter.unusedVariables false
set_option linter.unusedSimpArgs false
theorem gS_app (a b : List S47) : gS (a ++ b) = gS a ++ gS b := by unfold gS; rw [List.map_append]
theorem inv_bd {H L T tq : Int} (b : Bd H L T tq) {n : Nat} {p : Int} (i : Inv H L T tq n p) : 0 ≤ tq - p ∧ tq - p ≤ 1000000 ∧ 0 ≤ (n : Int) * L ∧ (n : Int) * L ≤ 241200 ∧ 0 ≤ p ∧ p ≤ 1000000 := by
  have a1 := mul_b (n := n) (z := L) (by have := i.n2; omega) b.l0 (by have := b.lt; have := b.t2; omega)
  have := i.lo
  have := i.p0
  have := b.to2
  omega
theorem rb_l2 {H L T fr tq : Int} (b : Bd H L T tq) {N n i : Nat} (hN : i + n + 1 = N) (hN2 : N ≤ 200) {p : Int} (v : Inv H L T tq n p) (out : List S47) (ho : out.length ≤ 1000) {r : List S52 × Int}
  (hr : Ev (fun k => if n = 0 then some (gS (out ++ [⟨p, p + hF H L tq n p⟩]), 0) else pianolaref03_Bridge.l3 k N (gS (out ++ [⟨p, p + hF H L tq n p⟩])) (p + hF H L tq n p) i T fr tq 1 H L T) r) :
  ∀ (m : Nat), hF H L tq n p + m ≤ H → Ev (fun k => pianolaref03_Bridge.l2 k N (gS out) p i (hF H L tq n p + m) fr tq 1 H L T) r := by
 have hb := h_bd b v
 have hi := inv_bd b v
 have n2 := v.n2
 have b2 := b.h2
 have bt := b.t2
 have bl := b.lt
 have b0 := b.l0
 have b1 := b.h1
 have e0 : ∀ m : Nat, hF H L tq n p + m ≤ H → ∀ k, pianolaref03_Bridge.l2 (k + 1) N (gS out) p i (hF H L tq n p + m) fr tq 1 H L T = if ((n : Int) + n * L ≤ tq - p - (hF H L tq n p + m) ∧ tq - p - (hF H L tq n p + m) ≤ n * H + n * T) then (if n = 0 then some (gS out ++ [⟨p, p + (hF H L tq n p + m)⟩], 0) else pianolaref03_Bridge.l3 k N (gS out ++ [⟨p, p + (hF H L tq n p + m)⟩]) (p + (hF H L tq n p + m)) i T fr tq 1 H L T) else pianolaref03_Bridge.l2 k N (gS out) p i (hF H L tq n p + m - 1) fr tq 1 H L T := by
  intro m hm k
  have ew : wrap64 (wrap64 ((N : Int) - 1) - i) = n := by rw [w_id (x := (N : Int) - 1) (by omega) (by omega), w_id (by omega) (by omega)]; omega
  have eN : wrap64 ((N : Int) - 1) = (N : Int) - 1 := w_id (by omega) (by omega)
  rw [pianolaref03_Bridge.l2, ew, w_id (x := tq - p) (by omega) (by omega), w_id (x := tq - p - (hF H L tq n p + m)) (by omega) (by omega), w_id (x := p + (hF H L tq n p + m)) (by omega) (by omega), w_id (x := hF H L tq n p + m - 1) (by omega) (by omega), eN,
   can_f H L T _ n n ⟨by omega, b2⟩ ⟨b0, by omega⟩ ⟨by omega, bt⟩ (by omega) (by omega)]
  show (if decide _ = true then _ else _) = _
  by_cases c : ((n : Int) + n * L ≤ tq - p - (hF H L tq n p + m) ∧ tq - p - (hF H L tq n p + m) ≤ n * H + n * T)
  ·
   rw [if_pos (decide_eq_true c), if_pos c, if_pos (by rw [gS_len]; omega), Option.bind_some]
   by_cases c2 : n = 0
   ·
    rw [if_pos (by omega), if_pos c2]
   ·
    rw [if_neg (by omega), if_neg c2]
  ·
   rw [if_neg (by simpa using c), if_neg c]
 intro m
 induction m with
 | zero =>
  intro hm
  refine Ev.step (e0 0 hm) ?_
  have hv : ((n : Int) + n * L ≤ tq - p - (hF H L tq n p + (0 : Nat)) ∧ tq - p - (hF H L tq n p + (0 : Nat)) ≤ n * H + n * T) := by
   have h1 := v.hi
   have a5 := mul_m (n := n) bl
   have a6 := mul_1 (n := n) b1
   have e : hF H L tq n p = min H (tq - p - (n + n * L)) := rfl
   constructor <;> omega
  simp only [if_pos hv]
  have e1 : gS out ++ [(⟨p, p + hF H L tq n p⟩ : S52)] = gS (out ++ [⟨p, p + hF H L tq n p⟩]) := by rw [gS_app]; rfl
  simp only [show p + (hF H L tq n p + ((0 : Nat) : Int)) = p + hF H L tq n p by omega]
  simp only [e1]
  exact hr
 | succ m ih =>
  intro hm
  refine Ev.step (e0 (m + 1) hm) ?_
  have hv : ¬ ((n : Int) + n * L ≤ tq - p - (hF H L tq n p + (m + 1 : Nat)) ∧ tq - p - (hF H L tq n p + (m + 1 : Nat)) ≤ n * H + n * T) := by
   have e : hF H L tq n p = min H (tq - p - (n + n * L)) := rfl
   omega
  simp only [if_neg hv, show hF H L tq n p + ((m + 1 : Nat) : Int) - 1 = hF H L tq n p + (m : Int) by omega]
  exact ih (by omega)
theorem rb_l3 {H L T fr tq : Int} (b : Bd H L T tq) {N n i : Nat} (hN : i + (n + 1) + 1 = N) (hN2 : N ≤ 200) {p : Int} (v : Inv H L T tq (n + 1) p) (out : List S47) {r : List S52 × Int}
  (hr : Ev (fun k => pianolaref03_Bridge.l1 k N (gS out) (p + hF H L tq (n + 1) p + wF L T tq n (p + hF H L tq (n + 1) p)) ((i + 1 : Nat) : Int) fr tq 1 H L T) r) :
  ∀ (m : Nat), wF L T tq n (p + hF H L tq (n + 1) p) + m ≤ T → Ev (fun k => pianolaref03_Bridge.l3 k N (gS out) (p + hF H L tq (n + 1) p) i (wF L T tq n (p + hF H L tq (n + 1) p) + m) fr tq 1 H L T) r := by
 have hb := h_bd b v
 obtain ⟨w1, w2, w3, v'⟩ := w_bd b v
 have hi := inv_bd b v
 have hi' := inv_bd b v'
 have n2 := v.n2
 have b2 := b.h2
 have bt := b.t2
 have bl := b.lt
 have b0 := b.l0
 have b1 := b.h1
 have b6 := b.to2
 obtain ⟨q, hq⟩ : ∃ q, q = p + hF H L tq (n + 1) p := ⟨_, rfl⟩
 have vq : (n + 1 : Nat) + ((n + 1 : Nat) : Int) * L ≤ tq - q := by
  have e : hF H L tq (n + 1) p = min H (tq - p - (((n + 1 : Nat) : Int) + ((n + 1 : Nat) : Int) * L)) := rfl
  omega
 have vq2 : tq - q ≤ ((n + 1 : Nat) : Int) * H + ((n + 1 : Nat) : Int) * T := by
  have h1 := v.hi
  have a5 := mul_m (n := n + 1) bl
  have a6 := mul_1 (n := n + 1) b1
  have e : hF H L tq (n + 1) p = min H (tq - p - (((n + 1 : Nat) : Int) + ((n + 1 : Nat) : Int) * L)) := rfl
  omega
 rw [← hq] at hr w1 w2 w3 hi' v' ⊢
 have hq2 : 0 ≤ tq - q ∧ tq - q ≤ 1000000 ∧ 0 ≤ q ∧ q ≤ 1000000 := by omega
 clear hq hb
 have e0 : ∀ m : Nat, wF L T tq n q + m ≤ T → ∀ k, pianolaref03_Bridge.l3 (k + 1) N (gS out) q i (wF L T tq n q + m) fr tq 1 H L T = if (((n + 1 : Nat) : Int) + n * L ≤ tq - q - (wF L T tq n q + m) ∧ tq - q - (wF L T tq n q + m) ≤ ((n + 1 : Nat) : Int) * H + n * T) then pianolaref03_Bridge.l1 k N (gS out) (q + (wF L T tq n q + m)) ((i + 1 : Nat) : Int) fr tq 1 H L T else pianolaref03_Bridge.l3 k N (gS out) q i (wF L T tq n q + m - 1) fr tq 1 H L T := by
  intro m hm k
  have ew : wrap64 (wrap64 ((N : Int) - 1) - i) = ((n + 1 : Nat) : Int) := by rw [w_id (x := (N : Int) - 1) (by omega) (by omega), w_id (by omega) (by omega)]; omega
  have ew2 : wrap64 (wrap64 ((N : Int) - 2) - i) = n := by rw [w_id (x := (N : Int) - 2) (by omega) (by omega), w_id (by omega) (by omega)]; omega
  rw [pianolaref03_Bridge.l3, ew, ew2, w_id (x := tq - q) (by omega) (by omega), w_id (x := tq - q - (wF L T tq n q + m)) (by omega) (by omega), w_id (x := q + (wF L T tq n q + m)) (by omega) (by omega), w_id (x := wF L T tq n q + m - 1) (by omega) (by omega), w_succ i (by omega),
   can_f H L T _ (n + 1) n ⟨by omega, b2⟩ ⟨b0, by omega⟩ ⟨by omega, bt⟩ (by omega) (by omega)]
  show (if decide _ = true then _ else _) = _
  by_cases c : (((n + 1 : Nat) : Int) + n * L ≤ tq - q - (wF L T tq n q + m) ∧ tq - q - (wF L T tq n q + m) ≤ ((n + 1 : Nat) : Int) * H + n * T)
  ·
   rw [if_pos (decide_eq_true c), if_pos c]
  ·
   rw [if_neg (by simpa using c), if_neg c]
 intro m
 induction m with
 | zero =>
  intro hm
  refine Ev.step (e0 0 hm) ?_
  have hv : (((n + 1 : Nat) : Int) + n * L ≤ tq - q - (wF L T tq n q + (0 : Nat)) ∧ tq - q - (wF L T tq n q + (0 : Nat)) ≤ ((n + 1 : Nat) : Int) * H + n * T) := by
   have a2 := mul_s n L
   have a3 := mul_s n T
   have a5 := mul_m (n := n) bl
   have a6 := mul_1 (n := n + 1) b1
   rw [a2] at vq
   rw [a3] at vq2
   have e : wF L T tq n q = min T (tq - q - ((n + 1 : Nat) : Int) - n * L) := rfl
   constructor <;> omega
  simp only [if_pos hv, show q + (wF L T tq n q + ((0 : Nat) : Int)) = q + wF L T tq n q by omega]
  exact hr
 | succ m ih =>
  intro hm
  refine Ev.step (e0 (m + 1) hm) ?_
  have hv : ¬ (((n + 1 : Nat) : Int) + n * L ≤ tq - q - (wF L T tq n q + (m + 1 : Nat)) ∧ tq - q - (wF L T tq n q + (m + 1 : Nat)) ≤ ((n + 1 : Nat) : Int) * H + n * T) := by
   have e : wF L T tq n q = min T (tq - q - ((n + 1 : Nat) : Int) - n * L) := rfl
   omega
  simp only [if_neg hv, show wF L T tq n q + ((m + 1 : Nat) : Int) - 1 = wF L T tq n q + (m : Int) by omega]
  exact ih (by omega)
theorem rb_l1 {H L T fr tq : Int} (b : Bd H L T tq) {N : Nat} (hN2 : N ≤ 200) : ∀ (n i : Nat) (p : Int) (out : List S47), i + n + 1 = N → Inv H L T tq n p → out.length + n ≤ 1000 →
    Ev (fun k => pianolaref03_Bridge.l1 k N (gS out) p i fr tq 1 H L T) (gS (out ++ cutF H L T tq n p), 0)
  | 0, i, p, out, hN, v, ho => by
    have hb := h_bd b v
    refine Ev.step (f := fun k => pianolaref03_Bridge.l2 k N (gS out) p i H fr tq 1 H L T) (fun k => by rw [pianolaref03_Bridge.l1, if_pos (by omega)]) ?_
    have := rb_l2 (fr := fr) b (n := 0) hN hN2 v out (by omega) (r := (gS (out ++ cutF H L T tq 0 p), 0)) (by simp only [if_true]; exact Ev.now _) (H - hF H L tq 0 p).toNat (by omega)
    rwa [show hF H L tq 0 p + ((H - hF H L tq 0 p).toNat : Int) = H by omega] at this
  | n + 1, i, p, out, hN, v, ho => by
    have hb := h_bd b v
    obtain ⟨w1, w2, w3, v'⟩ := w_bd b v
    have ih := rb_l1 (fr := fr) b (N := N) hN2 n (i + 1) _ (out ++ [⟨p, p + hF H L tq (n + 1) p⟩]) (by omega) v' (by rw [List.length_append]; simp; omega)
    have e3 : out ++ cutF H L T tq (n + 1) p = out ++ [⟨p, p + hF H L tq (n + 1) p⟩] ++ cutF H L T tq n (p + hF H L tq (n + 1) p + wF L T tq n (p + hF H L tq (n + 1) p)) := by rw [cutF, List.append_assoc]; rfl
    rw [e3]
    refine Ev.step (f := fun k => pianolaref03_Bridge.l2 k N (gS out) p i H fr tq 1 H L T) (fun k => by rw [pianolaref03_Bridge.l1, if_pos (by omega)]) ?_
    have h3 := rb_l3 (fr := fr) b hN hN2 v _ ih (T - wF L T tq n (p + hF H L tq (n + 1) p)).toNat (by omega)
    rw [show wF L T tq n (p + hF H L tq (n + 1) p) + ((T - wF L T tq n (p + hF H L tq (n + 1) p)).toNat : Int) = T by omega] at h3
    have := rb_l2 (fr := fr) b (n := n + 1) hN hN2 v out (by omega) (r := (gS (out ++ [⟨p, p + hF H L tq (n + 1) p⟩] ++ cutF H L T tq n (p + hF H L tq (n + 1) p + wF L T tq n (p + hF H L tq (n + 1) p))), 0)) (by
      simp only [if_neg (show ¬ n + 1 = 0 by omega)]
      exact h3) (H - hF H L tq (n + 1) p).toNat (by omega)
    rwa [show hF H L tq (n + 1) p + ((H - hF H L tq (n + 1) p).toNat : Int) = H by omega] at this
end Go.Proofs.Ytegffliopblajaa.P
end
section
namespace Go.Proofs.Ytegffliopblajaa.P
open Go.RowKit Go.Proofs.YtegffliopblajaaW.PrintWords Go.Proofs.YtegffliopblajaaW.PrintLast Go.Proofs.YtegffliopblajaaW.PrintMore
set_option linter.unusedVariables false
set_option linter.unusedSimpArgs false
def jJ (H T len : Int) : Nat := if len > H then ((len + T - 1) / (H + T)).toNat else 0
theorem jJ_up {H T len : Int} (h1 : 1 ≤ H) (h2 : 0 ≤ T) (h3 : 1 ≤ len) : len ≤ (jJ H T len : Int) * H + H + jJ H T len * T := by
  unfold jJ
  split
  · have q0 : 0 ≤ (len + T - 1) / (H + T) := Int.ediv_nonneg (by omega) (by omega)
    have := Int.lt_ediv_add_one_mul_self (len + T - 1) (show 0 < H + T by omega)
    rw [Int.toNat_of_nonneg q0]
    rw [Int.add_mul, Int.one_mul, Int.mul_add] at this
    omega
  · omega
theorem jJ_min {H T len : Int} (h1 : 1 ≤ H) (h2 : 0 ≤ T) (h3 : 1 ≤ len) {j : Nat} (h : j < jJ H T len) : ¬ len ≤ (j : Int) * H + H + j * T := by
  unfold jJ at h
  split at h
  · rename_i c
    have q0 : 0 ≤ (len + T - 1) / (H + T) := Int.ediv_nonneg (by omega) (by omega)
    have h4 := Int.ediv_mul_le (len + T - 1) (show H + T ≠ 0 by omega)
    have h5 : ((j : Int) + 1) * (H + T) ≤ (len + T - 1) / (H + T) * (H + T) := Int.mul_le_mul_of_nonneg_right (by omega) (by omega)
    rw [Int.add_mul, Int.one_mul, Int.mul_add] at h5
    omega
  · omega
theorem jJ_le {H T len : Int} (h1 : 1 ≤ H) (h2 : 0 ≤ T) (h4 : T ≤ 1200) (h3 : 1 ≤ len) (h5 : len ≤ 10000) : jJ H T len ≤ 11200 := by
  unfold jJ
  split
  · have : (len + T - 1) / (H + T) ≤ len + T - 1 := Int.ediv_le_self _ (by omega)
    omega
  · omega
def bridgeD (H L T x y : Int) : List S47 × Int :=
  if jJ H T (y - x) > 199 ∨ (jJ H T (y - x) > 0 ∧ T = 0) ∨ y - x < (jJ H T (y - x) : Int) + 1 + jJ H T (y - x) * L then ([], 20) else (cutF H L T y (jJ H T (y - x)) x, 0)
theorem bridge_inv {H L T x y : Int} (b : Bd H L T y) (hx : 0 ≤ x) (hl : 1 ≤ y - x) (hc : ¬ (jJ H T (y - x) > 199 ∨ (jJ H T (y - x) > 0 ∧ T = 0) ∨ y - x < (jJ H T (y - x) : Int) + 1 + jJ H T (y - x) * L)) : Inv H L T y (jJ H T (y - x)) x := by
  have := jJ_up (T := T) b.h1 (by have := b.l0; have := b.lt; omega) hl
  refine ⟨by omega, this, hx, by omega⟩
theorem pbridge_j {H L T x y : Int} (b : Bd H L T y) (hx : 0 ≤ x) (hl : 1 ≤ y - x) (hl2 : y - x ≤ 10000) : Ev (fun k => punch_Bridge.j0 k (y - x) ((jJ H T (y - x) : Int) + 1) x y 1 H L T) (bridgeD H L T x y) := by
  have b0 := b.l0
  have b1 := b.lt
  have b2 := b.t2
  have hj := jJ_le (H := H) (T := T) b.h1 (by omega) b2 hl hl2
  have a1 : 0 ≤ (jJ H T (y - x) : Int) * L := Int.mul_nonneg (by omega) b0
  have a2 : (jJ H T (y - x) : Int) * L ≤ 11200 * 1200 := Int.mul_le_mul (by omega) (by omega) b0 (by omega)
  have inv := fun hc => bridge_inv b hx hl hc
  obtain ⟨J, hJ⟩ : ∃ J, J = jJ H T (y - x) := ⟨_, rfl⟩
  have eD : bridgeD H L T x y = if J > 199 ∨ (J > 0 ∧ T = 0) ∨ y - x < (J : Int) + 1 + J * L then ([], 20) else (cutF H L T y J x, 0) := by rw [hJ]; rfl
  rw [eD]
  rw [← hJ] at hj a1 a2 inv ⊢
  have e1 : ∀ k, punch_Bridge.j1 (k + 1) ((J : Int) + 1) true x y 1 H L T = some ([], 20) := fun k => by rw [punch_Bridge.j1, if_pos rfl]
  have e2 : wrap64 (((J : Int) + 1) + wrap64 (wrap64 (((J : Int) + 1) - 1) * L)) = (J : Int) + 1 + J * L := by
    rw [w_id (x := (J : Int) + 1 - 1) (by omega) (by omega), show (J : Int) + 1 - 1 = J by omega, w_id (x := (J : Int) * L) (by omega) (by omega), w_id (by omega) (by omega)]
  have e3 : ∀ k, punch_Bridge.j0 (k + 1) (y - x) ((J : Int) + 1) x y 1 H L T = if J > 199 ∨ (J > 0 ∧ T = 0) then punch_Bridge.j1 k ((J : Int) + 1) true x y 1 H L T else punch_Bridge.j1 k ((J : Int) + 1) (decide (y - x < (J : Int) + 1 + J * L)) x y 1 H L T := fun k => by
    rw [punch_Bridge.j0, e2]
    by_cases c1 : J > 199
    · rw [if_pos (by omega), if_pos (.inl c1)]
    · rw [if_neg (by omega)]
      by_cases c2 : J > 0
      · rw [if_pos (by omega)]
        by_cases c3 : T = 0
        · rw [if_pos c3, if_pos (.inr ⟨c2, c3⟩)]
        · rw [if_neg c3, if_neg (by rintro (h | h); omega; exact c3 h.2)]
      · rw [if_neg (by omega), if_neg (by rintro (h | h); omega; omega)]
  refine Ev.step e3 ?_
  by_cases c : J > 199 ∨ (J > 0 ∧ T = 0)
  · simp only [if_pos c]
    rw [if_pos (by rcases c with c | c; exact .inl c; exact .inr (.inl c))]
    exact Ev.step (f := fun _ => some ([], 20)) e1 (Ev.now _)
  · simp only [if_neg c]
    by_cases c2 : y - x < (J : Int) + 1 + J * L
    · rw [if_pos (.inr (.inr c2))]
      simp only [decide_eq_true c2]
      exact Ev.step (f := fun _ => some ([], 20)) e1 (Ev.now _)
    · have hc : ¬ (J > 199 ∨ (J > 0 ∧ T = 0) ∨ y - x < (J : Int) + 1 + J * L) := by
        rintro (h | h | h)
        · exact c (.inl h)
        · exact c (.inr h)
        · exact c2 h
      rw [if_neg hc]
      simp only [decide_eq_false c2]
      refine Ev.step (f := fun k => punch_Bridge.l0 k [] x J x y 1 H L T) (fun k => ?_) ?_
      · rw [punch_Bridge.j1, if_neg (by decide), w_id (x := (J : Int) + 1 - 1) (by omega) (by omega), show (J : Int) + 1 - 1 = J by omega]
      · have := pbridge_l0 (fr := x) b J x [] (inv hc) (by simp; omega)
        simpa using this
theorem rb_can {H L T x y : Int} (b : Bd H L T y) (hx : 0 ≤ x) (hl : 1 ≤ y - x) (hl2 : y - x ≤ 10000) {j : Nat} (hj : j ≤ 199) (k : Nat) : pianolaref03_Bridge.l0 (k + 1) ((j : Int) + 1) x y 1 H L T = if ((j : Int) + 1 + j * L ≤ y - x ∧ y - x ≤ j * H + H + j * T) then pianolaref03_Bridge.l1 k ((j : Int) + 1) [] x 0 x y 1 H L T else (if j = 199 then some ([], 20) else if T = 0 then some ([], 20) else pianolaref03_Bridge.l0 k (((j + 1 : Nat) : Int) + 1) x y 1 H L T) := by
  have b0 := b.l0
  have b1 := b.lt
  have b2 := b.t2
  have b3 := b.h1
  have b4 := b.h2
  rw [pianolaref03_Bridge.l0, w_id (x := y - x) (by omega) (by omega), w_id (x := (j : Int) + 1 - 1) (by omega) (by omega), show (j : Int) + 1 - 1 = (j : Int) by omega, show (j : Int) + 1 = ((j + 1 : Nat) : Int) by omega, can_f H L T (y - x) (j + 1) j ⟨by omega, b4⟩ ⟨b0, by omega⟩ ⟨by omega, b2⟩ (by omega) (by omega), w_succ (j + 1) (by omega), mul_s]
  show (if decide _ = true then _ else _) = _
  by_cases c : (((j + 1 : Nat) : Int) + j * L ≤ y - x ∧ y - x ≤ j * H + H + j * T)
  · rw [if_pos (decide_eq_true c), if_pos c]
  · rw [if_neg (by simpa using c), if_neg c]
    by_cases c2 : j = 199
    · rw [if_pos (by omega), if_pos c2]
    · rw [if_neg (by omega), if_neg c2]
      rw [show ((j + 1 + 1 : Nat) : Int) = ((j + 1 : Nat) : Int) + 1 by omega]
theorem rb_stuck {H L T x y : Int} (b : Bd H L T y) (hx : 0 ≤ x) (hl : 1 ≤ y - x) (hl2 : y - x ≤ 10000) : ∀ (m j : Nat), j + m = 199 → (T = 0 ∧ ¬ ((j : Int) + 1 + j * L ≤ y - x ∧ y - x ≤ j * H + H + j * T) ∨ ∀ j' : Nat, j ≤ j' → j' ≤ 199 → ¬ ((j' : Int) + 1 + j' * L ≤ y - x ∧ y - x ≤ j' * H + H + j' * T)) → Ev (fun k => pianolaref03_Bridge.l0 k ((j : Int) + 1) x y 1 H L T) ([], 20)
  | 0, j, h, hn => by
    have hn' : ¬ ((j : Int) + 1 + j * L ≤ y - x ∧ y - x ≤ j * H + H + j * T) := by
      rcases hn with hn | hn
      · exact hn.2
      · exact hn j (Nat.le_refl _) (by omega)
    exact Ev.step (f := fun _ => some ([], 20)) (fun k => by rw [rb_can b hx hl hl2 (by omega), if_neg hn', if_pos (by omega)]) (Ev.now _)
  | m + 1, j, h, hn => by
    have hn' : ¬ ((j : Int) + 1 + j * L ≤ y - x ∧ y - x ≤ j * H + H + j * T) := by
      rcases hn with hn | hn
      · exact hn.2
      · exact hn j (Nat.le_refl _) (by omega)
    by_cases c : T = 0
    · exact Ev.step (f := fun _ => some ([], 20)) (fun k => by rw [rb_can b hx hl hl2 (by omega), if_neg hn', if_neg (by omega), if_pos c]) (Ev.now _)
    · refine Ev.step (fun k => by rw [rb_can b hx hl hl2 (by omega), if_neg hn', if_neg (by omega), if_neg c]) (rb_stuck b hx hl hl2 m (j + 1) (by omega) (.inr (fun j' h1 h2 => ?_)))
      rcases hn with hn | hn
      · exact absurd hn.1 c
      · exact hn j' (by omega) h2
theorem rb_find {H L T x y : Int} (b : Bd H L T y) (hx : 0 ≤ x) (hl : 1 ≤ y - x) (hl2 : y - x ≤ 10000) {J : Nat} (hJ : J ≤ 199) (hok : ((J : Int) + 1 + J * L ≤ y - x ∧ y - x ≤ J * H + H + J * T)) (hT : J = 0 ∨ T ≠ 0) (hmin : ∀ j : Nat, j < J → ¬ y - x ≤ (j : Int) * H + H + j * T) {r : List S52 × Int}
    (hr : Ev (fun k => pianolaref03_Bridge.l1 k ((J : Int) + 1) [] x 0 x y 1 H L T) r) : ∀ (m j : Nat), j + m = J → Ev (fun k => pianolaref03_Bridge.l0 k ((j : Int) + 1) x y 1 H L T) r
  | 0, j, h => by
    obtain rfl : j = J := by omega
    exact Ev.step (fun k => by rw [rb_can b hx hl hl2 hJ, if_pos hok]) hr
  | m + 1, j, h => by
    have := hmin j (by omega)
    refine Ev.step (fun k => by rw [rb_can b hx hl hl2 (by omega), if_neg (fun h => this h.2), if_neg (by omega), if_neg (by omega)]) (rb_find b hx hl hl2 hJ hok hT hmin hr m (j + 1) (by omega))
theorem rbridge_j {H L T x y : Int} (b : Bd H L T y) (hx : 0 ≤ x) (hl : 1 ≤ y - x) (hl2 : y - x ≤ 10000) : Ev (fun k => pianolaref03_Bridge.j0 k false x y 1 H L T) (gS (bridgeD H L T x y).1, (bridgeD H L T x y).2) := by
  have b0 := b.l0
  have b1 := b.lt
  have b2 := b.t2
  have up := jJ_up (T := T) b.h1 (by omega) hl
  have mn := fun j => jJ_min (T := T) b.h1 (by omega) hl (j := j)
  have inv := fun hc => bridge_inv b hx hl hc
  obtain ⟨J, hJ⟩ : ∃ J, J = jJ H T (y - x) := ⟨_, rfl⟩
  have eD : bridgeD H L T x y = if J > 199 ∨ (J > 0 ∧ T = 0) ∨ y - x < (J : Int) + 1 + J * L then ([], 20) else (cutF H L T y J x, 0) := by rw [hJ]; rfl
  rw [eD]
  rw [← hJ] at up mn inv
  refine Ev.step (f := fun k => pianolaref03_Bridge.l0 k (((0 : Nat) : Int) + 1) x y 1 H L T) (fun k => by rw [pianolaref03_Bridge.j0, if_neg (by decide)]; rfl) ?_
  by_cases hc : J > 199 ∨ (J > 0 ∧ T = 0) ∨ y - x < (J : Int) + 1 + J * L
  · rw [if_pos hc]
    refine rb_stuck b hx hl hl2 199 0 (by omega) ?_
    rcases hc with hc | hc | hc
    · exact .inr (fun j' _ h2 h => mn j' (by omega) h.2)
    · exact .inl ⟨hc.2, fun h => mn 0 hc.1 h.2⟩
    · refine .inr (fun j' _ h2 h => ?_)
      by_cases c : j' < J
      · exact mn j' c h.2
      · have h3 : (J : Int) * L ≤ (j' : Int) * L := Int.mul_le_mul_of_nonneg_right (by omega) b0
        omega
  · rw [if_neg hc]
    have hi := inv hc
    refine rb_find b hx hl hl2 (J := J) (by omega) ⟨by omega, up⟩ (by by_cases c : J = 0; exact .inl c; exact .inr (fun e => hc (.inr (.inl ⟨by omega, e⟩)))) mn ?_ J 0 (by omega)
    have := rb_l1 (fr := x) b (N := J + 1) (by omega) J 0 x [] (by omega) hi (by simp; omega)
    simpa [gS] using this
def bridgeR (a b c d e x y : Int) : List S47 × Int := if (barsR a b c d e).2.2.2.2 = 0 then (if good ⟨x, y⟩ = true ∧ y - x ≤ 10000 then bridgeD (barsR a b c d e).2.1 (barsR a b c d e).2.2.1 (barsR a b c d e).2.2.2.1 x y else ([], 3)) else ([], (barsR a b c d e).2.2.2.2)
theorem good_iff {x y : Int} : good ⟨x, y⟩ = true ↔ 0 ≤ x ∧ x < y ∧ y ≤ 1000000 := by
  unfold good
  simp only [Bool.and_eq_true, decide_eq_true_eq]
  omega
theorem bd_of {a b c d e x y : Int} (h : (barsR a b c d e).2.2.2.2 = 0) (hg : good ⟨x, y⟩ = true) : Bd (barsR a b c d e).2.1 (barsR a b c d e).2.2.1 (barsR a b c d e).2.2.2.1 y := by
  obtain ⟨h1, h2, h3, h4, h5, h6⟩ := barsR_ok h
  have := good_iff.1 hg
  exact ⟨h2, h3, h4, h5, h6, by omega⟩
theorem Bridge_f (a b c d e x y : Int) (wx : (Lit.int .i64 x).wf = true) (wy : (Lit.int .i64 y).wf = true) : Ev (fun k => punch_Bridge.f k a b c d e x y) (bridgeR a b c d e x y) := by
  unfold punch_Bridge.f bridgeR
  simp only [Bars_f, Option.bind_some]
  by_cases h : (barsR a b c d e).2.2.2.2 = 0
  · simp only [if_pos h, show punch_Slot_good.f x y = some (good ⟨x, y⟩) from good_f ⟨x, y⟩, Option.bind_some]
    by_cases hg : good ⟨x, y⟩ = true
    · have hg' := good_iff.1 hg
      have bd := bd_of h hg
      have h1 := (barsR_ok h).1
      simp only [if_pos hg, w_id (x := y - x) (by omega) (by omega), h1]
      by_cases hl : y - x > 10000
      · rw [if_neg (fun h => by omega)]
        simp only [if_pos hl]
        exact Ev.now _
      · rw [if_pos ⟨hg, by omega⟩]
        simp only [if_neg hl]
        have := pbridge_j bd hg'.1 (by omega) (by omega)
        obtain ⟨H, hH⟩ : ∃ H, H = (barsR a b c d e).2.1 := ⟨_, rfl⟩
        obtain ⟨L, hL⟩ : ∃ L, L = (barsR a b c d e).2.2.1 := ⟨_, rfl⟩
        obtain ⟨T, hT⟩ : ∃ T, T = (barsR a b c d e).2.2.2.1 := ⟨_, rfl⟩
        rw [← hH, ← hL, ← hT] at this bd
        simp only [← hH, ← hL, ← hT]
        have b0 := bd.l0
        have b1 := bd.lt
        have b2 := bd.t2
        have b3 := bd.h1
        have b4 := bd.h2
        by_cases hc : y - x > H
        · have q0 : 0 ≤ (y - x + T - 1) / (H + T) := Int.ediv_nonneg (by omega) (by omega)
          have q1 : (y - x + T - 1) / (H + T) ≤ y - x + T - 1 := Int.ediv_le_self _ (by omega)
          have ej : ((jJ H T (y - x) : Nat) : Int) + 1 = wrap64 (1 + wrap64 (Int.tdiv (wrap64 (wrap64 (wrap64 (wrap64 (y - x - H) + H) + T) - 1)) (wrap64 (H + T)))) := by
            rw [w_id (x := y - x - H) (by omega) (by omega), w_id (x := y - x - H + H) (by omega) (by omega), w_id (x := y - x - H + H + T) (by omega) (by omega), w_id (x := y - x - H + H + T - 1) (by omega) (by omega), w_id (x := H + T) (by omega) (by omega), show y - x - H + H + T - 1 = y - x + T - 1 by omega, Int.tdiv_eq_ediv_of_nonneg (by omega), w_id (x := (y - x + T - 1) / (H + T)) (by omega) (by omega), w_id (by omega) (by omega)]
            unfold jJ
            rw [if_pos hc, Int.toNat_of_nonneg q0]
            omega
          simp only [if_pos hc, if_neg (show ¬ wrap64 (H + T) = 0 by rw [w_id (by omega) (by omega)]; omega), ← ej]
          exact this
        · simp only [if_neg hc]
          have ej : jJ H T (y - x) = 0 := by unfold jJ; rw [if_neg hc]
          rw [ej] at this
          exact this
    · simp only [if_neg hg]
      rw [if_neg (fun h => hg h.1)]
      exact Ev.now _
  · simp only [if_neg h]
    exact Ev.now _
theorem rBridge_f (a b c d e x y : Int) (wx : (Lit.int .i64 x).wf = true) (wy : (Lit.int .i64 y).wf = true) : Ev (fun k => pianolaref03_Bridge.f k a b c d e x y) (gS (bridgeR a b c d e x y).1, (bridgeR a b c d e x y).2) := by
  unfold pianolaref03_Bridge.f bridgeR
  refine Ev.bind (rBars_f a b c d e) ?_
  by_cases h : (barsR a b c d e).2.2.2.2 = 0
  · simp only [if_pos h, slot_f, Option.bind_some]
    by_cases hg : good ⟨x, y⟩ = true
    · have hg' := good_iff.1 hg
      have bd := bd_of h hg
      have h1 := (barsR_ok h).1
      simp only [if_pos hg, w_id (x := y - x) (by omega) (by omega), h1]
      by_cases hl : y - x > 10000
      · rw [if_neg (fun h => by omega)]
        simp only [decide_eq_true hl]
        exact Ev.step (f := fun _ => some ([], 3)) (fun k => by rw [pianolaref03_Bridge.j0, if_pos rfl]) (Ev.now _)
      · rw [if_pos ⟨hg, by omega⟩]
        simp only [decide_eq_false hl]
        exact rbridge_j bd hg'.1 (by omega) (by omega)
    · simp only [if_neg hg]
      rw [if_neg (fun h => hg h.1)]
      exact Ev.step (f := fun _ => some ([], 3)) (fun k => by rw [pianolaref03_Bridge.j0, if_pos rfl]) (Ev.now _)
  · simp only [if_neg h]
    exact Ev.now _
theorem same_l0 (l : List S47) (hl : l.length ≤ 1000000) : ∀ (m i : Nat), i + m = l.length → Ev (fun k => pianolalaw03_same.l0 k l (gS l) i) true
  | 0, i, h => by
    refine Ev.step (f := fun _ => some true) (fun k => ?_) (Ev.now _)
    rw [pianolalaw03_same.l0, if_neg (by omega)]
  | m + 1, i, h => by
    refine Ev.step (fun k => ?_) (same_l0 l hl m (i + 1) (by omega))
    rw [pianolalaw03_same.l0, if_pos (by omega), if_pos (by omega), if_pos (by rw [gS_len]; omega), gS_get, w_succ i (by omega), if_neg (by simp)]
theorem same_f (l : List S47) (hl : l.length ≤ 1000000) : Ev (fun k => pianolalaw03_same.f k l (gS l)) true := by
  unfold pianolalaw03_same.f
  simp only [gS_len, if_true]
  exact same_l0 l hl l.length 0 (by omega)
theorem bridgeR_len (a b c d e x y : Int) : (bridgeR a b c d e x y).1.length ≤ 1000 := by
  unfold bridgeR
  split
  · split
    · unfold bridgeD
      split
      · exact Nat.zero_le _
      · rename_i h
        show (cutF _ _ _ _ _ _).length ≤ _
        rw [cut_len]
        omega
    · exact Nat.zero_le _
  · exact Nat.zero_le _
end Go.Proofs.Ytegffliopblajaa.P
end
section
namespace Go.Proofs.Ytegffliopblajaa.P
open Go.RowKit Go.Proofs.YtegffliopblajaaW.PrintWords Go.Proofs.YtegffliopblajaaW.PrintLast Go.Proofs.YtegffliopblajaaW.PrintMore
set_option linter.unusedSimpArgs false
theorem barsLaw_ev (a b c d e x y : Int) (wx : (Lit.int .i64 x).wf = true) (wy : (Lit.int .i64 y).wf = true) : Ev (fun k => pianolalaw03_PunchBars.f k a b c d e x y) true := by
  unfold pianolalaw03_PunchBars.f
  simp only [Bars_f, Option.bind_some]
  refine Ev.bind (rBars_f a b c d e) ?_
  refine Ev.bind (Bridge_f a b c d e x y wx wy) ?_
  refine Ev.bind (rBridge_f a b c d e x y wx wy) ?_
  simp only [beq_self_eq_true, Bool.and_self, if_true]
  refine Ev.bind (same_f _ (by have := bridgeR_len a b c d e x y; omega)) ?_
  simp only [if_true]
  exact Ev.now _
end Go.Proofs.Ytegffliopblajaa.P
namespace Go.Proofs.Ytegffliopblajaa.Pure
open P Go.Proofs.YtegffliopblajaaW.PrintWords
theorem PunchBars (a b c d e x y : Int) (wx : (Lit.int .i64 x).wf = true) (wy : (Lit.int .i64 y).wf = true) : ∃ k, pianolalaw03_PunchBars.f k a b c d e x y = some true := (barsLaw_ev a b c d e x y wx wy).rounds
end Go.Proofs.Ytegffliopblajaa.Pure
end
