/- Words and contracts for a claim. -/
import Derived.Test.YtegffliopblajaaPunchDays5

section
open List (setIfInBounds_toArray set_cons_zero set_cons_succ)
section
namespace Go.Proofs.Ytegffliopblajaa.P
open Go.RowKit Go.Proofs.YtegffliopblajaaW.PrintWords Go.Proofs.YtegffliopblajaaW.PrintLast Go.Proofs.YtegffliopblajaaW.PrintMore
attribute [local go_sem] max2_int min2_int max_two min_two max_three min_three max_four min_four
set_option linter.unusedVariables false
set_option linter.unusedSimpArgs false
set_option maxHeartbeats 8000000 in
set_option maxRecDepth 100000 in
theorem pianolalaw03_PunchDays.calls (k : Nat) (a0_0 : Int) (a0_1 : Int) (a0_2 : Int) (a0_3 : Int) (a0_4 : Int) (a1 : Int) (a2 : Int) (a3 : Int) (r : Bool) (hrt : r = true) (w : World) (h : pianolalaw03_PunchDays.f k a0_0 a0_1 a0_2 a0_3 a0_4 a1 a2 a3 = some r) :
  Calls Try.prog 12 #[.agg #[.int .u8 a0_0, .int .u8 a0_1, .int .u8 a0_2, .int .u8 a0_3, .int .u8 a0_4], .int .u8 a1, .int .u8 a2, .int .u16 a3] w fun e w' => e = .returned (.bool r) ∧ Below w.heap.size w w' := by
 have HRT := zA hrt
 clear hrt
 have hu86 := Try.underlying86
 have hu57 := Try.underlying57
 have hu55 := Try.underlying55
 have hu47 := Try.underlying47
 have HB := zA (Below.refl w.heap.size w)
 have H : ((pianolalaw03_Sheet_made.f a0_0 a0_1 a0_2 a0_3 a0_4).bind fun bt150 => (if (wrap64 ((wrap64 (bt150.2.1 - bt150.1)) + 1)) = 0 then (none) else ((punch_Bars.f bt150.1 bt150.2.1 bt150.2.2.1 bt150.2.2.2.1 bt150.2.2.2.2).bind fun bt156 => (pianolalaw03_PunchDays.l0 k a1 a2 (wrap64 (bt150.1 + (Int.tmod (wrap64 (a3)) (wrap64 ((wrap64 (bt150.2.1 - bt150.1)) + 1))))) bt156.2.2.2.2 false 0 bt150.1 bt150.2.1 bt150.2.2.1 bt150.2.2.2.1 bt150.2.2.2.2 bt156.1 bt156.2.1 bt156.2.2.1 bt156.2.2.2.1)))) = some r := h
 clear h
 replace H := Option.bind_eq_some_iff.mp H
 obtain ⟨⟨t150, t151, t152, t153, t154⟩, A50, H⟩ := H
 replace H : (if (wrap64 ((wrap64 (t151 - t150)) + 1)) = 0 then (none) else ((punch_Bars.f t150 t151 t152 t153 t154).bind fun bt156 => (pianolalaw03_PunchDays.l0 k a1 a2 (wrap64 (t150 + (Int.tmod (wrap64 (a3)) (wrap64 ((wrap64 (t151 - t150)) + 1))))) bt156.2.2.2.2 false 0 t150 t151 t152 t153 t154 bt156.1 bt156.2.1 bt156.2.2.1 bt156.2.2.2.1))) = some r := H
 have A5 := zA A50
 clear A50
 by_cases c6 : (wrap64 ((wrap64 (t151 - t150)) + 1)) = 0
 ·
  rw [if_pos c6] at H
  exact absurd H (by simp)
 ·
  rw [if_neg c6] at H
  have c6b0 : ((wrap64 ((wrap64 (t151 - t150)) + 1)) == 0) = false := beq_eq_false_iff_ne.mpr c6
  have c6b1 : ((wrap64 ((wrap64 (t151 - t150)) + 1)) != 0) = true := bne_iff_ne.mpr c6
  replace H := Option.bind_eq_some_iff.mp H
  obtain ⟨⟨t156, t157, t158, t159, t160⟩, A70, H⟩ := H
  replace H : (pianolalaw03_PunchDays.l0 k a1 a2 (wrap64 (t150 + (Int.tmod (wrap64 (a3)) (wrap64 ((wrap64 (t151 - t150)) + 1))))) t160 false 0 t150 t151 t152 t153 t154 t156 t157 t158 t159) = some r := H
  have A7 := zA A70
  clear A70
  have H' := zA H
  clear H
  go_enter Try.func12, Try.ntmps12
  try go_wp2_with (first | ((with_reducible refine gate_dst (N := 4) rfl ?_); (try (refine gate_guard (by rfl) ?_; dsimp only)); refine box_event ?hg (N := 4) ?hd (cs := #[.int .u8 a0_0, .int .u8 a0_1, .int .u8 a0_2, .int .u8 a0_3, .int .u8 a0_4]) (t := 86) ?hr ?_; (case hd => rfl); (case hg => rfl); (case hr => first | (go_simp; done) | (go_simp; rfl)); intro gb149 hg w8 hbox hb; have n0_ := zA (below_step (zqA HB.out) hb); have n1_ := zA (hbox); have n2_ := zA ((by rw [hg]; exact (below_size (zqA HB.out)) : w.heap.size ≤ gb149)); have n3_ := zA ((by rw [hg]; exact (below_size (zqA HB.out)) : w.heap.size ≤ gb149)); clear HB; have HB := n0_; have BK149 := n1_; have GW149 := n2_; have GE149 := n3_; clear n0_ n1_ n2_ n3_; clear hb hbox hg; have hcz9_0 : w8.cell? ⟨gb149, 0, none⟩ = some (.int .u8 a0_0) := (blk_cell BK149.out 0).trans rfl; have hcz9_1 : w8.cell? ⟨gb149, 1, none⟩ = some (.int .u8 a0_1) := (blk_cell BK149.out 1).trans rfl; have hcz9_2 : w8.cell? ⟨gb149, 2, none⟩ = some (.int .u8 a0_2) := (blk_cell BK149.out 2).trans rfl; have hcz9_3 : w8.cell? ⟨gb149, 3, none⟩ = some (.int .u8 a0_3) := (blk_cell BK149.out 3).trans rfl; have hcz9_4 : w8.cell? ⟨gb149, 4, none⟩ = some (.int .u8 a0_4) := (blk_cell BK149.out 4).trans rfl; have hfz9_0 := blk_frozen BK149.out 0; have hfz9_1 := blk_frozen BK149.out 1; have hfz9_2 := blk_frozen BK149.out 2; have hfz9_3 := blk_frozen BK149.out 3; have hfz9_4 := blk_frozen BK149.out 4) | ((with_reducible refine gate_callee (f := 42) rfl ?_); refine goesL_ (some 26) rfl rfl Try.func42 (by kernel_rfl) rfl #[.agg #[.int .u8 a0_0, .int .u8 a0_1, .int .u8 a0_2, .int .u8 a0_3, .int .u8 a0_4]] rfl zqE ?_; (with_reducible refine (pianolalaw03_Sheet_made.calls a0_0 a0_1 a0_2 a0_3 a0_4 t150 t151 t152 t153 t154 _ A5.out).mono ?_); rintro e w10 ⟨rfl, hb⟩; refine ⟨_, rfl, ?_⟩; have n0_ := zA (blk_below (g := gb149) (o := .cells #[.int .u8 a0_0, .int .u8 a0_1, .int .u8 a0_2, .int .u8 a0_3, .int .u8 a0_4] 86 (0, 0)) (zqB BK149.out) hb); have n1_ := zA (below_step (zqG HB.out GE149.out) hb); clear BK149; clear HB; have BK149 := n0_; have HB := n1_; clear n0_ n1_; (try clear hb); (try clear hb2); (try clear hk); (try clear hi)) | ((with_reducible refine gate_dst (N := 9) rfl ?_); (try (refine gate_guard (by rfl) ?_; dsimp only)); refine box_event ?hg (N := 9) ?hd (cs := #[.int .i64 0, .int .i64 0, .int .i64 0, .int .i64 0, .int .i64 0]) (t := 57) ?hr ?_; (case hd => rfl); (case hg => rfl); (case hr => first | (go_simp; done) | (go_simp; rfl)); intro gb155 hg w11 hbox hb; have n0_ := zA (blk_below (g := gb149) (o := .cells #[.int .u8 a0_0, .int .u8 a0_1, .int .u8 a0_2, .int .u8 a0_3, .int .u8 a0_4] 86 (0, 0)) (zqB BK149.out) hb); have n1_ := zA (below_step (zqG HB.out GE149.out) hb); have n2_ := zA (hbox); have n3_ := zA ((by rw [hg]; exact (below_size (zqG HB.out GE149.out)) : w.heap.size ≤ gb155)); have n4_ := zA ((by rw [hg]; exact (below_size (zqG HB.out GE149.out)) : w.heap.size ≤ gb155)); have n5_ := zA ((by rw [hg]; exact Nat.ne_of_lt (blk_lt (g := gb149) (o := .cells #[.int .u8 a0_0, .int .u8 a0_1, .int .u8 a0_2, .int .u8 a0_3, .int .u8 a0_4] 86 (0, 0)) (zqB BK149.out)) : gb149 ≠ gb155)); have n6_ := zA ((by rw [hg]; exact Nat.ne_of_gt (blk_lt (g := gb149) (o := .cells #[.int .u8 a0_0, .int .u8 a0_1, .int .u8 a0_2, .int .u8 a0_3, .int .u8 a0_4] 86 (0, 0)) (zqB BK149.out)) : gb155 ≠ gb149)); clear BK149; clear HB; have BK149 := n0_; have HB := n1_; have BK155 := n2_; have GW155 := n3_; have GE155 := n4_; have NB149_155 := n5_; have NB155_149 := n6_; clear n0_ n1_ n2_ n3_ n4_ n5_ n6_; clear hb hbox hg; have hnb12 := NB155_149.out; have hnc12 := NB149_155.out; have hcz13_0 : w11.cell? ⟨gb155, 0, none⟩ = some (.int .i64 0) := (blk_cell BK155.out 0).trans rfl; have hcz13_1 : w11.cell? ⟨gb155, 1, none⟩ = some (.int .i64 0) := (blk_cell BK155.out 1).trans rfl; have hcz13_2 : w11.cell? ⟨gb155, 2, none⟩ = some (.int .i64 0) := (blk_cell BK155.out 2).trans rfl; have hcz13_3 : w11.cell? ⟨gb155, 3, none⟩ = some (.int .i64 0) := (blk_cell BK155.out 3).trans rfl; have hcz13_4 : w11.cell? ⟨gb155, 4, none⟩ = some (.int .i64 0) := (blk_cell BK155.out 4).trans rfl; have hfz13_0 := blk_frozen BK155.out 0; have hfz13_1 := blk_frozen BK155.out 1; have hfz13_2 := blk_frozen BK155.out 2; have hfz13_3 := blk_frozen BK155.out 3; have hfz13_4 := blk_frozen BK155.out 4))
  have n0_ : Aside0 ((((((w11.setCell ⟨gb155, 0, none⟩ (.int .i64 t150)).setCell ⟨gb155, 1, none⟩ (.int .i64 t151)).setCell ⟨gb155, 2, none⟩ (.int .i64 t152)).setCell ⟨gb155, 3, none⟩ (.int .i64 t153)).setCell ⟨gb155, 4, none⟩ (.int .i64 t154)).heap[gb149]? = some (.cells #[.int .u8 a0_0, .int .u8 a0_1, .int .u8 a0_2, .int .u8 a0_3, .int .u8 a0_4] 86 (0, 0))) := ⟨by (with_reducible repeat (first | refine blk_drewN ?_ _ | refine blk_drew ?_ | refine blk_alloc ?_ _)); refine blk_far ?_ NB149_155.out _; (with_reducible repeat (first | refine blk_drewN ?_ _ | refine blk_drew ?_ | refine blk_alloc ?_ _)); refine blk_far ?_ NB149_155.out _; (with_reducible repeat (first | refine blk_drewN ?_ _ | refine blk_drew ?_ | refine blk_alloc ?_ _)); refine blk_far ?_ NB149_155.out _; (with_reducible repeat (first | refine blk_drewN ?_ _ | refine blk_drew ?_ | refine blk_alloc ?_ _)); refine blk_far ?_ NB149_155.out _; (with_reducible repeat (first | refine blk_drewN ?_ _ | refine blk_drew ?_ | refine blk_alloc ?_ _)); refine blk_far ?_ NB149_155.out _; (with_reducible repeat (first | refine blk_drewN ?_ _ | refine blk_drew ?_ | refine blk_alloc ?_ _)); exact BK149.out⟩
  have n1_ : Aside0 ((((((w11.setCell ⟨gb155, 0, none⟩ (.int .i64 t150)).setCell ⟨gb155, 1, none⟩ (.int .i64 t151)).setCell ⟨gb155, 2, none⟩ (.int .i64 t152)).setCell ⟨gb155, 3, none⟩ (.int .i64 t153)).setCell ⟨gb155, 4, none⟩ (.int .i64 t154)).heap[gb155]? = some (.cells #[.int .i64 t150, .int .i64 t151, .int .i64 t152, .int .i64 t153, .int .i64 t154] 57 (0, 0))) := ⟨by (with_reducible repeat (first | refine blk_drewN ?_ _ | refine blk_drew ?_ | refine blk_alloc ?_ _)); refine blk_put (cs := #[.int .i64 t150, .int .i64 t151, .int .i64 t152, .int .i64 t153, .int .i64 0]) ?_ 4 _ rfl; (with_reducible repeat (first | refine blk_drewN ?_ _ | refine blk_drew ?_ | refine blk_alloc ?_ _)); refine blk_put (cs := #[.int .i64 t150, .int .i64 t151, .int .i64 t152, .int .i64 0, .int .i64 0]) ?_ 3 _ rfl; (with_reducible repeat (first | refine blk_drewN ?_ _ | refine blk_drew ?_ | refine blk_alloc ?_ _)); refine blk_put (cs := #[.int .i64 t150, .int .i64 t151, .int .i64 0, .int .i64 0, .int .i64 0]) ?_ 2 _ rfl; (with_reducible repeat (first | refine blk_drewN ?_ _ | refine blk_drew ?_ | refine blk_alloc ?_ _)); refine blk_put (cs := #[.int .i64 t150, .int .i64 0, .int .i64 0, .int .i64 0, .int .i64 0]) ?_ 1 _ rfl; (with_reducible repeat (first | refine blk_drewN ?_ _ | refine blk_drew ?_ | refine blk_alloc ?_ _)); refine blk_put (cs := #[.int .i64 0, .int .i64 0, .int .i64 0, .int .i64 0, .int .i64 0]) ?_ 0 _ rfl; (with_reducible repeat (first | refine blk_drewN ?_ _ | refine blk_drew ?_ | refine blk_alloc ?_ _)); exact BK155.out⟩
  have n2_ : Aside0 (Below w.heap.size w (((((w11.setCell ⟨gb155, 0, none⟩ (.int .i64 t150)).setCell ⟨gb155, 1, none⟩ (.int .i64 t151)).setCell ⟨gb155, 2, none⟩ (.int .i64 t152)).setCell ⟨gb155, 3, none⟩ (.int .i64 t153)).setCell ⟨gb155, 4, none⟩ (.int .i64 t154))) := ⟨zqH HB.out GE149.out GE155.out⟩
  (try clear BK149)
  (try clear BK155)
  (try clear HB)
  generalize (((((w11.setCell ⟨gb155, 0, none⟩ (.int .i64 t150)).setCell ⟨gb155, 1, none⟩ (.int .i64 t151)).setCell ⟨gb155, 2, none⟩ (.int .i64 t152)).setCell ⟨gb155, 3, none⟩ (.int .i64 t153)).setCell ⟨gb155, 4, none⟩ (.int .i64 t154)) = w14 at n0_ n1_ n2_ ⊢; have BK149 := n0_; have BK155 := n1_; have HB := n2_; clear n0_ n1_ n2_; have n0_ := zA (blk_drew BK149.out); have n1_ := zA (blk_drew BK155.out); have n2_ := zA (below_drew1 HB.out); clear BK149 BK155 HB; have BK149 := n0_; have BK155 := n1_; have HB := n2_; clear n0_ n1_ n2_
  refine start_ (n := 16) (S := fun w' => w'.cell? ⟨gb155, 0, none⟩ = some (.int .i64 t150) ∧ w'.cell? ⟨gb155, 1, none⟩ = some (.int .i64 t151) ∧ w'.cell? ⟨gb155, 2, none⟩ = some (.int .i64 t152) ∧ w'.cell? ⟨gb155, 3, none⟩ = some (.int .i64 t153) ∧ w'.cell? ⟨gb155, 4, none⟩ = some (.int .i64 t154)) (ds := []) #[false, false, false, false, false, false, false, false, false, false, false, false, false, false, false, false] (by kernel_rfl) rfl rfl ⟨(blk_cell BK155.out 0).trans rfl, (blk_cell BK155.out 1).trans rfl, (blk_cell BK155.out 2).trans rfl, (blk_cell BK155.out 3).trans rfl, (blk_cell BK155.out 4).trans rfl⟩ (fun hHeld => ?_); refine with_tabW pianolalaw03_PunchDays.tab2 pianolalaw03_PunchDays.bits2 (fun HT_ HW_ => ?_)
  generalize w14.drew = w15 at BK149 BK155 HB hHeld ⊢
  refine pure_ (i := 0) (N := some 27) (v := ?_) (a' := ?_) (zb 16 1) rfl rfl (any_of HT_.out (by kernel_rfl)) (fun _ _ _ h => h) (Or.inl ⟨by rfl, ?_⟩) ?_ ?_
  rotate_left
  ·
   intro w'
   go_simp
   with_reducible rfl
  rotate_left
  · simp only [Act.put, setIfInBounds_toArray, set_cons_zero, set_cons_succ, i64_w, i32_w]; rfl
  refine pure_ (i := 1) (N := some 28) (v := ?_) (a' := ?_) (zb 16 3) rfl rfl (any_of HT_.out (by kernel_rfl)) (fun _ _ _ h => h) (Or.inl ⟨by rfl, ?_⟩) ?_ ?_
  rotate_left
  ·
   intro w'
   go_simp
   with_reducible rfl
  rotate_left
  · simp only [Act.put, setIfInBounds_toArray, set_cons_zero, set_cons_succ, i64_w, i32_w]; rfl
  refine pure_ (i := 3) (N := some 30) (v := ?_) (a' := ?_) (zb 16 11) rfl rfl (any_of HT_.out (by kernel_rfl)) (fun _ _ _ h => h) (Or.inl ⟨by rfl, ?_⟩) ?_ ?_
  rotate_left
  ·
   intro w'
   go_simp
   with_reducible rfl
  rotate_left
  · simp only [Act.put, setIfInBounds_toArray, set_cons_zero, set_cons_succ, i64_w, i32_w]; rfl
  refine pure_ (i := 4) (N := some 31) (v := ?_) (a' := ?_) (zb 16 27) rfl rfl (any_of HT_.out (by kernel_rfl)) (fun _ _ _ h => h) (Or.inl ⟨by rfl, ?_⟩) ?_ ?_
  rotate_left
  ·
   intro w'
   go_simp
   with_reducible rfl
  rotate_left
  · simp only [Act.put, setIfInBounds_toArray, set_cons_zero, set_cons_succ, i64_w, i32_w]; rfl
  refine pure_ (i := 5) (N := some 32) (v := ?_) (a' := ?_) (zb 16 59) rfl rfl (any_of HT_.out (by kernel_rfl)) (fun _ _ _ h => h) (Or.inl ⟨by rfl, ?_⟩) ?_ ?_
  rotate_left
  ·
   intro w'
   go_simp
   with_reducible rfl
  rotate_left
  · simp only [Act.put, setIfInBounds_toArray, set_cons_zero, set_cons_succ, i64_w, i32_w]; rfl
  refine pure_ (i := 6) (N := some 33) (v := ?_) (a' := ?_) (zb 16 123) rfl rfl (any_of HT_.out (by kernel_rfl)) (fun _ _ _ h => h) (Or.inl ⟨by rfl, ?_⟩) ?_ ?_
  rotate_left
  ·
   intro w'
   go_simp
   with_reducible rfl
  rotate_left
  · simp only [Act.put, setIfInBounds_toArray, set_cons_zero, set_cons_succ, i64_w, i32_w]; rfl
  refine pure_ (i := 8) (N := some 35) (v := ?_) (a' := ?_) (zb 16 379) rfl rfl (any_of HT_.out (by kernel_rfl)) (fun _ _ _ h => h) (Or.inl ⟨by rfl, ?_⟩) ?_ ?_
  rotate_left
  ·
   intro w'
   go_simp
   with_reducible rfl
  rotate_left
  · simp only [Act.put, setIfInBounds_toArray, set_cons_zero, set_cons_succ, i64_w, i32_w]; rfl
  refine pure_ (i := 9) (N := some 36) (v := ?_) (a' := ?_) (zb 16 891) rfl rfl (any_of HT_.out (by kernel_rfl)) (fun _ _ _ h => h) (Or.inl ⟨by rfl, ?_⟩) ?_ ?_
  rotate_left
  ·
   intro w'
   go_simp
   with_reducible rfl
  rotate_left
  · simp only [Act.put, setIfInBounds_toArray, set_cons_zero, set_cons_succ, i64_w, i32_w]; rfl
  refine take_ (i := 2) (N := some 29) (v := ?_) (a' := ?_) (zb 16 895) rfl rfl (take_ofW HT_.out HW_.out (by kernel_rfl)) (fun _ _ _ h => h) (Or.inl ⟨by rfl, ?_⟩) hHeld ?_ ?_
  rotate_left
  ·
   rintro w' ⟨s0, s1, s2, s3, s4⟩
   go_simp
   with_reducible rfl
  rotate_left
  · simp only [Act.put, setIfInBounds_toArray, set_cons_zero, set_cons_succ, i64_w, i32_w]; rfl
  refine take_ (i := 7) (N := some 34) (v := ?_) (a' := ?_) (zb 16 1023) rfl rfl (take_ofW HT_.out HW_.out (by kernel_rfl)) (fun _ _ _ h => h) (Or.inl ⟨by rfl, ?_⟩) hHeld ?_ ?_
  rotate_left
  ·
   rintro w' ⟨s0, s1, s2, s3, s4⟩
   go_simp
   with_reducible rfl
  rotate_left
  · simp only [Act.put, setIfInBounds_toArray, set_cons_zero, set_cons_succ, i64_w, i32_w]; rfl
  refine take_ (i := 10) (N := some 37) (v := ?_) (a' := ?_) (zb 16 2047) rfl rfl (take_ofW HT_.out HW_.out (by kernel_rfl)) (fun _ _ _ h => h) (Or.inl ⟨by rfl, ?_⟩) hHeld ?_ ?_
  rotate_left
  ·
   rintro w' ⟨s0, s1, s2, s3, s4⟩
   go_simp
   with_reducible rfl
  rotate_left
  · simp only [Act.put, setIfInBounds_toArray, set_cons_zero, set_cons_succ, i64_w, i32_w]; rfl
  refine pure_ (i := 11) (N := some 38) (v := ?_) (a' := ?_) (zb 16 4095) rfl rfl (any_of HT_.out (by kernel_rfl)) (fun _ _ _ h => h) (Or.inl ⟨by rfl, ?_⟩) ?_ ?_
  rotate_left
  ·
   intro w'
   go_simp
   with_reducible rfl
  rotate_left
  · simp only [Act.put, setIfInBounds_toArray, set_cons_zero, set_cons_succ, i64_w, i32_w]; rfl
  refine pure_ (i := 12) (N := some 39) (v := ?_) (a' := ?_) (zb 16 8191) rfl rfl (any_of HT_.out (by kernel_rfl)) (fun _ _ _ h => h) (Or.inl ⟨by rfl, ?_⟩) ?_ ?_
  rotate_left
  ·
   intro w'
   go_simp
   with_reducible rfl
  rotate_left
  · simp only [Act.put, setIfInBounds_toArray, set_cons_zero, set_cons_succ, i64_w, i32_w]; rfl
  refine pure_ (i := 13) (N := some 40) (v := ?_) (a' := ?_) (zb 16 16383) rfl rfl (any_of HT_.out (by kernel_rfl)) (fun _ _ _ h => h) (Or.inl ⟨by rfl, ?_⟩) ?_ ?_
  rotate_left
  ·
   intro w'
   go_simp
   with_reducible rfl
  rotate_left
  · simp only [Act.put, setIfInBounds_toArray, set_cons_zero, set_cons_succ, i64_w, i32_w]; rfl
  refine pure_ (i := 14) (N := some 41) (v := ?_) (a' := ?_) (zb 16 32767) rfl rfl (any_of HT_.out (by kernel_rfl)) (fun _ _ _ h => h) (Or.inl ⟨by rfl, ?_⟩) ?_ ?_
  rotate_left
  ·
   intro w'
   go_simp
   with_reducible rfl
  rotate_left
  · simp only [Act.put, setIfInBounds_toArray, set_cons_zero, set_cons_succ, i64_w, i32_w]; rfl
  refine pure_ (i := 15) (N := some 10) (v := ?_) (a' := ?_) (zb 16 65535) rfl rfl (any_of HT_.out (by kernel_rfl)) (fun _ _ _ h => h) (Or.inl ⟨by rfl, ?_⟩) ?_ ?_
  rotate_left
  ·
   intro w'
   go_simp
   with_reducible rfl
  rotate_left
  · simp only [Act.put, setIfInBounds_toArray, set_cons_zero, set_cons_succ, i64_w, i32_w]; rfl
  refine done_ (done_of HT_.out (by kernel_rfl)) ?_
  have hcz16_0 : w15.cell? ⟨gb155, 0, none⟩ = some (.int .i64 t150) := (blk_cell BK155.out 0).trans rfl
  have hcz16_1 : w15.cell? ⟨gb155, 1, none⟩ = some (.int .i64 t151) := (blk_cell BK155.out 1).trans rfl
  have hcz16_2 : w15.cell? ⟨gb155, 2, none⟩ = some (.int .i64 t152) := (blk_cell BK155.out 2).trans rfl
  have hcz16_3 : w15.cell? ⟨gb155, 3, none⟩ = some (.int .i64 t153) := (blk_cell BK155.out 3).trans rfl
  have hcz16_4 : w15.cell? ⟨gb155, 4, none⟩ = some (.int .i64 t154) := (blk_cell BK155.out 4).trans rfl
  have hfz16_0 := blk_frozen BK155.out 0
  have hfz16_1 := blk_frozen BK155.out 1
  have hfz16_2 := blk_frozen BK155.out 2
  have hfz16_3 := blk_frozen BK155.out 3
  have hfz16_4 := blk_frozen BK155.out 4
  try go_wp2_with (first | ((with_reducible refine gate_callee (f := 30) rfl ?_); refine goesL_ (some 44) rfl rfl Try.func30 (by kernel_rfl) rfl #[.agg #[.int .i64 t150, .int .i64 t151, .int .i64 t152, .int .i64 t153, .int .i64 t154]] rfl zqE ?_; (with_reducible refine (punch_Bars.calls t150 t151 t152 t153 t154 t156 t157 t158 t159 t160 _ A7.out).mono ?_); rintro e w17 ⟨rfl, hb⟩; refine ⟨_, rfl, ?_⟩; have n0_ := zA (blk_below (g := gb149) (o := .cells #[.int .u8 a0_0, .int .u8 a0_1, .int .u8 a0_2, .int .u8 a0_3, .int .u8 a0_4] 86 (0, 0)) (zqB BK149.out) hb); have n1_ := zA (blk_below (g := gb155) (o := .cells #[.int .i64 t150, .int .i64 t151, .int .i64 t152, .int .i64 t153, .int .i64 t154] 57 (0, 0)) (zqB BK155.out) hb); have n2_ := zA (below_step (zqH HB.out GE149.out GE155.out) hb); clear BK149; clear BK155; clear HB; have BK149 := n0_; have BK155 := n1_; have HB := n2_; clear n0_ n1_ n2_; (try clear hb); (try clear hb2); (try clear hk); (try clear hi)) | ((with_reducible refine gate_dst (N := 11) rfl ?_); (try (refine gate_guard (by rfl) ?_; dsimp only)); refine box_event ?hg (N := 11) ?hd (cs := #[.int .i64 0, .int .i64 0]) (t := 55) ?hr ?_; (case hd => rfl); (case hg => rfl); (case hr => first | (go_simp; done) | (go_simp; rfl)); intro gb161 hg w18 hbox hb; have n0_ := zA (blk_below (g := gb149) (o := .cells #[.int .u8 a0_0, .int .u8 a0_1, .int .u8 a0_2, .int .u8 a0_3, .int .u8 a0_4] 86 (0, 0)) (zqB BK149.out) hb); have n1_ := zA (blk_below (g := gb155) (o := .cells #[.int .i64 t150, .int .i64 t151, .int .i64 t152, .int .i64 t153, .int .i64 t154] 57 (0, 0)) (zqB BK155.out) hb); have n2_ := zA (below_step (zqH HB.out GE149.out GE155.out) hb); have n3_ := zA (hbox); have n4_ := zA ((by rw [hg]; exact (below_size (zqH HB.out GE149.out GE155.out)) : w.heap.size ≤ gb161)); have n5_ := zA ((by rw [hg]; exact (below_size (zqH HB.out GE149.out GE155.out)) : w.heap.size ≤ gb161)); have n6_ := zA ((by rw [hg]; exact Nat.ne_of_lt (blk_lt (g := gb149) (o := .cells #[.int .u8 a0_0, .int .u8 a0_1, .int .u8 a0_2, .int .u8 a0_3, .int .u8 a0_4] 86 (0, 0)) (zqB BK149.out)) : gb149 ≠ gb161)); have n7_ := zA ((by rw [hg]; exact Nat.ne_of_gt (blk_lt (g := gb149) (o := .cells #[.int .u8 a0_0, .int .u8 a0_1, .int .u8 a0_2, .int .u8 a0_3, .int .u8 a0_4] 86 (0, 0)) (zqB BK149.out)) : gb161 ≠ gb149)); have n8_ := zA ((by rw [hg]; exact Nat.ne_of_lt (blk_lt (g := gb155) (o := .cells #[.int .i64 t150, .int .i64 t151, .int .i64 t152, .int .i64 t153, .int .i64 t154] 57 (0, 0)) (zqB BK155.out)) : gb155 ≠ gb161)); have n9_ := zA ((by rw [hg]; exact Nat.ne_of_gt (blk_lt (g := gb155) (o := .cells #[.int .i64 t150, .int .i64 t151, .int .i64 t152, .int .i64 t153, .int .i64 t154] 57 (0, 0)) (zqB BK155.out)) : gb161 ≠ gb155)); clear BK149; clear BK155; clear HB; have BK149 := n0_; have BK155 := n1_; have HB := n2_; have BK161 := n3_; have GW161 := n4_; have GE161 := n5_; have NB149_161 := n6_; have NB161_149 := n7_; have NB155_161 := n8_; have NB161_155 := n9_; clear n0_ n1_ n2_ n3_ n4_ n5_ n6_ n7_ n8_ n9_; clear hb hbox hg) | ((with_reducible refine gate_dst (N := 12) rfl ?_); (try (refine gate_guard (by rfl) ?_; dsimp only)); refine box_event ?hg (N := 12) ?hd (cs := #[.int .i64 0, .int .i64 0]) (t := 55) ?hr ?_; (case hd => rfl); (case hg => rfl); (case hr => first | (go_simp; done) | (go_simp; rfl)); intro gb162 hg w19 hbox hb; have n0_ := zA (blk_below (g := gb149) (o := .cells #[.int .u8 a0_0, .int .u8 a0_1, .int .u8 a0_2, .int .u8 a0_3, .int .u8 a0_4] 86 (0, 0)) (zqB BK149.out) hb); have n1_ := zA (blk_below (g := gb155) (o := .cells #[.int .i64 t150, .int .i64 t151, .int .i64 t152, .int .i64 t153, .int .i64 t154] 57 (0, 0)) (zqB BK155.out) hb); have n2_ := zA (blk_below (g := gb161) (o := .cells #[.int .i64 0, .int .i64 0] 55 (0, 0)) (zqB BK161.out) hb); have n3_ := zA (below_step (zqI HB.out GE149.out GE155.out GE161.out) hb); have n4_ := zA (hbox); have n5_ := zA ((by rw [hg]; exact (below_size (zqI HB.out GE149.out GE155.out GE161.out)) : w.heap.size ≤ gb162)); have n6_ := zA ((by rw [hg]; exact (below_size (zqI HB.out GE149.out GE155.out GE161.out)) : w.heap.size ≤ gb162)); have n7_ := zA ((by rw [hg]; exact Nat.ne_of_lt (blk_lt (g := gb149) (o := .cells #[.int .u8 a0_0, .int .u8 a0_1, .int .u8 a0_2, .int .u8 a0_3, .int .u8 a0_4] 86 (0, 0)) (zqB BK149.out)) : gb149 ≠ gb162)); have n8_ := zA ((by rw [hg]; exact Nat.ne_of_gt (blk_lt (g := gb149) (o := .cells #[.int .u8 a0_0, .int .u8 a0_1, .int .u8 a0_2, .int .u8 a0_3, .int .u8 a0_4] 86 (0, 0)) (zqB BK149.out)) : gb162 ≠ gb149)); have n9_ := zA ((by rw [hg]; exact Nat.ne_of_lt (blk_lt (g := gb155) (o := .cells #[.int .i64 t150, .int .i64 t151, .int .i64 t152, .int .i64 t153, .int .i64 t154] 57 (0, 0)) (zqB BK155.out)) : gb155 ≠ gb162)); have n10_ := zA ((by rw [hg]; exact Nat.ne_of_gt (blk_lt (g := gb155) (o := .cells #[.int .i64 t150, .int .i64 t151, .int .i64 t152, .int .i64 t153, .int .i64 t154] 57 (0, 0)) (zqB BK155.out)) : gb162 ≠ gb155)); have n11_ := zA ((by rw [hg]; exact Nat.ne_of_lt (blk_lt (g := gb161) (o := .cells #[.int .i64 0, .int .i64 0] 55 (0, 0)) (zqB BK161.out)) : gb161 ≠ gb162)); have n12_ := zA ((by rw [hg]; exact Nat.ne_of_gt (blk_lt (g := gb161) (o := .cells #[.int .i64 0, .int .i64 0] 55 (0, 0)) (zqB BK161.out)) : gb162 ≠ gb161)); clear BK149; clear BK155; clear BK161; clear HB; have BK149 := n0_; have BK155 := n1_; have BK161 := n2_; have HB := n3_; have BK162 := n4_; have GW162 := n5_; have GE162 := n6_; have NB149_162 := n7_; have NB162_149 := n8_; have NB155_162 := n9_; have NB162_155 := n10_; have NB161_162 := n11_; have NB162_161 := n12_; clear n0_ n1_ n2_ n3_ n4_ n5_ n6_ n7_ n8_ n9_ n10_ n11_ n12_; clear hb hbox hg; have hnb20 := NB161_149.out; have hnc20 := NB149_161.out; have hnb21 := NB161_155.out; have hnc21 := NB155_161.out; have hnb22 := NB161_162.out; have hnc22 := NB162_161.out; have hcz23_0 : w19.cell? ⟨gb161, 0, none⟩ = some (.int .i64 0) := (blk_cell BK161.out 0).trans rfl; have hcz23_1 : w19.cell? ⟨gb161, 1, none⟩ = some (.int .i64 0) := (blk_cell BK161.out 1).trans rfl; have hfz23_0 := blk_frozen BK161.out 0; have hfz23_1 := blk_frozen BK161.out 1; have hnb24 := NB162_149.out; have hnc24 := NB149_162.out; have hnb25 := NB162_155.out; have hnc25 := NB155_162.out; have hcz26_0 : w19.cell? ⟨gb162, 0, none⟩ = some (.int .i64 0) := (blk_cell BK162.out 0).trans rfl; have hcz26_1 : w19.cell? ⟨gb162, 1, none⟩ = some (.int .i64 0) := (blk_cell BK162.out 1).trans rfl; have hfz26_0 := blk_frozen BK162.out 0; have hfz26_1 := blk_frozen BK162.out 1))
  go_loopg [16, 17] k (fun kq v16 v17 w' => ∃ (x16_1 : Bool) (x17_1 : Int), v16 = .bool x16_1 ∧ v17 = .int .i64 x17_1 ∧ Aside0 (pianolalaw03_PunchDays.l0 kq a1 a2 (wrap64 (t150 + (Int.tmod (wrap64 (a3)) (wrap64 ((wrap64 (t151 - t150)) + 1))))) t160 x16_1 x17_1 t150 t151 t152 t153 t154 t156 t157 t158 t159 = some r) ∧ Aside0 (kq ≤ k) ∧ Aside0 (w'.heap[gb149]? = some (.cells #[.int .u8 a0_0, .int .u8 a0_1, .int .u8 a0_2, .int .u8 a0_3, .int .u8 a0_4] 86 (0, 0))) ∧ Aside0 (w'.heap[gb155]? = some (.cells #[.int .i64 t150, .int .i64 t151, .int .i64 t152, .int .i64 t153, .int .i64 t154] 57 (0, 0))) ∧ Aside0 (w'.heap[gb161]? = some (.cells #[.int .i64 t156, .int .i64 t157] 55 (0, 0))) ∧ Aside0 (w'.heap[gb162]? = some (.cells #[.int .i64 t158, .int .i64 t159] 55 (0, 0))) ∧ Aside0 (Below w.heap.size w w'))
  case atStart => exact ⟨(false), (0), zqQ, zqQ, H', ⟨Nat.le_refl _⟩, ⟨by (with_reducible repeat (first | refine blk_drewN ?_ _ | refine blk_drew ?_ | refine blk_alloc ?_ _)); refine blk_far ?_ NB149_162.out _; (with_reducible repeat (first | refine blk_drewN ?_ _ | refine blk_drew ?_ | refine blk_alloc ?_ _)); refine blk_far ?_ NB149_162.out _; (with_reducible repeat (first | refine blk_drewN ?_ _ | refine blk_drew ?_ | refine blk_alloc ?_ _)); refine blk_far ?_ NB149_161.out _; (with_reducible repeat (first | refine blk_drewN ?_ _ | refine blk_drew ?_ | refine blk_alloc ?_ _)); refine blk_far ?_ NB149_161.out _; (with_reducible repeat (first | refine blk_drewN ?_ _ | refine blk_drew ?_ | refine blk_alloc ?_ _)); exact BK149.out⟩, ⟨by (with_reducible repeat (first | refine blk_drewN ?_ _ | refine blk_drew ?_ | refine blk_alloc ?_ _)); refine blk_far ?_ NB155_162.out _; (with_reducible repeat (first | refine blk_drewN ?_ _ | refine blk_drew ?_ | refine blk_alloc ?_ _)); refine blk_far ?_ NB155_162.out _; (with_reducible repeat (first | refine blk_drewN ?_ _ | refine blk_drew ?_ | refine blk_alloc ?_ _)); refine blk_far ?_ NB155_161.out _; (with_reducible repeat (first | refine blk_drewN ?_ _ | refine blk_drew ?_ | refine blk_alloc ?_ _)); refine blk_far ?_ NB155_161.out _; (with_reducible repeat (first | refine blk_drewN ?_ _ | refine blk_drew ?_ | refine blk_alloc ?_ _)); exact BK155.out⟩, ⟨by (with_reducible repeat (first | refine blk_drewN ?_ _ | refine blk_drew ?_ | refine blk_alloc ?_ _)); refine blk_far ?_ NB161_162.out _; (with_reducible repeat (first | refine blk_drewN ?_ _ | refine blk_drew ?_ | refine blk_alloc ?_ _)); refine blk_far ?_ NB161_162.out _; (with_reducible repeat (first | refine blk_drewN ?_ _ | refine blk_drew ?_ | refine blk_alloc ?_ _)); refine blk_put (cs := #[.int .i64 t156, .int .i64 0]) ?_ 1 _ rfl; (with_reducible repeat (first | refine blk_drewN ?_ _ | refine blk_drew ?_ | refine blk_alloc ?_ _)); refine blk_put (cs := #[.int .i64 0, .int .i64 0]) ?_ 0 _ rfl; (with_reducible repeat (first | refine blk_drewN ?_ _ | refine blk_drew ?_ | refine blk_alloc ?_ _)); exact BK161.out⟩, ⟨by (with_reducible repeat (first | refine blk_drewN ?_ _ | refine blk_drew ?_ | refine blk_alloc ?_ _)); refine blk_put (cs := #[.int .i64 t158, .int .i64 0]) ?_ 1 _ rfl; (with_reducible repeat (first | refine blk_drewN ?_ _ | refine blk_drew ?_ | refine blk_alloc ?_ _)); refine blk_put (cs := #[.int .i64 0, .int .i64 0]) ?_ 0 _ rfl; (with_reducible repeat (first | refine blk_drewN ?_ _ | refine blk_drew ?_ | refine blk_alloc ?_ _)); refine blk_far ?_ NB162_161.out _; (with_reducible repeat (first | refine blk_drewN ?_ _ | refine blk_drew ?_ | refine blk_alloc ?_ _)); refine blk_far ?_ NB162_161.out _; (with_reducible repeat (first | refine blk_drewN ?_ _ | refine blk_drew ?_ | refine blk_alloc ?_ _)); exact BK162.out⟩, ⟨zqJ HB.out GE149.out GE155.out GE161.out GE162.out⟩⟩
  case round => as_aux_lemma =>
   clear H'
   try clear c1
   try clear c2
   try clear p2
   try clear c3
   try clear c4
   try clear c6
   try clear c6b0
   try clear c6b1
   try clear p6
   try clear c12
   try clear c20
   try clear c21
   try clear c22
   try clear c24
   try clear c25
   try clear hcz13_0
   try clear hcz13_1
   try clear hcz13_2
   try clear hcz13_3
   try clear hcz13_4
   try clear hcz16_0
   try clear hcz16_1
   try clear hcz16_2
   try clear hcz16_3
   try clear hcz16_4
   try clear hcz23_0
   try clear hcz23_1
   try clear hcz26_0
   try clear hcz26_1
   try clear hcz9_0
   try clear hcz9_1
   try clear hcz9_2
   try clear hcz9_3
   try clear hcz9_4
   try clear hfz13_0
   try clear hfz13_1
   try clear hfz13_2
   try clear hfz13_3
   try clear hfz13_4
   try clear hfz16_0
   try clear hfz16_1
   try clear hfz16_2
   try clear hfz16_3
   try clear hfz16_4
   try clear hfz23_0
   try clear hfz23_1
   try clear hfz26_0
   try clear hfz26_1
   try clear hfz9_0
   try clear hfz9_1
   try clear hfz9_2
   try clear hfz9_3
   try clear hfz9_4
   obtain ⟨x16_1, x17_1, rfl, rfl, HA, HK1, BK149, BK155, BK161, BK162, HB⟩ := hrel
   cases gk with
   | zero => exact absurd HA.out (by simp [pianolalaw03_PunchDays.l0])
   | succ k1 =>
    have H := HA.out
    clear HA
    simp only [pianolalaw03_PunchDays.l0] at H
    by_cases c27 : x17_1 < 40
    ·
     rw [if_pos c27] at H
     have c27b0 : decide (x17_1 < 40) = true := decide_eq_true c27
     clear c27
     have HC28 := zA H
     clear H
     go_upto_region 10 with (fail)
     go_cut [18, 19] (fun v18 v19 wc => ∃ (kq : Nat) (x18_27 : Bool) (x19_27 : Bool), v18 = .bool x18_27 ∧ v19 = .bool x19_27 ∧ Aside0 (pianolalaw03_PunchDays.j1 kq a1 a2 (wrap64 (t150 + (Int.tmod (wrap64 (a3)) (wrap64 ((wrap64 (t151 - t150)) + 1))))) t160 x16_1 x17_1 x18_27 x19_27 t150 t151 t152 t153 t154 t156 t157 t158 t159 = some r) ∧ Aside0 (kq ≤ k1) ∧ Aside0 (wc.heap[gb149]? = some (.cells #[.int .u8 a0_0, .int .u8 a0_1, .int .u8 a0_2, .int .u8 a0_3, .int .u8 a0_4] 86 (0, 0))) ∧ Aside0 (wc.heap[gb155]? = some (.cells #[.int .i64 t150, .int .i64 t151, .int .i64 t152, .int .i64 t153, .int .i64 t154] 57 (0, 0))) ∧ Aside0 (wc.heap[gb161]? = some (.cells #[.int .i64 t156, .int .i64 t157] 55 (0, 0))) ∧ Aside0 (wc.heap[gb162]? = some (.cells #[.int .i64 t158, .int .i64 t159] 55 (0, 0))) ∧ Aside0 (Below w.heap.size w wc))
     case first => as_aux_lemma =>
      have H := HC28.out
      clear HC28
      replace H := Option.bind_eq_some_iff.mp H
      obtain ⟨t163, A290, H⟩ := H
      replace H : (if t163 = true then ((days_hole.f x17_1 t151 t150 t151 t152 t153 t154).bind fun t164 => ((days_bridge.f x17_1 t150 t150 t151 t152 t153 t154).bind fun t165 => (if t165 = true then ((days_bridge.f x17_1 t151 t150 t151 t152 t153 t154).bind fun t166 => (pianolalaw03_PunchDays.j1 k1 a1 a2 (wrap64 (t150 + (Int.tmod (wrap64 (a3)) (wrap64 ((wrap64 (t151 - t150)) + 1))))) t160 x16_1 x17_1 t164 t166 t150 t151 t152 t153 t154 t156 t157 t158 t159)) else (pianolalaw03_PunchDays.j1 k1 a1 a2 (wrap64 (t150 + (Int.tmod (wrap64 (a3)) (wrap64 ((wrap64 (t151 - t150)) + 1))))) t160 x16_1 x17_1 t164 false t150 t151 t152 t153 t154 t156 t157 t158 t159)))) else ((days_bridge.f x17_1 t150 t150 t151 t152 t153 t154).bind fun t167 => (if t167 = true then ((days_bridge.f x17_1 t151 t150 t151 t152 t153 t154).bind fun t168 => (pianolalaw03_PunchDays.j1 k1 a1 a2 (wrap64 (t150 + (Int.tmod (wrap64 (a3)) (wrap64 ((wrap64 (t151 - t150)) + 1))))) t160 x16_1 x17_1 false t168 t150 t151 t152 t153 t154 t156 t157 t158 t159)) else (pianolalaw03_PunchDays.j1 k1 a1 a2 (wrap64 (t150 + (Int.tmod (wrap64 (a3)) (wrap64 ((wrap64 (t151 - t150)) + 1))))) t160 x16_1 x17_1 false false t150 t151 t152 t153 t154 t156 t157 t158 t159)))) = some r := H
      have A29 := zA A290
      clear A290
      by_cases c30 : t163 = true
      ·
       subst c30
       have H1 : ((days_hole.f x17_1 t151 t150 t151 t152 t153 t154).bind fun t164 => ((days_bridge.f x17_1 t150 t150 t151 t152 t153 t154).bind fun t165 => (if t165 = true then ((days_bridge.f x17_1 t151 t150 t151 t152 t153 t154).bind fun t166 => (pianolalaw03_PunchDays.j1 k1 a1 a2 (wrap64 (t150 + (Int.tmod (wrap64 (a3)) (wrap64 ((wrap64 (t151 - t150)) + 1))))) t160 x16_1 x17_1 t164 t166 t150 t151 t152 t153 t154 t156 t157 t158 t159)) else (pianolalaw03_PunchDays.j1 k1 a1 a2 (wrap64 (t150 + (Int.tmod (wrap64 (a3)) (wrap64 ((wrap64 (t151 - t150)) + 1))))) t160 x16_1 x17_1 t164 false t150 t151 t152 t153 t154 t156 t157 t158 t159)))) = some r := by rw [if_pos rfl] at H; exact H
       clear H; have H := H1; clear H1
       replace H := Option.bind_eq_some_iff.mp H
       obtain ⟨t164, A310, H⟩ := H
       replace H : ((days_bridge.f x17_1 t150 t150 t151 t152 t153 t154).bind fun t165 => (if t165 = true then ((days_bridge.f x17_1 t151 t150 t151 t152 t153 t154).bind fun t166 => (pianolalaw03_PunchDays.j1 k1 a1 a2 (wrap64 (t150 + (Int.tmod (wrap64 (a3)) (wrap64 ((wrap64 (t151 - t150)) + 1))))) t160 x16_1 x17_1 t164 t166 t150 t151 t152 t153 t154 t156 t157 t158 t159)) else (pianolalaw03_PunchDays.j1 k1 a1 a2 (wrap64 (t150 + (Int.tmod (wrap64 (a3)) (wrap64 ((wrap64 (t151 - t150)) + 1))))) t160 x16_1 x17_1 t164 false t150 t151 t152 t153 t154 t156 t157 t158 t159))) = some r := H
       have A31 := zA A310
       clear A310
       replace H := Option.bind_eq_some_iff.mp H
       obtain ⟨t165, A320, H⟩ := H
       replace H : (if t165 = true then ((days_bridge.f x17_1 t151 t150 t151 t152 t153 t154).bind fun t166 => (pianolalaw03_PunchDays.j1 k1 a1 a2 (wrap64 (t150 + (Int.tmod (wrap64 (a3)) (wrap64 ((wrap64 (t151 - t150)) + 1))))) t160 x16_1 x17_1 t164 t166 t150 t151 t152 t153 t154 t156 t157 t158 t159)) else (pianolalaw03_PunchDays.j1 k1 a1 a2 (wrap64 (t150 + (Int.tmod (wrap64 (a3)) (wrap64 ((wrap64 (t151 - t150)) + 1))))) t160 x16_1 x17_1 t164 false t150 t151 t152 t153 t154 t156 t157 t158 t159)) = some r := H
       have A32 := zA A320
       clear A320
       by_cases c33 : t165 = true
       ·
        subst c33
        have H1 : ((days_bridge.f x17_1 t151 t150 t151 t152 t153 t154).bind fun t166 => (pianolalaw03_PunchDays.j1 k1 a1 a2 (wrap64 (t150 + (Int.tmod (wrap64 (a3)) (wrap64 ((wrap64 (t151 - t150)) + 1))))) t160 x16_1 x17_1 t164 t166 t150 t151 t152 t153 t154 t156 t157 t158 t159)) = some r := by rw [if_pos rfl] at H; exact H
        clear H; have H := H1; clear H1
        replace H := Option.bind_eq_some_iff.mp H
        obtain ⟨t166, A340, H⟩ := H
        replace H : (pianolalaw03_PunchDays.j1 k1 a1 a2 (wrap64 (t150 + (Int.tmod (wrap64 (a3)) (wrap64 ((wrap64 (t151 - t150)) + 1))))) t160 x16_1 x17_1 t164 t166 t150 t151 t152 t153 t154 t156 t157 t158 t159) = some r := H
        have A34 := zA A340
        clear A340
        have H' := zA H
        clear H
        try go_wp2
        have n0_ := zA (blk_drew BK149.out); have n1_ := zA (blk_drew BK155.out); have n2_ := zA (blk_drew BK161.out); have n3_ := zA (blk_drew BK162.out); have n4_ := zA (below_drew1 HB.out); clear BK149 BK155 BK161 BK162 HB; have BK149 := n0_; have BK155 := n1_; have BK161 := n2_; have BK162 := n3_; have HB := n4_; clear n0_ n1_ n2_ n3_ n4_
        refine start_ (n := 30) (S := fun w' => w'.cell? ⟨gb155, 0, none⟩ = some (.int .i64 t150) ∧ w'.cell? ⟨gb155, 1, none⟩ = some (.int .i64 t151) ∧ w'.cell? ⟨gb155, 2, none⟩ = some (.int .i64 t152) ∧ w'.cell? ⟨gb155, 3, none⟩ = some (.int .i64 t153) ∧ w'.cell? ⟨gb155, 4, none⟩ = some (.int .i64 t154)) (ds := []) #[false, false, false, false, false, false, false, false, false, false, false, false, false, false, false, false, false, false, false, false, false, false, false, false, false, false, false, false, false, false] (by kernel_rfl) rfl rfl ⟨(blk_cell BK155.out 0).trans rfl, (blk_cell BK155.out 1).trans rfl, (blk_cell BK155.out 2).trans rfl, (blk_cell BK155.out 3).trans rfl, (blk_cell BK155.out 4).trans rfl⟩ (fun hHeld => ?_); refine with_tabW pianolalaw03_PunchDays.tab10 pianolalaw03_PunchDays.bits10 (fun HT_ HW_ => ?_)
        generalize wr.drew = w35 at BK149 BK155 BK161 BK162 HB hHeld ⊢
        refine pure_ (i := 1) (N := some 55) (v := ?_) (a' := ?_) (zb 30 2) rfl rfl (any_of HT_.out (by kernel_rfl)) (fun _ _ _ h => h) (Or.inl ⟨by rfl, ?_⟩) ?_ ?_
        rotate_left
        ·
         intro w'
         go_simp
         with_reducible rfl
        rotate_left
        · simp only [Act.put, setIfInBounds_toArray, set_cons_zero, set_cons_succ, i64_w, i32_w]; rfl
        refine pure_ (i := 2) (N := some 56) (v := ?_) (a' := ?_) (zb 30 6) rfl rfl (any_of HT_.out (by kernel_rfl)) (fun _ _ _ h => h) (Or.inl ⟨by rfl, ?_⟩) ?_ ?_
        rotate_left
        ·
         intro w'
         go_simp
         with_reducible rfl
        rotate_left
        · simp only [Act.put, setIfInBounds_toArray, set_cons_zero, set_cons_succ, i64_w, i32_w]; rfl
        refine pure_ (i := 3) (N := some 57) (v := ?_) (a' := ?_) (zb 30 14) rfl rfl (any_of HT_.out (by kernel_rfl)) (fun _ _ _ h => h) (Or.inl ⟨by rfl, ?_⟩) ?_ ?_
        rotate_left
        ·
         intro w'
         go_simp
         with_reducible rfl
        rotate_left
        · simp only [Act.put, setIfInBounds_toArray, set_cons_zero, set_cons_succ, i64_w, i32_w]; rfl
        refine pure_ (i := 15) (N := some 69) (v := ?_) (a' := ?_) (zb 30 32782) rfl rfl (any_of HT_.out (by kernel_rfl)) (fun _ _ _ h => h) (Or.inl ⟨by rfl, ?_⟩) ?_ ?_
        rotate_left
        ·
         intro w'
         go_simp
         with_reducible rfl
        rotate_left
        · simp only [Act.put, setIfInBounds_toArray, set_cons_zero, set_cons_succ, i64_w, i32_w]; rfl
        refine pure_ (i := 16) (N := some 70) (v := ?_) (a' := ?_) (zb 30 98318) rfl rfl (any_of HT_.out (by kernel_rfl)) (fun _ _ _ h => h) (Or.inl ⟨by rfl, ?_⟩) ?_ ?_
        rotate_left
        ·
         intro w'
         go_simp
         with_reducible rfl
        rotate_left
        · simp only [Act.put, setIfInBounds_toArray, set_cons_zero, set_cons_succ, i64_w, i32_w]; rfl
        refine pure_ (i := 17) (N := some 71) (v := ?_) (a' := ?_) (zb 30 229390) rfl rfl (any_of HT_.out (by kernel_rfl)) (fun _ _ _ h => h) (Or.inl ⟨by rfl, ?_⟩) ?_ ?_
        rotate_left
        ·
         intro w'
         go_simp
         with_reducible rfl
        rotate_left
        · simp only [Act.put, setIfInBounds_toArray, set_cons_zero, set_cons_succ, i64_w, i32_w]; rfl
        refine take_ (i := 0) (N := some 54) (v := ?_) (a' := ?_) (zb 30 229391) rfl rfl (take_ofW HT_.out HW_.out (by kernel_rfl)) (fun _ _ _ h => h) (Or.inl ⟨by rfl, ?_⟩) hHeld ?_ ?_
        rotate_left
        ·
         rintro w' ⟨s0, s1, s2, s3, s4⟩
         go_simp
         with_reducible rfl
        rotate_left
        · simp only [Act.put, setIfInBounds_toArray, set_cons_zero, set_cons_succ, i64_w, i32_w]; rfl
        refine take_ (i := 4) (N := some 58) (v := ?_) (a' := ?_) (zb 30 229407) rfl rfl (take_ofW HT_.out HW_.out (by kernel_rfl)) (fun _ _ _ h => h) (Or.inl ⟨by rfl, ?_⟩) hHeld ?_ ?_
        rotate_left
        ·
         rintro w' ⟨s0, s1, s2, s3, s4⟩
         go_simp
         with_reducible rfl
        rotate_left
        · simp only [Act.put, setIfInBounds_toArray, set_cons_zero, set_cons_succ, i64_w, i32_w]; rfl
        refine take_ (i := 14) (N := some 68) (v := ?_) (a' := ?_) (zb 30 245791) rfl rfl (take_ofW HT_.out HW_.out (by kernel_rfl)) (fun _ _ _ h => h) (Or.inl ⟨by rfl, ?_⟩) hHeld ?_ ?_
        rotate_left
        ·
         rintro w' ⟨s0, s1, s2, s3, s4⟩
         go_simp
         with_reducible rfl
        rotate_left
        · simp only [Act.put, setIfInBounds_toArray, set_cons_zero, set_cons_succ, i64_w, i32_w]; rfl
        refine take_ (i := 18) (N := some 72) (v := ?_) (a' := ?_) (zb 30 507935) rfl rfl (take_ofW HT_.out HW_.out (by kernel_rfl)) (fun _ _ _ h => h) (Or.inl ⟨by rfl, ?_⟩) hHeld ?_ ?_
        rotate_left
        ·
         rintro w' ⟨s0, s1, s2, s3, s4⟩
         go_simp
         with_reducible rfl
        rotate_left
        · simp only [Act.put, setIfInBounds_toArray, set_cons_zero, set_cons_succ, i64_w, i32_w]; rfl
        refine one_ (i := 5) (N := some 59) (zb 30 507967) rfl rfl (one_of HT_.out (by kernel_rfl)) (by decide) (fun K hK => ?_)
        refine goesC_ #[.pointer (some ⟨gb155, 0, none⟩)] (by rfl) Try.func43 (by kernel_rfl) rfl #[.int .i64 x17_1, .int .i64 t150] (by rfl) rfl rfl zqE ?_
        with_reducible refine (days_hole.callsC x17_1 t150 t150 t151 t152 t153 t154 true gb155 _ (zqB BK155.out) A29.out).mono ?_
        rintro e w36 ⟨rfl, hb⟩
        refine ⟨_, rfl, ?_⟩
        have n0_ := zA (blk_below (g := gb149) (o := .cells #[.int .u8 a0_0, .int .u8 a0_1, .int .u8 a0_2, .int .u8 a0_3, .int .u8 a0_4] 86 (0, 0)) (zqB BK149.out) hb); have n1_ := zA (blk_below (g := gb155) (o := .cells #[.int .i64 t150, .int .i64 t151, .int .i64 t152, .int .i64 t153, .int .i64 t154] 57 (0, 0)) (zqB BK155.out) hb); have n2_ := zA (blk_below (g := gb161) (o := .cells #[.int .i64 t156, .int .i64 t157] 55 (0, 0)) (zqB BK161.out) hb); have n3_ := zA (blk_below (g := gb162) (o := .cells #[.int .i64 t158, .int .i64 t159] 55 (0, 0)) (zqB BK162.out) hb); have n4_ := zA (below_step (zqJ HB.out GE149.out GE155.out GE161.out GE162.out) hb); clear BK149 BK155 BK161 BK162 HB; have BK149 := n0_; have BK155 := n1_; have BK161 := n2_; have BK162 := n3_; have HB := n4_; clear n0_ n1_ n2_ n3_ n4_
        (try clear hb); (try clear hb2); (try clear hk); (try clear hi)
        refine hK.out _ _ ⟨(blk_cell BK155.out 0).trans rfl, (blk_cell BK155.out 1).trans rfl, (blk_cell BK155.out 2).trans rfl, (blk_cell BK155.out 3).trans rfl, (blk_cell BK155.out 4).trans rfl⟩ (fun hHeld => ?_)
        clear hK K; refine norm_ (a' := ?_) ?_ ?_; rotate_left
        · show Act.put _ (some 59) _ = _; simp only [Act.put, setIfInBounds_toArray, set_cons_zero, set_cons_succ, i64_w, i32_w]; rfl
        refine pure_ (i := 6) (N := some 60) (v := ?_) (a' := ?_) (zb 30 508031) rfl rfl (any_of HT_.out (by kernel_rfl)) (fun _ _ _ h => h) (Or.inl ⟨by rfl, ?_⟩) ?_ ?_
        rotate_left
        ·
         intro w'
         go_simp
         with_reducible rfl
        rotate_left
        · simp only [Act.put, setIfInBounds_toArray, set_cons_zero, set_cons_succ, i64_w, i32_w]; rfl
        refine pure_ (i := 8) (N := some 62) (v := ?_) (a' := ?_) (zb 30 508287) rfl rfl (any_of HT_.out (by kernel_rfl)) (fun _ _ _ h => h) (Or.inl ⟨by rfl, ?_⟩) ?_ ?_
        rotate_left
        ·
         intro w'
         go_simp
         with_reducible rfl
        rotate_left
        · simp only [Act.put, setIfInBounds_toArray, set_cons_zero, set_cons_succ, i64_w, i32_w]; rfl
        refine pure_ (i := 9) (N := some 63) (v := ?_) (a' := ?_) (zb 30 508799) rfl rfl (any_of HT_.out (by kernel_rfl)) (fun _ _ _ h => h) (Or.inl ⟨by rfl, ?_⟩) ?_ ?_
        rotate_left
        ·
         intro w'
         go_simp
         with_reducible rfl
        rotate_left
        · simp only [Act.put, setIfInBounds_toArray, set_cons_zero, set_cons_succ, i64_w, i32_w]; rfl
        refine pure_ (i := 10) (N := some 64) (v := ?_) (a' := ?_) (zb 30 509823) rfl rfl (any_of HT_.out (by kernel_rfl)) (fun _ _ _ h => h) (Or.inl ⟨by rfl, ?_⟩) ?_ ?_
        rotate_left
        ·
         intro w'
         go_simp
         with_reducible rfl
        rotate_left
        · simp only [Act.put, setIfInBounds_toArray, set_cons_zero, set_cons_succ, i64_w, i32_w]; rfl
        refine take_ (i := 7) (N := some 61) (v := ?_) (a' := ?_) (zb 30 509951) rfl rfl (take_ofW HT_.out HW_.out (by kernel_rfl)) (fun _ _ _ h => h) (Or.inl ⟨by rfl, ?_⟩) hHeld ?_ ?_
        rotate_left
        ·
         rintro w' ⟨s0, s1, s2, s3, s4⟩
         go_simp
         with_reducible rfl
        rotate_left
        · simp only [Act.put, setIfInBounds_toArray, set_cons_zero, set_cons_succ, i64_w, i32_w]; rfl
        refine take_ (i := 11) (N := some 65) (v := ?_) (a' := ?_) (zb 30 511999) rfl rfl (take_ofW HT_.out HW_.out (by kernel_rfl)) (fun _ _ _ h => h) (Or.inl ⟨by rfl, ?_⟩) hHeld ?_ ?_
        rotate_left
        ·
         rintro w' ⟨s0, s1, s2, s3, s4⟩
         go_simp
         with_reducible rfl
        rotate_left
        · simp only [Act.put, setIfInBounds_toArray, set_cons_zero, set_cons_succ, i64_w, i32_w]; rfl
        refine one_ (i := 12) (N := some 66) (zb 30 516095) rfl rfl (one_of HT_.out (by kernel_rfl)) (by decide) (fun K hK => ?_)
        refine goesC_ #[.pointer (some ⟨gb155, 0, none⟩)] (by rfl) Try.func43 (by kernel_rfl) rfl #[.int .i64 x17_1, .int .i64 t151] (by rfl) rfl rfl zqE ?_
        with_reducible refine (days_hole.callsC x17_1 t151 t150 t151 t152 t153 t154 t164 gb155 _ (zqB BK155.out) A31.out).mono ?_
        rintro e w37 ⟨rfl, hb⟩
        refine ⟨_, rfl, ?_⟩
        have n0_ := zA (blk_below (g := gb149) (o := .cells #[.int .u8 a0_0, .int .u8 a0_1, .int .u8 a0_2, .int .u8 a0_3, .int .u8 a0_4] 86 (0, 0)) (zqB BK149.out) hb); have n1_ := zA (blk_below (g := gb155) (o := .cells #[.int .i64 t150, .int .i64 t151, .int .i64 t152, .int .i64 t153, .int .i64 t154] 57 (0, 0)) (zqB BK155.out) hb); have n2_ := zA (blk_below (g := gb161) (o := .cells #[.int .i64 t156, .int .i64 t157] 55 (0, 0)) (zqB BK161.out) hb); have n3_ := zA (blk_below (g := gb162) (o := .cells #[.int .i64 t158, .int .i64 t159] 55 (0, 0)) (zqB BK162.out) hb); have n4_ := zA (below_step (zqJ HB.out GE149.out GE155.out GE161.out GE162.out) hb); clear BK149 BK155 BK161 BK162 HB; have BK149 := n0_; have BK155 := n1_; have BK161 := n2_; have BK162 := n3_; have HB := n4_; clear n0_ n1_ n2_ n3_ n4_
        (try clear hb); (try clear hb2); (try clear hk); (try clear hi)
        refine hK.out _ _ ⟨(blk_cell BK155.out 0).trans rfl, (blk_cell BK155.out 1).trans rfl, (blk_cell BK155.out 2).trans rfl, (blk_cell BK155.out 3).trans rfl, (blk_cell BK155.out 4).trans rfl⟩ (fun hHeld => ?_)
        clear hK K; refine norm_ (a' := ?_) ?_ ?_; rotate_left
        · show Act.put _ (some 66) _ = _; simp only [Act.put, setIfInBounds_toArray, set_cons_zero, set_cons_succ, i64_w, i32_w]; rfl
        refine pure_ (i := 13) (N := some 67) (v := ?_) (a' := ?_) (zb 30 524287) rfl rfl (any_of HT_.out (by kernel_rfl)) (fun _ _ _ h => h) (Or.inl ⟨by rfl, ?_⟩) ?_ ?_
        rotate_left
        ·
         intro w'
         go_simp
         with_reducible rfl
        rotate_left
        · simp only [Act.put, setIfInBounds_toArray, set_cons_zero, set_cons_succ, i64_w, i32_w]; rfl
        refine one_ (i := 19) (N := some 73) (zb 30 1048575) rfl rfl (one_of HT_.out (by kernel_rfl)) (by decide) (fun K hK => ?_)
        refine goesC_ #[.pointer (some ⟨gb155, 0, none⟩)] (by rfl) Try.func44 (by kernel_rfl) rfl #[.int .i64 x17_1, .int .i64 t150] (by rfl) rfl rfl zqE ?_
        with_reducible refine (days_bridge.callsC x17_1 t150 t150 t151 t152 t153 t154 true gb155 _ (zqB BK155.out) A32.out).mono ?_
        rintro e w38 ⟨rfl, hb⟩
        refine ⟨_, rfl, ?_⟩
        have n0_ := zA (blk_below (g := gb149) (o := .cells #[.int .u8 a0_0, .int .u8 a0_1, .int .u8 a0_2, .int .u8 a0_3, .int .u8 a0_4] 86 (0, 0)) (zqB BK149.out) hb); have n1_ := zA (blk_below (g := gb155) (o := .cells #[.int .i64 t150, .int .i64 t151, .int .i64 t152, .int .i64 t153, .int .i64 t154] 57 (0, 0)) (zqB BK155.out) hb); have n2_ := zA (blk_below (g := gb161) (o := .cells #[.int .i64 t156, .int .i64 t157] 55 (0, 0)) (zqB BK161.out) hb); have n3_ := zA (blk_below (g := gb162) (o := .cells #[.int .i64 t158, .int .i64 t159] 55 (0, 0)) (zqB BK162.out) hb); have n4_ := zA (below_step (zqJ HB.out GE149.out GE155.out GE161.out GE162.out) hb); clear BK149 BK155 BK161 BK162 HB; have BK149 := n0_; have BK155 := n1_; have BK161 := n2_; have BK162 := n3_; have HB := n4_; clear n0_ n1_ n2_ n3_ n4_
        (try clear hb); (try clear hb2); (try clear hk); (try clear hi)
        refine hK.out _ _ ⟨(blk_cell BK155.out 0).trans rfl, (blk_cell BK155.out 1).trans rfl, (blk_cell BK155.out 2).trans rfl, (blk_cell BK155.out 3).trans rfl, (blk_cell BK155.out 4).trans rfl⟩ (fun hHeld => ?_)
        clear hK K; refine norm_ (a' := ?_) ?_ ?_; rotate_left
        · show Act.put _ (some 73) _ = _; simp only [Act.put, setIfInBounds_toArray, set_cons_zero, set_cons_succ, i64_w, i32_w]; rfl
        refine pure_ (i := 20) (N := some 74) (v := ?_) (a' := ?_) (zb 30 2097151) rfl rfl (any_of HT_.out (by kernel_rfl)) (fun _ _ _ h => h) (Or.inl ⟨by rfl, ?_⟩) ?_ ?_
        rotate_left
        ·
         intro w'
         go_simp
         with_reducible rfl
        rotate_left
        · simp only [Act.put, setIfInBounds_toArray, set_cons_zero, set_cons_succ, i64_w, i32_w]; rfl
        refine pure_ (i := 22) (N := some 76) (v := ?_) (a' := ?_) (zb 30 6291455) rfl rfl (any_of HT_.out (by kernel_rfl)) (fun _ _ _ h => h) (Or.inl ⟨by rfl, ?_⟩) ?_ ?_
        rotate_left
        ·
         intro w'
         go_simp
         with_reducible rfl
        rotate_left
        · simp only [Act.put, setIfInBounds_toArray, set_cons_zero, set_cons_succ, i64_w, i32_w]; rfl
        refine pure_ (i := 23) (N := some 77) (v := ?_) (a' := ?_) (zb 30 14680063) rfl rfl (any_of HT_.out (by kernel_rfl)) (fun _ _ _ h => h) (Or.inl ⟨by rfl, ?_⟩) ?_ ?_
        rotate_left
        ·
         intro w'
         go_simp
         with_reducible rfl
        rotate_left
        · simp only [Act.put, setIfInBounds_toArray, set_cons_zero, set_cons_succ, i64_w, i32_w]; rfl
        refine pure_ (i := 24) (N := some 78) (v := ?_) (a' := ?_) (zb 30 31457279) rfl rfl (any_of HT_.out (by kernel_rfl)) (fun _ _ _ h => h) (Or.inl ⟨by rfl, ?_⟩) ?_ ?_
        rotate_left
        ·
         intro w'
         go_simp
         with_reducible rfl
        rotate_left
        · simp only [Act.put, setIfInBounds_toArray, set_cons_zero, set_cons_succ, i64_w, i32_w]; rfl
        refine take_ (i := 21) (N := some 75) (v := ?_) (a' := ?_) (zb 30 33554431) rfl rfl (take_ofW HT_.out HW_.out (by kernel_rfl)) (fun _ _ _ h => h) (Or.inl ⟨by rfl, ?_⟩) hHeld ?_ ?_
        rotate_left
        ·
         rintro w' ⟨s0, s1, s2, s3, s4⟩
         go_simp
         with_reducible rfl
        rotate_left
        · simp only [Act.put, setIfInBounds_toArray, set_cons_zero, set_cons_succ, i64_w, i32_w]; rfl
        refine take_ (i := 25) (N := some 79) (v := ?_) (a' := ?_) (zb 30 67108863) rfl rfl (take_ofW HT_.out HW_.out (by kernel_rfl)) (fun _ _ _ h => h) (Or.inl ⟨by rfl, ?_⟩) hHeld ?_ ?_
        rotate_left
        ·
         rintro w' ⟨s0, s1, s2, s3, s4⟩
         go_simp
         with_reducible rfl
        rotate_left
        · simp only [Act.put, setIfInBounds_toArray, set_cons_zero, set_cons_succ, i64_w, i32_w]; rfl
        refine one_ (i := 26) (N := some 80) (zb 30 134217727) rfl rfl (one_of HT_.out (by kernel_rfl)) (by decide) (fun K hK => ?_)
        refine goesC_ #[.pointer (some ⟨gb155, 0, none⟩)] (by rfl) Try.func44 (by kernel_rfl) rfl #[.int .i64 x17_1, .int .i64 t151] (by rfl) rfl rfl zqE ?_
        with_reducible refine (days_bridge.callsC x17_1 t151 t150 t151 t152 t153 t154 t166 gb155 _ (zqB BK155.out) A34.out).mono ?_
        rintro e w39 ⟨rfl, hb⟩
        refine ⟨_, rfl, ?_⟩
        have n0_ := zA (blk_below (g := gb149) (o := .cells #[.int .u8 a0_0, .int .u8 a0_1, .int .u8 a0_2, .int .u8 a0_3, .int .u8 a0_4] 86 (0, 0)) (zqB BK149.out) hb); have n1_ := zA (blk_below (g := gb155) (o := .cells #[.int .i64 t150, .int .i64 t151, .int .i64 t152, .int .i64 t153, .int .i64 t154] 57 (0, 0)) (zqB BK155.out) hb); have n2_ := zA (blk_below (g := gb161) (o := .cells #[.int .i64 t156, .int .i64 t157] 55 (0, 0)) (zqB BK161.out) hb); have n3_ := zA (blk_below (g := gb162) (o := .cells #[.int .i64 t158, .int .i64 t159] 55 (0, 0)) (zqB BK162.out) hb); have n4_ := zA (below_step (zqJ HB.out GE149.out GE155.out GE161.out GE162.out) hb); clear BK149 BK155 BK161 BK162 HB; have BK149 := n0_; have BK155 := n1_; have BK161 := n2_; have BK162 := n3_; have HB := n4_; clear n0_ n1_ n2_ n3_ n4_
        (try clear hb); (try clear hb2); (try clear hk); (try clear hi)
        refine hK.out _ _ ⟨(blk_cell BK155.out 0).trans rfl, (blk_cell BK155.out 1).trans rfl, (blk_cell BK155.out 2).trans rfl, (blk_cell BK155.out 3).trans rfl, (blk_cell BK155.out 4).trans rfl⟩ (fun hHeld => ?_)
        clear hK K; refine norm_ (a' := ?_) ?_ ?_; rotate_left
        · show Act.put _ (some 80) _ = _; simp only [Act.put, setIfInBounds_toArray, set_cons_zero, set_cons_succ, i64_w, i32_w]; rfl
        refine pure_ (i := 27) (N := some 81) (v := ?_) (a' := ?_) (zb 30 268435455) rfl rfl (any_of HT_.out (by kernel_rfl)) (fun _ _ _ h => h) (Or.inl ⟨by rfl, ?_⟩) ?_ ?_
        rotate_left
        ·
         intro w'
         go_simp
         with_reducible rfl
        rotate_left
        · simp only [Act.put, setIfInBounds_toArray, set_cons_zero, set_cons_succ, i64_w, i32_w]; rfl
        refine pure_ (i := 28) (N := some 18) (v := ?_) (a' := ?_) (zb 30 536870911) rfl rfl (any_of HT_.out (by kernel_rfl)) (fun _ _ _ h => h) (Or.inl ⟨by rfl, ?_⟩) ?_ ?_
        rotate_left
        ·
         intro w'
         go_simp
         with_reducible rfl
        rotate_left
        · simp only [Act.put, setIfInBounds_toArray, set_cons_zero, set_cons_succ, i64_w, i32_w]; rfl
        refine pure_ (i := 29) (N := some 19) (v := ?_) (a' := ?_) (zb 30 1073741823) rfl rfl (any_of HT_.out (by kernel_rfl)) (fun _ _ _ h => h) (Or.inl ⟨by rfl, ?_⟩) ?_ ?_
        rotate_left
        ·
         intro w'
         go_simp
         with_reducible rfl
        rotate_left
        · simp only [Act.put, setIfInBounds_toArray, set_cons_zero, set_cons_succ, i64_w, i32_w]; rfl
        refine done_ (done_of HT_.out (by kernel_rfl)) ?_
        try go_wp2
        go_meet
        case rel => exact ⟨_, (t164), (t166), zqQ, zqQ, H', ⟨by have := HK1.out; first | omega | exact Nat.le_refl _⟩, ⟨zqB BK149.out⟩, ⟨zqB BK155.out⟩, ⟨zqB BK161.out⟩, ⟨zqB BK162.out⟩, ⟨zqJ HB.out GE149.out GE155.out GE161.out GE162.out⟩⟩
       ·
        replace c33 := Bool.eq_false_iff.mpr c33
        subst c33
        have H1 : (pianolalaw03_PunchDays.j1 k1 a1 a2 (wrap64 (t150 + (Int.tmod (wrap64 (a3)) (wrap64 ((wrap64 (t151 - t150)) + 1))))) t160 x16_1 x17_1 t164 false t150 t151 t152 t153 t154 t156 t157 t158 t159) = some r := by rw [if_neg (show ¬ (false = true) by decide)] at H; exact H
        clear H; have H := H1; clear H1
        have H' := zA H
        clear H
        try go_wp2
        have n0_ := zA (blk_drew BK149.out); have n1_ := zA (blk_drew BK155.out); have n2_ := zA (blk_drew BK161.out); have n3_ := zA (blk_drew BK162.out); have n4_ := zA (below_drew1 HB.out); clear BK149 BK155 BK161 BK162 HB; have BK149 := n0_; have BK155 := n1_; have BK161 := n2_; have BK162 := n3_; have HB := n4_; clear n0_ n1_ n2_ n3_ n4_
        refine start_ (n := 30) (S := fun w' => w'.cell? ⟨gb155, 0, none⟩ = some (.int .i64 t150) ∧ w'.cell? ⟨gb155, 1, none⟩ = some (.int .i64 t151) ∧ w'.cell? ⟨gb155, 2, none⟩ = some (.int .i64 t152) ∧ w'.cell? ⟨gb155, 3, none⟩ = some (.int .i64 t153) ∧ w'.cell? ⟨gb155, 4, none⟩ = some (.int .i64 t154)) (ds := []) #[false, false, false, false, false, false, false, false, false, false, false, false, false, false, false, false, false, false, false, false, false, false, false, false, false, false, false, false, false, false] (by kernel_rfl) rfl rfl ⟨(blk_cell BK155.out 0).trans rfl, (blk_cell BK155.out 1).trans rfl, (blk_cell BK155.out 2).trans rfl, (blk_cell BK155.out 3).trans rfl, (blk_cell BK155.out 4).trans rfl⟩ (fun hHeld => ?_); refine with_tabW pianolalaw03_PunchDays.tab10 pianolalaw03_PunchDays.bits10 (fun HT_ HW_ => ?_)
        generalize wr.drew = w40 at BK149 BK155 BK161 BK162 HB hHeld ⊢
        refine pure_ (i := 1) (N := some 55) (v := ?_) (a' := ?_) (zb 30 2) rfl rfl (any_of HT_.out (by kernel_rfl)) (fun _ _ _ h => h) (Or.inl ⟨by rfl, ?_⟩) ?_ ?_
        rotate_left
        ·
         intro w'
         go_simp
         with_reducible rfl
        rotate_left
        · simp only [Act.put, setIfInBounds_toArray, set_cons_zero, set_cons_succ, i64_w, i32_w]; rfl
        refine pure_ (i := 2) (N := some 56) (v := ?_) (a' := ?_) (zb 30 6) rfl rfl (any_of HT_.out (by kernel_rfl)) (fun _ _ _ h => h) (Or.inl ⟨by rfl, ?_⟩) ?_ ?_
        rotate_left
        ·
         intro w'
         go_simp
         with_reducible rfl
        rotate_left
        · simp only [Act.put, setIfInBounds_toArray, set_cons_zero, set_cons_succ, i64_w, i32_w]; rfl
        refine pure_ (i := 3) (N := some 57) (v := ?_) (a' := ?_) (zb 30 14) rfl rfl (any_of HT_.out (by kernel_rfl)) (fun _ _ _ h => h) (Or.inl ⟨by rfl, ?_⟩) ?_ ?_
        rotate_left
        ·
         intro w'
         go_simp
         with_reducible rfl
        rotate_left
        · simp only [Act.put, setIfInBounds_toArray, set_cons_zero, set_cons_succ, i64_w, i32_w]; rfl
        refine pure_ (i := 15) (N := some 69) (v := ?_) (a' := ?_) (zb 30 32782) rfl rfl (any_of HT_.out (by kernel_rfl)) (fun _ _ _ h => h) (Or.inl ⟨by rfl, ?_⟩) ?_ ?_
        rotate_left
        ·
         intro w'
         go_simp
         with_reducible rfl
        rotate_left
        · simp only [Act.put, setIfInBounds_toArray, set_cons_zero, set_cons_succ, i64_w, i32_w]; rfl
        refine pure_ (i := 16) (N := some 70) (v := ?_) (a' := ?_) (zb 30 98318) rfl rfl (any_of HT_.out (by kernel_rfl)) (fun _ _ _ h => h) (Or.inl ⟨by rfl, ?_⟩) ?_ ?_
        rotate_left
        ·
         intro w'
         go_simp
         with_reducible rfl
        rotate_left
        · simp only [Act.put, setIfInBounds_toArray, set_cons_zero, set_cons_succ, i64_w, i32_w]; rfl
        refine pure_ (i := 17) (N := some 71) (v := ?_) (a' := ?_) (zb 30 229390) rfl rfl (any_of HT_.out (by kernel_rfl)) (fun _ _ _ h => h) (Or.inl ⟨by rfl, ?_⟩) ?_ ?_
        rotate_left
        ·
         intro w'
         go_simp
         with_reducible rfl
        rotate_left
        · simp only [Act.put, setIfInBounds_toArray, set_cons_zero, set_cons_succ, i64_w, i32_w]; rfl
        refine take_ (i := 0) (N := some 54) (v := ?_) (a' := ?_) (zb 30 229391) rfl rfl (take_ofW HT_.out HW_.out (by kernel_rfl)) (fun _ _ _ h => h) (Or.inl ⟨by rfl, ?_⟩) hHeld ?_ ?_
        rotate_left
        ·
         rintro w' ⟨s0, s1, s2, s3, s4⟩
         go_simp
         with_reducible rfl
        rotate_left
        · simp only [Act.put, setIfInBounds_toArray, set_cons_zero, set_cons_succ, i64_w, i32_w]; rfl
        refine take_ (i := 4) (N := some 58) (v := ?_) (a' := ?_) (zb 30 229407) rfl rfl (take_ofW HT_.out HW_.out (by kernel_rfl)) (fun _ _ _ h => h) (Or.inl ⟨by rfl, ?_⟩) hHeld ?_ ?_
        rotate_left
        ·
         rintro w' ⟨s0, s1, s2, s3, s4⟩
         go_simp
         with_reducible rfl
        rotate_left
        · simp only [Act.put, setIfInBounds_toArray, set_cons_zero, set_cons_succ, i64_w, i32_w]; rfl
        refine take_ (i := 14) (N := some 68) (v := ?_) (a' := ?_) (zb 30 245791) rfl rfl (take_ofW HT_.out HW_.out (by kernel_rfl)) (fun _ _ _ h => h) (Or.inl ⟨by rfl, ?_⟩) hHeld ?_ ?_
        rotate_left
        ·
         rintro w' ⟨s0, s1, s2, s3, s4⟩
         go_simp
         with_reducible rfl
        rotate_left
        · simp only [Act.put, setIfInBounds_toArray, set_cons_zero, set_cons_succ, i64_w, i32_w]; rfl
        refine take_ (i := 18) (N := some 72) (v := ?_) (a' := ?_) (zb 30 507935) rfl rfl (take_ofW HT_.out HW_.out (by kernel_rfl)) (fun _ _ _ h => h) (Or.inl ⟨by rfl, ?_⟩) hHeld ?_ ?_
        rotate_left
        ·
         rintro w' ⟨s0, s1, s2, s3, s4⟩
         go_simp
         with_reducible rfl
        rotate_left
        · simp only [Act.put, setIfInBounds_toArray, set_cons_zero, set_cons_succ, i64_w, i32_w]; rfl
        refine one_ (i := 5) (N := some 59) (zb 30 507967) rfl rfl (one_of HT_.out (by kernel_rfl)) (by decide) (fun K hK => ?_)
        refine goesC_ #[.pointer (some ⟨gb155, 0, none⟩)] (by rfl) Try.func43 (by kernel_rfl) rfl #[.int .i64 x17_1, .int .i64 t150] (by rfl) rfl rfl zqE ?_
        with_reducible refine (days_hole.callsC x17_1 t150 t150 t151 t152 t153 t154 true gb155 _ (zqB BK155.out) A29.out).mono ?_
        rintro e w41 ⟨rfl, hb⟩
        refine ⟨_, rfl, ?_⟩
        have n0_ := zA (blk_below (g := gb149) (o := .cells #[.int .u8 a0_0, .int .u8 a0_1, .int .u8 a0_2, .int .u8 a0_3, .int .u8 a0_4] 86 (0, 0)) (zqB BK149.out) hb); have n1_ := zA (blk_below (g := gb155) (o := .cells #[.int .i64 t150, .int .i64 t151, .int .i64 t152, .int .i64 t153, .int .i64 t154] 57 (0, 0)) (zqB BK155.out) hb); have n2_ := zA (blk_below (g := gb161) (o := .cells #[.int .i64 t156, .int .i64 t157] 55 (0, 0)) (zqB BK161.out) hb); have n3_ := zA (blk_below (g := gb162) (o := .cells #[.int .i64 t158, .int .i64 t159] 55 (0, 0)) (zqB BK162.out) hb); have n4_ := zA (below_step (zqJ HB.out GE149.out GE155.out GE161.out GE162.out) hb); clear BK149 BK155 BK161 BK162 HB; have BK149 := n0_; have BK155 := n1_; have BK161 := n2_; have BK162 := n3_; have HB := n4_; clear n0_ n1_ n2_ n3_ n4_
        (try clear hb); (try clear hb2); (try clear hk); (try clear hi)
        refine hK.out _ _ ⟨(blk_cell BK155.out 0).trans rfl, (blk_cell BK155.out 1).trans rfl, (blk_cell BK155.out 2).trans rfl, (blk_cell BK155.out 3).trans rfl, (blk_cell BK155.out 4).trans rfl⟩ (fun hHeld => ?_)
        clear hK K; refine norm_ (a' := ?_) ?_ ?_; rotate_left
        · show Act.put _ (some 59) _ = _; simp only [Act.put, setIfInBounds_toArray, set_cons_zero, set_cons_succ, i64_w, i32_w]; rfl
        refine pure_ (i := 6) (N := some 60) (v := ?_) (a' := ?_) (zb 30 508031) rfl rfl (any_of HT_.out (by kernel_rfl)) (fun _ _ _ h => h) (Or.inl ⟨by rfl, ?_⟩) ?_ ?_
        rotate_left
        ·
         intro w'
         go_simp
         with_reducible rfl
        rotate_left
        · simp only [Act.put, setIfInBounds_toArray, set_cons_zero, set_cons_succ, i64_w, i32_w]; rfl
        refine pure_ (i := 8) (N := some 62) (v := ?_) (a' := ?_) (zb 30 508287) rfl rfl (any_of HT_.out (by kernel_rfl)) (fun _ _ _ h => h) (Or.inl ⟨by rfl, ?_⟩) ?_ ?_
        rotate_left
        ·
         intro w'
         go_simp
         with_reducible rfl
        rotate_left
        · simp only [Act.put, setIfInBounds_toArray, set_cons_zero, set_cons_succ, i64_w, i32_w]; rfl
        refine pure_ (i := 9) (N := some 63) (v := ?_) (a' := ?_) (zb 30 508799) rfl rfl (any_of HT_.out (by kernel_rfl)) (fun _ _ _ h => h) (Or.inl ⟨by rfl, ?_⟩) ?_ ?_
        rotate_left
        ·
         intro w'
         go_simp
         with_reducible rfl
        rotate_left
        · simp only [Act.put, setIfInBounds_toArray, set_cons_zero, set_cons_succ, i64_w, i32_w]; rfl
        refine pure_ (i := 10) (N := some 64) (v := ?_) (a' := ?_) (zb 30 509823) rfl rfl (any_of HT_.out (by kernel_rfl)) (fun _ _ _ h => h) (Or.inl ⟨by rfl, ?_⟩) ?_ ?_
        rotate_left
        ·
         intro w'
         go_simp
         with_reducible rfl
        rotate_left
        · simp only [Act.put, setIfInBounds_toArray, set_cons_zero, set_cons_succ, i64_w, i32_w]; rfl
        refine take_ (i := 7) (N := some 61) (v := ?_) (a' := ?_) (zb 30 509951) rfl rfl (take_ofW HT_.out HW_.out (by kernel_rfl)) (fun _ _ _ h => h) (Or.inl ⟨by rfl, ?_⟩) hHeld ?_ ?_
        rotate_left
        ·
         rintro w' ⟨s0, s1, s2, s3, s4⟩
         go_simp
         with_reducible rfl
        rotate_left
        · simp only [Act.put, setIfInBounds_toArray, set_cons_zero, set_cons_succ, i64_w, i32_w]; rfl
        refine take_ (i := 11) (N := some 65) (v := ?_) (a' := ?_) (zb 30 511999) rfl rfl (take_ofW HT_.out HW_.out (by kernel_rfl)) (fun _ _ _ h => h) (Or.inl ⟨by rfl, ?_⟩) hHeld ?_ ?_
        rotate_left
        ·
         rintro w' ⟨s0, s1, s2, s3, s4⟩
         go_simp
         with_reducible rfl
        rotate_left
        · simp only [Act.put, setIfInBounds_toArray, set_cons_zero, set_cons_succ, i64_w, i32_w]; rfl
        refine one_ (i := 12) (N := some 66) (zb 30 516095) rfl rfl (one_of HT_.out (by kernel_rfl)) (by decide) (fun K hK => ?_)
        refine goesC_ #[.pointer (some ⟨gb155, 0, none⟩)] (by rfl) Try.func43 (by kernel_rfl) rfl #[.int .i64 x17_1, .int .i64 t151] (by rfl) rfl rfl zqE ?_
        with_reducible refine (days_hole.callsC x17_1 t151 t150 t151 t152 t153 t154 t164 gb155 _ (zqB BK155.out) A31.out).mono ?_
        rintro e w42 ⟨rfl, hb⟩
        refine ⟨_, rfl, ?_⟩
        have n0_ := zA (blk_below (g := gb149) (o := .cells #[.int .u8 a0_0, .int .u8 a0_1, .int .u8 a0_2, .int .u8 a0_3, .int .u8 a0_4] 86 (0, 0)) (zqB BK149.out) hb); have n1_ := zA (blk_below (g := gb155) (o := .cells #[.int .i64 t150, .int .i64 t151, .int .i64 t152, .int .i64 t153, .int .i64 t154] 57 (0, 0)) (zqB BK155.out) hb); have n2_ := zA (blk_below (g := gb161) (o := .cells #[.int .i64 t156, .int .i64 t157] 55 (0, 0)) (zqB BK161.out) hb); have n3_ := zA (blk_below (g := gb162) (o := .cells #[.int .i64 t158, .int .i64 t159] 55 (0, 0)) (zqB BK162.out) hb); have n4_ := zA (below_step (zqJ HB.out GE149.out GE155.out GE161.out GE162.out) hb); clear BK149 BK155 BK161 BK162 HB; have BK149 := n0_; have BK155 := n1_; have BK161 := n2_; have BK162 := n3_; have HB := n4_; clear n0_ n1_ n2_ n3_ n4_
        (try clear hb); (try clear hb2); (try clear hk); (try clear hi)
        refine hK.out _ _ ⟨(blk_cell BK155.out 0).trans rfl, (blk_cell BK155.out 1).trans rfl, (blk_cell BK155.out 2).trans rfl, (blk_cell BK155.out 3).trans rfl, (blk_cell BK155.out 4).trans rfl⟩ (fun hHeld => ?_)
        clear hK K; refine norm_ (a' := ?_) ?_ ?_; rotate_left
        · show Act.put _ (some 66) _ = _; simp only [Act.put, setIfInBounds_toArray, set_cons_zero, set_cons_succ, i64_w, i32_w]; rfl
        refine pure_ (i := 13) (N := some 67) (v := ?_) (a' := ?_) (zb 30 524287) rfl rfl (any_of HT_.out (by kernel_rfl)) (fun _ _ _ h => h) (Or.inl ⟨by rfl, ?_⟩) ?_ ?_
        rotate_left
        ·
         intro w'
         go_simp
         with_reducible rfl
        rotate_left
        · simp only [Act.put, setIfInBounds_toArray, set_cons_zero, set_cons_succ, i64_w, i32_w]; rfl
        refine one_ (i := 19) (N := some 73) (zb 30 1048575) rfl rfl (one_of HT_.out (by kernel_rfl)) (by decide) (fun K hK => ?_)
        refine goesC_ #[.pointer (some ⟨gb155, 0, none⟩)] (by rfl) Try.func44 (by kernel_rfl) rfl #[.int .i64 x17_1, .int .i64 t150] (by rfl) rfl rfl zqE ?_
        with_reducible refine (days_bridge.callsC x17_1 t150 t150 t151 t152 t153 t154 false gb155 _ (zqB BK155.out) A32.out).mono ?_
        rintro e w43 ⟨rfl, hb⟩
        refine ⟨_, rfl, ?_⟩
        have n0_ := zA (blk_below (g := gb149) (o := .cells #[.int .u8 a0_0, .int .u8 a0_1, .int .u8 a0_2, .int .u8 a0_3, .int .u8 a0_4] 86 (0, 0)) (zqB BK149.out) hb); have n1_ := zA (blk_below (g := gb155) (o := .cells #[.int .i64 t150, .int .i64 t151, .int .i64 t152, .int .i64 t153, .int .i64 t154] 57 (0, 0)) (zqB BK155.out) hb); have n2_ := zA (blk_below (g := gb161) (o := .cells #[.int .i64 t156, .int .i64 t157] 55 (0, 0)) (zqB BK161.out) hb); have n3_ := zA (blk_below (g := gb162) (o := .cells #[.int .i64 t158, .int .i64 t159] 55 (0, 0)) (zqB BK162.out) hb); have n4_ := zA (below_step (zqJ HB.out GE149.out GE155.out GE161.out GE162.out) hb); clear BK149 BK155 BK161 BK162 HB; have BK149 := n0_; have BK155 := n1_; have BK161 := n2_; have BK162 := n3_; have HB := n4_; clear n0_ n1_ n2_ n3_ n4_
        (try clear hb); (try clear hb2); (try clear hk); (try clear hi)
        refine hK.out _ _ ⟨(blk_cell BK155.out 0).trans rfl, (blk_cell BK155.out 1).trans rfl, (blk_cell BK155.out 2).trans rfl, (blk_cell BK155.out 3).trans rfl, (blk_cell BK155.out 4).trans rfl⟩ (fun hHeld => ?_)
        clear hK K; refine norm_ (a' := ?_) ?_ ?_; rotate_left
        · show Act.put _ (some 73) _ = _; simp only [Act.put, setIfInBounds_toArray, set_cons_zero, set_cons_succ, i64_w, i32_w]; rfl
        refine pure_ (i := 20) (N := some 74) (v := ?_) (a' := ?_) (zb 30 2097151) rfl rfl (any_of HT_.out (by kernel_rfl)) (fun _ _ _ h => h) (Or.inl ⟨by rfl, ?_⟩) ?_ ?_
        rotate_left
        ·
         intro w'
         go_simp
         with_reducible rfl
        rotate_left
        · simp only [Act.put, setIfInBounds_toArray, set_cons_zero, set_cons_succ, i64_w, i32_w]; rfl
        refine pure_ (i := 21) (N := some 75) (v := undef) (a' := ?_) (zb 30 4194303) rfl rfl (any_of HT_.out (by kernel_rfl)) (fun _ _ _ h => h) (Or.inr ⟨by rfl, rfl⟩) ?_ ?_
        rotate_left
        · simp only [Act.put, setIfInBounds_toArray, set_cons_zero, set_cons_succ, i64_w, i32_w]; rfl
        refine pure_ (i := 22) (N := some 76) (v := undef) (a' := ?_) (zb 30 8388607) rfl rfl (any_of HT_.out (by kernel_rfl)) (fun _ _ _ h => h) (Or.inr ⟨by rfl, rfl⟩) ?_ ?_
        rotate_left
        · simp only [Act.put, setIfInBounds_toArray, set_cons_zero, set_cons_succ, i64_w, i32_w]; rfl
        refine pure_ (i := 23) (N := some 77) (v := undef) (a' := ?_) (zb 30 16777215) rfl rfl (any_of HT_.out (by kernel_rfl)) (fun _ _ _ h => h) (Or.inr ⟨by rfl, rfl⟩) ?_ ?_
        rotate_left
        · simp only [Act.put, setIfInBounds_toArray, set_cons_zero, set_cons_succ, i64_w, i32_w]; rfl
        refine pure_ (i := 24) (N := some 78) (v := undef) (a' := ?_) (zb 30 33554431) rfl rfl (any_of HT_.out (by kernel_rfl)) (fun _ _ _ h => h) (Or.inr ⟨by rfl, rfl⟩) ?_ ?_
        rotate_left
        · simp only [Act.put, setIfInBounds_toArray, set_cons_zero, set_cons_succ, i64_w, i32_w]; rfl
        refine pure_ (i := 25) (N := some 79) (v := undef) (a' := ?_) (zb 30 67108863) rfl rfl (any_of HT_.out (by kernel_rfl)) (fun _ _ _ h => h) (Or.inr ⟨by rfl, rfl⟩) ?_ ?_
        rotate_left
        · simp only [Act.put, setIfInBounds_toArray, set_cons_zero, set_cons_succ, i64_w, i32_w]; rfl
        refine pure_ (i := 26) (N := some 80) (v := undef) (a' := ?_) (zb 30 134217727) rfl rfl (any_of HT_.out (by kernel_rfl)) (fun _ _ _ h => h) (Or.inr ⟨by rfl, rfl⟩) ?_ ?_
        rotate_left
        · simp only [Act.put, setIfInBounds_toArray, set_cons_zero, set_cons_succ, i64_w, i32_w]; rfl
        refine pure_ (i := 27) (N := some 81) (v := ?_) (a' := ?_) (zb 30 268435455) rfl rfl (any_of HT_.out (by kernel_rfl)) (fun _ _ _ h => h) (Or.inl ⟨by rfl, ?_⟩) ?_ ?_
        rotate_left
        ·
         intro w'
         go_simp
         with_reducible rfl
        rotate_left
        · simp only [Act.put, setIfInBounds_toArray, set_cons_zero, set_cons_succ, i64_w, i32_w]; rfl
        refine pure_ (i := 28) (N := some 18) (v := ?_) (a' := ?_) (zb 30 536870911) rfl rfl (any_of HT_.out (by kernel_rfl)) (fun _ _ _ h => h) (Or.inl ⟨by rfl, ?_⟩) ?_ ?_
        rotate_left
        ·
         intro w'
         go_simp
         with_reducible rfl
        rotate_left
        · simp only [Act.put, setIfInBounds_toArray, set_cons_zero, set_cons_succ, i64_w, i32_w]; rfl
        refine pure_ (i := 29) (N := some 19) (v := ?_) (a' := ?_) (zb 30 1073741823) rfl rfl (any_of HT_.out (by kernel_rfl)) (fun _ _ _ h => h) (Or.inl ⟨by rfl, ?_⟩) ?_ ?_
        rotate_left
        ·
         intro w'
         go_simp
         with_reducible rfl
        rotate_left
        · simp only [Act.put, setIfInBounds_toArray, set_cons_zero, set_cons_succ, i64_w, i32_w]; rfl
        refine done_ (done_of HT_.out (by kernel_rfl)) ?_
        try go_wp2
        go_meet
        case rel => exact ⟨_, (t164), (false), zqQ, zqQ, H', ⟨by have := HK1.out; first | omega | exact Nat.le_refl _⟩, ⟨zqB BK149.out⟩, ⟨zqB BK155.out⟩, ⟨zqB BK161.out⟩, ⟨zqB BK162.out⟩, ⟨zqJ HB.out GE149.out GE155.out GE161.out GE162.out⟩⟩
      ·
       replace c30 := Bool.eq_false_iff.mpr c30
       subst c30
       have H1 : ((days_bridge.f x17_1 t150 t150 t151 t152 t153 t154).bind fun t167 => (if t167 = true then ((days_bridge.f x17_1 t151 t150 t151 t152 t153 t154).bind fun t168 => (pianolalaw03_PunchDays.j1 k1 a1 a2 (wrap64 (t150 + (Int.tmod (wrap64 (a3)) (wrap64 ((wrap64 (t151 - t150)) + 1))))) t160 x16_1 x17_1 false t168 t150 t151 t152 t153 t154 t156 t157 t158 t159)) else (pianolalaw03_PunchDays.j1 k1 a1 a2 (wrap64 (t150 + (Int.tmod (wrap64 (a3)) (wrap64 ((wrap64 (t151 - t150)) + 1))))) t160 x16_1 x17_1 false false t150 t151 t152 t153 t154 t156 t157 t158 t159))) = some r := by rw [if_neg (show ¬ (false = true) by decide)] at H; exact H
       clear H; have H := H1; clear H1
       replace H := Option.bind_eq_some_iff.mp H
       obtain ⟨t167, A440, H⟩ := H
       replace H : (if t167 = true then ((days_bridge.f x17_1 t151 t150 t151 t152 t153 t154).bind fun t168 => (pianolalaw03_PunchDays.j1 k1 a1 a2 (wrap64 (t150 + (Int.tmod (wrap64 (a3)) (wrap64 ((wrap64 (t151 - t150)) + 1))))) t160 x16_1 x17_1 false t168 t150 t151 t152 t153 t154 t156 t157 t158 t159)) else (pianolalaw03_PunchDays.j1 k1 a1 a2 (wrap64 (t150 + (Int.tmod (wrap64 (a3)) (wrap64 ((wrap64 (t151 - t150)) + 1))))) t160 x16_1 x17_1 false false t150 t151 t152 t153 t154 t156 t157 t158 t159)) = some r := H
       have A44 := zA A440
       clear A440
       by_cases c45 : t167 = true
       ·
        subst c45
        have H1 : ((days_bridge.f x17_1 t151 t150 t151 t152 t153 t154).bind fun t168 => (pianolalaw03_PunchDays.j1 k1 a1 a2 (wrap64 (t150 + (Int.tmod (wrap64 (a3)) (wrap64 ((wrap64 (t151 - t150)) + 1))))) t160 x16_1 x17_1 false t168 t150 t151 t152 t153 t154 t156 t157 t158 t159)) = some r := by rw [if_pos rfl] at H; exact H
        clear H; have H := H1; clear H1
        replace H := Option.bind_eq_some_iff.mp H
        obtain ⟨t168, A460, H⟩ := H
        replace H : (pianolalaw03_PunchDays.j1 k1 a1 a2 (wrap64 (t150 + (Int.tmod (wrap64 (a3)) (wrap64 ((wrap64 (t151 - t150)) + 1))))) t160 x16_1 x17_1 false t168 t150 t151 t152 t153 t154 t156 t157 t158 t159) = some r := H
        have A46 := zA A460
        clear A460
        have H' := zA H
        clear H
        try go_wp2
        have n0_ := zA (blk_drew BK149.out); have n1_ := zA (blk_drew BK155.out); have n2_ := zA (blk_drew BK161.out); have n3_ := zA (blk_drew BK162.out); have n4_ := zA (below_drew1 HB.out); clear BK149 BK155 BK161 BK162 HB; have BK149 := n0_; have BK155 := n1_; have BK161 := n2_; have BK162 := n3_; have HB := n4_; clear n0_ n1_ n2_ n3_ n4_
        refine start_ (n := 30) (S := fun w' => w'.cell? ⟨gb155, 0, none⟩ = some (.int .i64 t150) ∧ w'.cell? ⟨gb155, 1, none⟩ = some (.int .i64 t151) ∧ w'.cell? ⟨gb155, 2, none⟩ = some (.int .i64 t152) ∧ w'.cell? ⟨gb155, 3, none⟩ = some (.int .i64 t153) ∧ w'.cell? ⟨gb155, 4, none⟩ = some (.int .i64 t154)) (ds := []) #[false, false, false, false, false, false, false, false, false, false, false, false, false, false, false, false, false, false, false, false, false, false, false, false, false, false, false, false, false, false] (by kernel_rfl) rfl rfl ⟨(blk_cell BK155.out 0).trans rfl, (blk_cell BK155.out 1).trans rfl, (blk_cell BK155.out 2).trans rfl, (blk_cell BK155.out 3).trans rfl, (blk_cell BK155.out 4).trans rfl⟩ (fun hHeld => ?_); refine with_tabW pianolalaw03_PunchDays.tab10 pianolalaw03_PunchDays.bits10 (fun HT_ HW_ => ?_)
        generalize wr.drew = w47 at BK149 BK155 BK161 BK162 HB hHeld ⊢
        refine pure_ (i := 1) (N := some 55) (v := ?_) (a' := ?_) (zb 30 2) rfl rfl (any_of HT_.out (by kernel_rfl)) (fun _ _ _ h => h) (Or.inl ⟨by rfl, ?_⟩) ?_ ?_
        rotate_left
        ·
         intro w'
         go_simp
         with_reducible rfl
        rotate_left
        · simp only [Act.put, setIfInBounds_toArray, set_cons_zero, set_cons_succ, i64_w, i32_w]; rfl
        refine pure_ (i := 2) (N := some 56) (v := ?_) (a' := ?_) (zb 30 6) rfl rfl (any_of HT_.out (by kernel_rfl)) (fun _ _ _ h => h) (Or.inl ⟨by rfl, ?_⟩) ?_ ?_
        rotate_left
        ·
         intro w'
         go_simp
         with_reducible rfl
        rotate_left
        · simp only [Act.put, setIfInBounds_toArray, set_cons_zero, set_cons_succ, i64_w, i32_w]; rfl
        refine pure_ (i := 3) (N := some 57) (v := ?_) (a' := ?_) (zb 30 14) rfl rfl (any_of HT_.out (by kernel_rfl)) (fun _ _ _ h => h) (Or.inl ⟨by rfl, ?_⟩) ?_ ?_
        rotate_left
        ·
         intro w'
         go_simp
         with_reducible rfl
        rotate_left
        · simp only [Act.put, setIfInBounds_toArray, set_cons_zero, set_cons_succ, i64_w, i32_w]; rfl
        refine pure_ (i := 15) (N := some 69) (v := ?_) (a' := ?_) (zb 30 32782) rfl rfl (any_of HT_.out (by kernel_rfl)) (fun _ _ _ h => h) (Or.inl ⟨by rfl, ?_⟩) ?_ ?_
        rotate_left
        ·
         intro w'
         go_simp
         with_reducible rfl
        rotate_left
        · simp only [Act.put, setIfInBounds_toArray, set_cons_zero, set_cons_succ, i64_w, i32_w]; rfl
        refine pure_ (i := 16) (N := some 70) (v := ?_) (a' := ?_) (zb 30 98318) rfl rfl (any_of HT_.out (by kernel_rfl)) (fun _ _ _ h => h) (Or.inl ⟨by rfl, ?_⟩) ?_ ?_
        rotate_left
        ·
         intro w'
         go_simp
         with_reducible rfl
        rotate_left
        · simp only [Act.put, setIfInBounds_toArray, set_cons_zero, set_cons_succ, i64_w, i32_w]; rfl
        refine pure_ (i := 17) (N := some 71) (v := ?_) (a' := ?_) (zb 30 229390) rfl rfl (any_of HT_.out (by kernel_rfl)) (fun _ _ _ h => h) (Or.inl ⟨by rfl, ?_⟩) ?_ ?_
        rotate_left
        ·
         intro w'
         go_simp
         with_reducible rfl
        rotate_left
        · simp only [Act.put, setIfInBounds_toArray, set_cons_zero, set_cons_succ, i64_w, i32_w]; rfl
        refine take_ (i := 0) (N := some 54) (v := ?_) (a' := ?_) (zb 30 229391) rfl rfl (take_ofW HT_.out HW_.out (by kernel_rfl)) (fun _ _ _ h => h) (Or.inl ⟨by rfl, ?_⟩) hHeld ?_ ?_
        rotate_left
        ·
         rintro w' ⟨s0, s1, s2, s3, s4⟩
         go_simp
         with_reducible rfl
        rotate_left
        · simp only [Act.put, setIfInBounds_toArray, set_cons_zero, set_cons_succ, i64_w, i32_w]; rfl
        refine take_ (i := 4) (N := some 58) (v := ?_) (a' := ?_) (zb 30 229407) rfl rfl (take_ofW HT_.out HW_.out (by kernel_rfl)) (fun _ _ _ h => h) (Or.inl ⟨by rfl, ?_⟩) hHeld ?_ ?_
        rotate_left
        ·
         rintro w' ⟨s0, s1, s2, s3, s4⟩
         go_simp
         with_reducible rfl
        rotate_left
        · simp only [Act.put, setIfInBounds_toArray, set_cons_zero, set_cons_succ, i64_w, i32_w]; rfl
        refine take_ (i := 14) (N := some 68) (v := ?_) (a' := ?_) (zb 30 245791) rfl rfl (take_ofW HT_.out HW_.out (by kernel_rfl)) (fun _ _ _ h => h) (Or.inl ⟨by rfl, ?_⟩) hHeld ?_ ?_
        rotate_left
        ·
         rintro w' ⟨s0, s1, s2, s3, s4⟩
         go_simp
         with_reducible rfl
        rotate_left
        · simp only [Act.put, setIfInBounds_toArray, set_cons_zero, set_cons_succ, i64_w, i32_w]; rfl
        refine take_ (i := 18) (N := some 72) (v := ?_) (a' := ?_) (zb 30 507935) rfl rfl (take_ofW HT_.out HW_.out (by kernel_rfl)) (fun _ _ _ h => h) (Or.inl ⟨by rfl, ?_⟩) hHeld ?_ ?_
        rotate_left
        ·
         rintro w' ⟨s0, s1, s2, s3, s4⟩
         go_simp
         with_reducible rfl
        rotate_left
        · simp only [Act.put, setIfInBounds_toArray, set_cons_zero, set_cons_succ, i64_w, i32_w]; rfl
        refine one_ (i := 5) (N := some 59) (zb 30 507967) rfl rfl (one_of HT_.out (by kernel_rfl)) (by decide) (fun K hK => ?_)
        refine goesC_ #[.pointer (some ⟨gb155, 0, none⟩)] (by rfl) Try.func43 (by kernel_rfl) rfl #[.int .i64 x17_1, .int .i64 t150] (by rfl) rfl rfl zqE ?_
        with_reducible refine (days_hole.callsC x17_1 t150 t150 t151 t152 t153 t154 false gb155 _ (zqB BK155.out) A29.out).mono ?_
        rintro e w48 ⟨rfl, hb⟩
        refine ⟨_, rfl, ?_⟩
        have n0_ := zA (blk_below (g := gb149) (o := .cells #[.int .u8 a0_0, .int .u8 a0_1, .int .u8 a0_2, .int .u8 a0_3, .int .u8 a0_4] 86 (0, 0)) (zqB BK149.out) hb); have n1_ := zA (blk_below (g := gb155) (o := .cells #[.int .i64 t150, .int .i64 t151, .int .i64 t152, .int .i64 t153, .int .i64 t154] 57 (0, 0)) (zqB BK155.out) hb); have n2_ := zA (blk_below (g := gb161) (o := .cells #[.int .i64 t156, .int .i64 t157] 55 (0, 0)) (zqB BK161.out) hb); have n3_ := zA (blk_below (g := gb162) (o := .cells #[.int .i64 t158, .int .i64 t159] 55 (0, 0)) (zqB BK162.out) hb); have n4_ := zA (below_step (zqJ HB.out GE149.out GE155.out GE161.out GE162.out) hb); clear BK149 BK155 BK161 BK162 HB; have BK149 := n0_; have BK155 := n1_; have BK161 := n2_; have BK162 := n3_; have HB := n4_; clear n0_ n1_ n2_ n3_ n4_
        (try clear hb); (try clear hb2); (try clear hk); (try clear hi)
        refine hK.out _ _ ⟨(blk_cell BK155.out 0).trans rfl, (blk_cell BK155.out 1).trans rfl, (blk_cell BK155.out 2).trans rfl, (blk_cell BK155.out 3).trans rfl, (blk_cell BK155.out 4).trans rfl⟩ (fun hHeld => ?_)
        clear hK K; refine norm_ (a' := ?_) ?_ ?_; rotate_left
        · show Act.put _ (some 59) _ = _; simp only [Act.put, setIfInBounds_toArray, set_cons_zero, set_cons_succ, i64_w, i32_w]; rfl
        refine pure_ (i := 6) (N := some 60) (v := ?_) (a' := ?_) (zb 30 508031) rfl rfl (any_of HT_.out (by kernel_rfl)) (fun _ _ _ h => h) (Or.inl ⟨by rfl, ?_⟩) ?_ ?_
        rotate_left
        ·
         intro w'
         go_simp
         with_reducible rfl
        rotate_left
        · simp only [Act.put, setIfInBounds_toArray, set_cons_zero, set_cons_succ, i64_w, i32_w]; rfl
        refine pure_ (i := 7) (N := some 61) (v := undef) (a' := ?_) (zb 30 508159) rfl rfl (any_of HT_.out (by kernel_rfl)) (fun _ _ _ h => h) (Or.inr ⟨by rfl, rfl⟩) ?_ ?_
        rotate_left
        · simp only [Act.put, setIfInBounds_toArray, set_cons_zero, set_cons_succ, i64_w, i32_w]; rfl
        refine pure_ (i := 8) (N := some 62) (v := undef) (a' := ?_) (zb 30 508415) rfl rfl (any_of HT_.out (by kernel_rfl)) (fun _ _ _ h => h) (Or.inr ⟨by rfl, rfl⟩) ?_ ?_
        rotate_left
        · simp only [Act.put, setIfInBounds_toArray, set_cons_zero, set_cons_succ, i64_w, i32_w]; rfl
        refine pure_ (i := 9) (N := some 63) (v := undef) (a' := ?_) (zb 30 508927) rfl rfl (any_of HT_.out (by kernel_rfl)) (fun _ _ _ h => h) (Or.inr ⟨by rfl, rfl⟩) ?_ ?_
        rotate_left
        · simp only [Act.put, setIfInBounds_toArray, set_cons_zero, set_cons_succ, i64_w, i32_w]; rfl
        refine pure_ (i := 10) (N := some 64) (v := undef) (a' := ?_) (zb 30 509951) rfl rfl (any_of HT_.out (by kernel_rfl)) (fun _ _ _ h => h) (Or.inr ⟨by rfl, rfl⟩) ?_ ?_
        rotate_left
        · simp only [Act.put, setIfInBounds_toArray, set_cons_zero, set_cons_succ, i64_w, i32_w]; rfl
        refine pure_ (i := 11) (N := some 65) (v := undef) (a' := ?_) (zb 30 511999) rfl rfl (any_of HT_.out (by kernel_rfl)) (fun _ _ _ h => h) (Or.inr ⟨by rfl, rfl⟩) ?_ ?_
        rotate_left
        · simp only [Act.put, setIfInBounds_toArray, set_cons_zero, set_cons_succ, i64_w, i32_w]; rfl
        refine pure_ (i := 12) (N := some 66) (v := undef) (a' := ?_) (zb 30 516095) rfl rfl (any_of HT_.out (by kernel_rfl)) (fun _ _ _ h => h) (Or.inr ⟨by rfl, rfl⟩) ?_ ?_
        rotate_left
        · simp only [Act.put, setIfInBounds_toArray, set_cons_zero, set_cons_succ, i64_w, i32_w]; rfl
        refine pure_ (i := 13) (N := some 67) (v := ?_) (a' := ?_) (zb 30 524287) rfl rfl (any_of HT_.out (by kernel_rfl)) (fun _ _ _ h => h) (Or.inl ⟨by rfl, ?_⟩) ?_ ?_
        rotate_left
        ·
         intro w'
         go_simp
         with_reducible rfl
        rotate_left
        · simp only [Act.put, setIfInBounds_toArray, set_cons_zero, set_cons_succ, i64_w, i32_w]; rfl
        refine one_ (i := 19) (N := some 73) (zb 30 1048575) rfl rfl (one_of HT_.out (by kernel_rfl)) (by decide) (fun K hK => ?_)
        refine goesC_ #[.pointer (some ⟨gb155, 0, none⟩)] (by rfl) Try.func44 (by kernel_rfl) rfl #[.int .i64 x17_1, .int .i64 t150] (by rfl) rfl rfl zqE ?_
        with_reducible refine (days_bridge.callsC x17_1 t150 t150 t151 t152 t153 t154 true gb155 _ (zqB BK155.out) A44.out).mono ?_
        rintro e w49 ⟨rfl, hb⟩
        refine ⟨_, rfl, ?_⟩
        have n0_ := zA (blk_below (g := gb149) (o := .cells #[.int .u8 a0_0, .int .u8 a0_1, .int .u8 a0_2, .int .u8 a0_3, .int .u8 a0_4] 86 (0, 0)) (zqB BK149.out) hb); have n1_ := zA (blk_below (g := gb155) (o := .cells #[.int .i64 t150, .int .i64 t151, .int .i64 t152, .int .i64 t153, .int .i64 t154] 57 (0, 0)) (zqB BK155.out) hb); have n2_ := zA (blk_below (g := gb161) (o := .cells #[.int .i64 t156, .int .i64 t157] 55 (0, 0)) (zqB BK161.out) hb); have n3_ := zA (blk_below (g := gb162) (o := .cells #[.int .i64 t158, .int .i64 t159] 55 (0, 0)) (zqB BK162.out) hb); have n4_ := zA (below_step (zqJ HB.out GE149.out GE155.out GE161.out GE162.out) hb); clear BK149 BK155 BK161 BK162 HB; have BK149 := n0_; have BK155 := n1_; have BK161 := n2_; have BK162 := n3_; have HB := n4_; clear n0_ n1_ n2_ n3_ n4_
        (try clear hb); (try clear hb2); (try clear hk); (try clear hi)
        refine hK.out _ _ ⟨(blk_cell BK155.out 0).trans rfl, (blk_cell BK155.out 1).trans rfl, (blk_cell BK155.out 2).trans rfl, (blk_cell BK155.out 3).trans rfl, (blk_cell BK155.out 4).trans rfl⟩ (fun hHeld => ?_)
        clear hK K; refine norm_ (a' := ?_) ?_ ?_; rotate_left
        · show Act.put _ (some 73) _ = _; simp only [Act.put, setIfInBounds_toArray, set_cons_zero, set_cons_succ, i64_w, i32_w]; rfl
        refine pure_ (i := 20) (N := some 74) (v := ?_) (a' := ?_) (zb 30 2097151) rfl rfl (any_of HT_.out (by kernel_rfl)) (fun _ _ _ h => h) (Or.inl ⟨by rfl, ?_⟩) ?_ ?_
        rotate_left
        ·
         intro w'
         go_simp
         with_reducible rfl
        rotate_left
        · simp only [Act.put, setIfInBounds_toArray, set_cons_zero, set_cons_succ, i64_w, i32_w]; rfl
        refine pure_ (i := 22) (N := some 76) (v := ?_) (a' := ?_) (zb 30 6291455) rfl rfl (any_of HT_.out (by kernel_rfl)) (fun _ _ _ h => h) (Or.inl ⟨by rfl, ?_⟩) ?_ ?_
        rotate_left
        ·
         intro w'
         go_simp
         with_reducible rfl
        rotate_left
        · simp only [Act.put, setIfInBounds_toArray, set_cons_zero, set_cons_succ, i64_w, i32_w]; rfl
        refine pure_ (i := 23) (N := some 77) (v := ?_) (a' := ?_) (zb 30 14680063) rfl rfl (any_of HT_.out (by kernel_rfl)) (fun _ _ _ h => h) (Or.inl ⟨by rfl, ?_⟩) ?_ ?_
        rotate_left
        ·
         intro w'
         go_simp
         with_reducible rfl
        rotate_left
        · simp only [Act.put, setIfInBounds_toArray, set_cons_zero, set_cons_succ, i64_w, i32_w]; rfl
        refine pure_ (i := 24) (N := some 78) (v := ?_) (a' := ?_) (zb 30 31457279) rfl rfl (any_of HT_.out (by kernel_rfl)) (fun _ _ _ h => h) (Or.inl ⟨by rfl, ?_⟩) ?_ ?_
        rotate_left
        ·
         intro w'
         go_simp
         with_reducible rfl
        rotate_left
        · simp only [Act.put, setIfInBounds_toArray, set_cons_zero, set_cons_succ, i64_w, i32_w]; rfl
        refine take_ (i := 21) (N := some 75) (v := ?_) (a' := ?_) (zb 30 33554431) rfl rfl (take_ofW HT_.out HW_.out (by kernel_rfl)) (fun _ _ _ h => h) (Or.inl ⟨by rfl, ?_⟩) hHeld ?_ ?_
        rotate_left
        ·
         rintro w' ⟨s0, s1, s2, s3, s4⟩
         go_simp
         with_reducible rfl
        rotate_left
        · simp only [Act.put, setIfInBounds_toArray, set_cons_zero, set_cons_succ, i64_w, i32_w]; rfl
        refine take_ (i := 25) (N := some 79) (v := ?_) (a' := ?_) (zb 30 67108863) rfl rfl (take_ofW HT_.out HW_.out (by kernel_rfl)) (fun _ _ _ h => h) (Or.inl ⟨by rfl, ?_⟩) hHeld ?_ ?_
        rotate_left
        ·
         rintro w' ⟨s0, s1, s2, s3, s4⟩
         go_simp
         with_reducible rfl
        rotate_left
        · simp only [Act.put, setIfInBounds_toArray, set_cons_zero, set_cons_succ, i64_w, i32_w]; rfl
        refine one_ (i := 26) (N := some 80) (zb 30 134217727) rfl rfl (one_of HT_.out (by kernel_rfl)) (by decide) (fun K hK => ?_)
        refine goesC_ #[.pointer (some ⟨gb155, 0, none⟩)] (by rfl) Try.func44 (by kernel_rfl) rfl #[.int .i64 x17_1, .int .i64 t151] (by rfl) rfl rfl zqE ?_
        with_reducible refine (days_bridge.callsC x17_1 t151 t150 t151 t152 t153 t154 t168 gb155 _ (zqB BK155.out) A46.out).mono ?_
        rintro e w50 ⟨rfl, hb⟩
        refine ⟨_, rfl, ?_⟩
        have n0_ := zA (blk_below (g := gb149) (o := .cells #[.int .u8 a0_0, .int .u8 a0_1, .int .u8 a0_2, .int .u8 a0_3, .int .u8 a0_4] 86 (0, 0)) (zqB BK149.out) hb); have n1_ := zA (blk_below (g := gb155) (o := .cells #[.int .i64 t150, .int .i64 t151, .int .i64 t152, .int .i64 t153, .int .i64 t154] 57 (0, 0)) (zqB BK155.out) hb); have n2_ := zA (blk_below (g := gb161) (o := .cells #[.int .i64 t156, .int .i64 t157] 55 (0, 0)) (zqB BK161.out) hb); have n3_ := zA (blk_below (g := gb162) (o := .cells #[.int .i64 t158, .int .i64 t159] 55 (0, 0)) (zqB BK162.out) hb); have n4_ := zA (below_step (zqJ HB.out GE149.out GE155.out GE161.out GE162.out) hb); clear BK149 BK155 BK161 BK162 HB; have BK149 := n0_; have BK155 := n1_; have BK161 := n2_; have BK162 := n3_; have HB := n4_; clear n0_ n1_ n2_ n3_ n4_
        (try clear hb); (try clear hb2); (try clear hk); (try clear hi)
        refine hK.out _ _ ⟨(blk_cell BK155.out 0).trans rfl, (blk_cell BK155.out 1).trans rfl, (blk_cell BK155.out 2).trans rfl, (blk_cell BK155.out 3).trans rfl, (blk_cell BK155.out 4).trans rfl⟩ (fun hHeld => ?_)
        clear hK K; refine norm_ (a' := ?_) ?_ ?_; rotate_left
        · show Act.put _ (some 80) _ = _; simp only [Act.put, setIfInBounds_toArray, set_cons_zero, set_cons_succ, i64_w, i32_w]; rfl
        refine pure_ (i := 27) (N := some 81) (v := ?_) (a' := ?_) (zb 30 268435455) rfl rfl (any_of HT_.out (by kernel_rfl)) (fun _ _ _ h => h) (Or.inl ⟨by rfl, ?_⟩) ?_ ?_
        rotate_left
        ·
         intro w'
         go_simp
         with_reducible rfl
        rotate_left
        · simp only [Act.put, setIfInBounds_toArray, set_cons_zero, set_cons_succ, i64_w, i32_w]; rfl
        refine pure_ (i := 28) (N := some 18) (v := ?_) (a' := ?_) (zb 30 536870911) rfl rfl (any_of HT_.out (by kernel_rfl)) (fun _ _ _ h => h) (Or.inl ⟨by rfl, ?_⟩) ?_ ?_
        rotate_left
        ·
         intro w'
         go_simp
         with_reducible rfl
        rotate_left
        · simp only [Act.put, setIfInBounds_toArray, set_cons_zero, set_cons_succ, i64_w, i32_w]; rfl
        refine pure_ (i := 29) (N := some 19) (v := ?_) (a' := ?_) (zb 30 1073741823) rfl rfl (any_of HT_.out (by kernel_rfl)) (fun _ _ _ h => h) (Or.inl ⟨by rfl, ?_⟩) ?_ ?_
        rotate_left
        ·
         intro w'
         go_simp
         with_reducible rfl
        rotate_left
        · simp only [Act.put, setIfInBounds_toArray, set_cons_zero, set_cons_succ, i64_w, i32_w]; rfl
        refine done_ (done_of HT_.out (by kernel_rfl)) ?_
        try go_wp2
        go_meet
        case rel => exact ⟨_, (false), (t168), zqQ, zqQ, H', ⟨by have := HK1.out; first | omega | exact Nat.le_refl _⟩, ⟨zqB BK149.out⟩, ⟨zqB BK155.out⟩, ⟨zqB BK161.out⟩, ⟨zqB BK162.out⟩, ⟨zqJ HB.out GE149.out GE155.out GE161.out GE162.out⟩⟩
       ·
        replace c45 := Bool.eq_false_iff.mpr c45
        subst c45
        have H1 : (pianolalaw03_PunchDays.j1 k1 a1 a2 (wrap64 (t150 + (Int.tmod (wrap64 (a3)) (wrap64 ((wrap64 (t151 - t150)) + 1))))) t160 x16_1 x17_1 false false t150 t151 t152 t153 t154 t156 t157 t158 t159) = some r := by rw [if_neg (show ¬ (false = true) by decide)] at H; exact H
        clear H; have H := H1; clear H1
        have H' := zA H
        clear H
        try go_wp2
        have n0_ := zA (blk_drew BK149.out); have n1_ := zA (blk_drew BK155.out); have n2_ := zA (blk_drew BK161.out); have n3_ := zA (blk_drew BK162.out); have n4_ := zA (below_drew1 HB.out); clear BK149 BK155 BK161 BK162 HB; have BK149 := n0_; have BK155 := n1_; have BK161 := n2_; have BK162 := n3_; have HB := n4_; clear n0_ n1_ n2_ n3_ n4_
        refine start_ (n := 30) (S := fun w' => w'.cell? ⟨gb155, 0, none⟩ = some (.int .i64 t150) ∧ w'.cell? ⟨gb155, 1, none⟩ = some (.int .i64 t151) ∧ w'.cell? ⟨gb155, 2, none⟩ = some (.int .i64 t152) ∧ w'.cell? ⟨gb155, 3, none⟩ = some (.int .i64 t153) ∧ w'.cell? ⟨gb155, 4, none⟩ = some (.int .i64 t154)) (ds := []) #[false, false, false, false, false, false, false, false, false, false, false, false, false, false, false, false, false, false, false, false, false, false, false, false, false, false, false, false, false, false] (by kernel_rfl) rfl rfl ⟨(blk_cell BK155.out 0).trans rfl, (blk_cell BK155.out 1).trans rfl, (blk_cell BK155.out 2).trans rfl, (blk_cell BK155.out 3).trans rfl, (blk_cell BK155.out 4).trans rfl⟩ (fun hHeld => ?_); refine with_tabW pianolalaw03_PunchDays.tab10 pianolalaw03_PunchDays.bits10 (fun HT_ HW_ => ?_)
        generalize wr.drew = w51 at BK149 BK155 BK161 BK162 HB hHeld ⊢
        refine pure_ (i := 1) (N := some 55) (v := ?_) (a' := ?_) (zb 30 2) rfl rfl (any_of HT_.out (by kernel_rfl)) (fun _ _ _ h => h) (Or.inl ⟨by rfl, ?_⟩) ?_ ?_
        rotate_left
        ·
         intro w'
         go_simp
         with_reducible rfl
        rotate_left
        · simp only [Act.put, setIfInBounds_toArray, set_cons_zero, set_cons_succ, i64_w, i32_w]; rfl
        refine pure_ (i := 2) (N := some 56) (v := ?_) (a' := ?_) (zb 30 6) rfl rfl (any_of HT_.out (by kernel_rfl)) (fun _ _ _ h => h) (Or.inl ⟨by rfl, ?_⟩) ?_ ?_
        rotate_left
        ·
         intro w'
         go_simp
         with_reducible rfl
        rotate_left
        · simp only [Act.put, setIfInBounds_toArray, set_cons_zero, set_cons_succ, i64_w, i32_w]; rfl
        refine pure_ (i := 3) (N := some 57) (v := ?_) (a' := ?_) (zb 30 14) rfl rfl (any_of HT_.out (by kernel_rfl)) (fun _ _ _ h => h) (Or.inl ⟨by rfl, ?_⟩) ?_ ?_
        rotate_left
        ·
         intro w'
         go_simp
         with_reducible rfl
        rotate_left
        · simp only [Act.put, setIfInBounds_toArray, set_cons_zero, set_cons_succ, i64_w, i32_w]; rfl
        refine pure_ (i := 15) (N := some 69) (v := ?_) (a' := ?_) (zb 30 32782) rfl rfl (any_of HT_.out (by kernel_rfl)) (fun _ _ _ h => h) (Or.inl ⟨by rfl, ?_⟩) ?_ ?_
        rotate_left
        ·
         intro w'
         go_simp
         with_reducible rfl
        rotate_left
        · simp only [Act.put, setIfInBounds_toArray, set_cons_zero, set_cons_succ, i64_w, i32_w]; rfl
        refine pure_ (i := 16) (N := some 70) (v := ?_) (a' := ?_) (zb 30 98318) rfl rfl (any_of HT_.out (by kernel_rfl)) (fun _ _ _ h => h) (Or.inl ⟨by rfl, ?_⟩) ?_ ?_
        rotate_left
        ·
         intro w'
         go_simp
         with_reducible rfl
        rotate_left
        · simp only [Act.put, setIfInBounds_toArray, set_cons_zero, set_cons_succ, i64_w, i32_w]; rfl
        refine pure_ (i := 17) (N := some 71) (v := ?_) (a' := ?_) (zb 30 229390) rfl rfl (any_of HT_.out (by kernel_rfl)) (fun _ _ _ h => h) (Or.inl ⟨by rfl, ?_⟩) ?_ ?_
        rotate_left
        ·
         intro w'
         go_simp
         with_reducible rfl
        rotate_left
        · simp only [Act.put, setIfInBounds_toArray, set_cons_zero, set_cons_succ, i64_w, i32_w]; rfl
        refine take_ (i := 0) (N := some 54) (v := ?_) (a' := ?_) (zb 30 229391) rfl rfl (take_ofW HT_.out HW_.out (by kernel_rfl)) (fun _ _ _ h => h) (Or.inl ⟨by rfl, ?_⟩) hHeld ?_ ?_
        rotate_left
        ·
         rintro w' ⟨s0, s1, s2, s3, s4⟩
         go_simp
         with_reducible rfl
        rotate_left
        · simp only [Act.put, setIfInBounds_toArray, set_cons_zero, set_cons_succ, i64_w, i32_w]; rfl
        refine take_ (i := 4) (N := some 58) (v := ?_) (a' := ?_) (zb 30 229407) rfl rfl (take_ofW HT_.out HW_.out (by kernel_rfl)) (fun _ _ _ h => h) (Or.inl ⟨by rfl, ?_⟩) hHeld ?_ ?_
        rotate_left
        ·
         rintro w' ⟨s0, s1, s2, s3, s4⟩
         go_simp
         with_reducible rfl
        rotate_left
        · simp only [Act.put, setIfInBounds_toArray, set_cons_zero, set_cons_succ, i64_w, i32_w]; rfl
        refine take_ (i := 14) (N := some 68) (v := ?_) (a' := ?_) (zb 30 245791) rfl rfl (take_ofW HT_.out HW_.out (by kernel_rfl)) (fun _ _ _ h => h) (Or.inl ⟨by rfl, ?_⟩) hHeld ?_ ?_
        rotate_left
        ·
         rintro w' ⟨s0, s1, s2, s3, s4⟩
         go_simp
         with_reducible rfl
        rotate_left
        · simp only [Act.put, setIfInBounds_toArray, set_cons_zero, set_cons_succ, i64_w, i32_w]; rfl
        refine take_ (i := 18) (N := some 72) (v := ?_) (a' := ?_) (zb 30 507935) rfl rfl (take_ofW HT_.out HW_.out (by kernel_rfl)) (fun _ _ _ h => h) (Or.inl ⟨by rfl, ?_⟩) hHeld ?_ ?_
        rotate_left
        ·
         rintro w' ⟨s0, s1, s2, s3, s4⟩
         go_simp
         with_reducible rfl
        rotate_left
        · simp only [Act.put, setIfInBounds_toArray, set_cons_zero, set_cons_succ, i64_w, i32_w]; rfl
        refine one_ (i := 5) (N := some 59) (zb 30 507967) rfl rfl (one_of HT_.out (by kernel_rfl)) (by decide) (fun K hK => ?_)
        refine goesC_ #[.pointer (some ⟨gb155, 0, none⟩)] (by rfl) Try.func43 (by kernel_rfl) rfl #[.int .i64 x17_1, .int .i64 t150] (by rfl) rfl rfl zqE ?_
        with_reducible refine (days_hole.callsC x17_1 t150 t150 t151 t152 t153 t154 false gb155 _ (zqB BK155.out) A29.out).mono ?_
        rintro e w52 ⟨rfl, hb⟩
        refine ⟨_, rfl, ?_⟩
        have n0_ := zA (blk_below (g := gb149) (o := .cells #[.int .u8 a0_0, .int .u8 a0_1, .int .u8 a0_2, .int .u8 a0_3, .int .u8 a0_4] 86 (0, 0)) (zqB BK149.out) hb); have n1_ := zA (blk_below (g := gb155) (o := .cells #[.int .i64 t150, .int .i64 t151, .int .i64 t152, .int .i64 t153, .int .i64 t154] 57 (0, 0)) (zqB BK155.out) hb); have n2_ := zA (blk_below (g := gb161) (o := .cells #[.int .i64 t156, .int .i64 t157] 55 (0, 0)) (zqB BK161.out) hb); have n3_ := zA (blk_below (g := gb162) (o := .cells #[.int .i64 t158, .int .i64 t159] 55 (0, 0)) (zqB BK162.out) hb); have n4_ := zA (below_step (zqJ HB.out GE149.out GE155.out GE161.out GE162.out) hb); clear BK149 BK155 BK161 BK162 HB; have BK149 := n0_; have BK155 := n1_; have BK161 := n2_; have BK162 := n3_; have HB := n4_; clear n0_ n1_ n2_ n3_ n4_
        (try clear hb); (try clear hb2); (try clear hk); (try clear hi)
        refine hK.out _ _ ⟨(blk_cell BK155.out 0).trans rfl, (blk_cell BK155.out 1).trans rfl, (blk_cell BK155.out 2).trans rfl, (blk_cell BK155.out 3).trans rfl, (blk_cell BK155.out 4).trans rfl⟩ (fun hHeld => ?_)
        clear hK K; refine norm_ (a' := ?_) ?_ ?_; rotate_left
        · show Act.put _ (some 59) _ = _; simp only [Act.put, setIfInBounds_toArray, set_cons_zero, set_cons_succ, i64_w, i32_w]; rfl
        refine pure_ (i := 6) (N := some 60) (v := ?_) (a' := ?_) (zb 30 508031) rfl rfl (any_of HT_.out (by kernel_rfl)) (fun _ _ _ h => h) (Or.inl ⟨by rfl, ?_⟩) ?_ ?_
        rotate_left
        ·
         intro w'
         go_simp
         with_reducible rfl
        rotate_left
        · simp only [Act.put, setIfInBounds_toArray, set_cons_zero, set_cons_succ, i64_w, i32_w]; rfl
        refine pure_ (i := 7) (N := some 61) (v := undef) (a' := ?_) (zb 30 508159) rfl rfl (any_of HT_.out (by kernel_rfl)) (fun _ _ _ h => h) (Or.inr ⟨by rfl, rfl⟩) ?_ ?_
        rotate_left
        · simp only [Act.put, setIfInBounds_toArray, set_cons_zero, set_cons_succ, i64_w, i32_w]; rfl
        refine pure_ (i := 8) (N := some 62) (v := undef) (a' := ?_) (zb 30 508415) rfl rfl (any_of HT_.out (by kernel_rfl)) (fun _ _ _ h => h) (Or.inr ⟨by rfl, rfl⟩) ?_ ?_
        rotate_left
        · simp only [Act.put, setIfInBounds_toArray, set_cons_zero, set_cons_succ, i64_w, i32_w]; rfl
        refine pure_ (i := 9) (N := some 63) (v := undef) (a' := ?_) (zb 30 508927) rfl rfl (any_of HT_.out (by kernel_rfl)) (fun _ _ _ h => h) (Or.inr ⟨by rfl, rfl⟩) ?_ ?_
        rotate_left
        · simp only [Act.put, setIfInBounds_toArray, set_cons_zero, set_cons_succ, i64_w, i32_w]; rfl
        refine pure_ (i := 10) (N := some 64) (v := undef) (a' := ?_) (zb 30 509951) rfl rfl (any_of HT_.out (by kernel_rfl)) (fun _ _ _ h => h) (Or.inr ⟨by rfl, rfl⟩) ?_ ?_
        rotate_left
        · simp only [Act.put, setIfInBounds_toArray, set_cons_zero, set_cons_succ, i64_w, i32_w]; rfl
        refine pure_ (i := 11) (N := some 65) (v := undef) (a' := ?_) (zb 30 511999) rfl rfl (any_of HT_.out (by kernel_rfl)) (fun _ _ _ h => h) (Or.inr ⟨by rfl, rfl⟩) ?_ ?_
        rotate_left
        · simp only [Act.put, setIfInBounds_toArray, set_cons_zero, set_cons_succ, i64_w, i32_w]; rfl
        refine pure_ (i := 12) (N := some 66) (v := undef) (a' := ?_) (zb 30 516095) rfl rfl (any_of HT_.out (by kernel_rfl)) (fun _ _ _ h => h) (Or.inr ⟨by rfl, rfl⟩) ?_ ?_
        rotate_left
        · simp only [Act.put, setIfInBounds_toArray, set_cons_zero, set_cons_succ, i64_w, i32_w]; rfl
        refine pure_ (i := 13) (N := some 67) (v := ?_) (a' := ?_) (zb 30 524287) rfl rfl (any_of HT_.out (by kernel_rfl)) (fun _ _ _ h => h) (Or.inl ⟨by rfl, ?_⟩) ?_ ?_
        rotate_left
        ·
         intro w'
         go_simp
         with_reducible rfl
        rotate_left
        · simp only [Act.put, setIfInBounds_toArray, set_cons_zero, set_cons_succ, i64_w, i32_w]; rfl
        refine one_ (i := 19) (N := some 73) (zb 30 1048575) rfl rfl (one_of HT_.out (by kernel_rfl)) (by decide) (fun K hK => ?_)
        refine goesC_ #[.pointer (some ⟨gb155, 0, none⟩)] (by rfl) Try.func44 (by kernel_rfl) rfl #[.int .i64 x17_1, .int .i64 t150] (by rfl) rfl rfl zqE ?_
        with_reducible refine (days_bridge.callsC x17_1 t150 t150 t151 t152 t153 t154 false gb155 _ (zqB BK155.out) A44.out).mono ?_
        rintro e w53 ⟨rfl, hb⟩
        refine ⟨_, rfl, ?_⟩
        have n0_ := zA (blk_below (g := gb149) (o := .cells #[.int .u8 a0_0, .int .u8 a0_1, .int .u8 a0_2, .int .u8 a0_3, .int .u8 a0_4] 86 (0, 0)) (zqB BK149.out) hb); have n1_ := zA (blk_below (g := gb155) (o := .cells #[.int .i64 t150, .int .i64 t151, .int .i64 t152, .int .i64 t153, .int .i64 t154] 57 (0, 0)) (zqB BK155.out) hb); have n2_ := zA (blk_below (g := gb161) (o := .cells #[.int .i64 t156, .int .i64 t157] 55 (0, 0)) (zqB BK161.out) hb); have n3_ := zA (blk_below (g := gb162) (o := .cells #[.int .i64 t158, .int .i64 t159] 55 (0, 0)) (zqB BK162.out) hb); have n4_ := zA (below_step (zqJ HB.out GE149.out GE155.out GE161.out GE162.out) hb); clear BK149 BK155 BK161 BK162 HB; have BK149 := n0_; have BK155 := n1_; have BK161 := n2_; have BK162 := n3_; have HB := n4_; clear n0_ n1_ n2_ n3_ n4_
        (try clear hb); (try clear hb2); (try clear hk); (try clear hi)
        refine hK.out _ _ ⟨(blk_cell BK155.out 0).trans rfl, (blk_cell BK155.out 1).trans rfl, (blk_cell BK155.out 2).trans rfl, (blk_cell BK155.out 3).trans rfl, (blk_cell BK155.out 4).trans rfl⟩ (fun hHeld => ?_)
        clear hK K; refine norm_ (a' := ?_) ?_ ?_; rotate_left
        · show Act.put _ (some 73) _ = _; simp only [Act.put, setIfInBounds_toArray, set_cons_zero, set_cons_succ, i64_w, i32_w]; rfl
        refine pure_ (i := 20) (N := some 74) (v := ?_) (a' := ?_) (zb 30 2097151) rfl rfl (any_of HT_.out (by kernel_rfl)) (fun _ _ _ h => h) (Or.inl ⟨by rfl, ?_⟩) ?_ ?_
        rotate_left
        ·
         intro w'
         go_simp
         with_reducible rfl
        rotate_left
        · simp only [Act.put, setIfInBounds_toArray, set_cons_zero, set_cons_succ, i64_w, i32_w]; rfl
        refine pure_ (i := 21) (N := some 75) (v := undef) (a' := ?_) (zb 30 4194303) rfl rfl (any_of HT_.out (by kernel_rfl)) (fun _ _ _ h => h) (Or.inr ⟨by rfl, rfl⟩) ?_ ?_
        rotate_left
        · simp only [Act.put, setIfInBounds_toArray, set_cons_zero, set_cons_succ, i64_w, i32_w]; rfl
        refine pure_ (i := 22) (N := some 76) (v := undef) (a' := ?_) (zb 30 8388607) rfl rfl (any_of HT_.out (by kernel_rfl)) (fun _ _ _ h => h) (Or.inr ⟨by rfl, rfl⟩) ?_ ?_
        rotate_left
        · simp only [Act.put, setIfInBounds_toArray, set_cons_zero, set_cons_succ, i64_w, i32_w]; rfl
        refine pure_ (i := 23) (N := some 77) (v := undef) (a' := ?_) (zb 30 16777215) rfl rfl (any_of HT_.out (by kernel_rfl)) (fun _ _ _ h => h) (Or.inr ⟨by rfl, rfl⟩) ?_ ?_
        rotate_left
        · simp only [Act.put, setIfInBounds_toArray, set_cons_zero, set_cons_succ, i64_w, i32_w]; rfl
        refine pure_ (i := 24) (N := some 78) (v := undef) (a' := ?_) (zb 30 33554431) rfl rfl (any_of HT_.out (by kernel_rfl)) (fun _ _ _ h => h) (Or.inr ⟨by rfl, rfl⟩) ?_ ?_
        rotate_left
        · simp only [Act.put, setIfInBounds_toArray, set_cons_zero, set_cons_succ, i64_w, i32_w]; rfl
        refine pure_ (i := 25) (N := some 79) (v := undef) (a' := ?_) (zb 30 67108863) rfl rfl (any_of HT_.out (by kernel_rfl)) (fun _ _ _ h => h) (Or.inr ⟨by rfl, rfl⟩) ?_ ?_
        rotate_left
        · simp only [Act.put, setIfInBounds_toArray, set_cons_zero, set_cons_succ, i64_w, i32_w]; rfl
        refine pure_ (i := 26) (N := some 80) (v := undef) (a' := ?_) (zb 30 134217727) rfl rfl (any_of HT_.out (by kernel_rfl)) (fun _ _ _ h => h) (Or.inr ⟨by rfl, rfl⟩) ?_ ?_
        rotate_left
        · simp only [Act.put, setIfInBounds_toArray, set_cons_zero, set_cons_succ, i64_w, i32_w]; rfl
        refine pure_ (i := 27) (N := some 81) (v := ?_) (a' := ?_) (zb 30 268435455) rfl rfl (any_of HT_.out (by kernel_rfl)) (fun _ _ _ h => h) (Or.inl ⟨by rfl, ?_⟩) ?_ ?_
        rotate_left
        ·
         intro w'
         go_simp
         with_reducible rfl
        rotate_left
        · simp only [Act.put, setIfInBounds_toArray, set_cons_zero, set_cons_succ, i64_w, i32_w]; rfl
        refine pure_ (i := 28) (N := some 18) (v := ?_) (a' := ?_) (zb 30 536870911) rfl rfl (any_of HT_.out (by kernel_rfl)) (fun _ _ _ h => h) (Or.inl ⟨by rfl, ?_⟩) ?_ ?_
        rotate_left
        ·
         intro w'
         go_simp
         with_reducible rfl
        rotate_left
        · simp only [Act.put, setIfInBounds_toArray, set_cons_zero, set_cons_succ, i64_w, i32_w]; rfl
        refine pure_ (i := 29) (N := some 19) (v := ?_) (a' := ?_) (zb 30 1073741823) rfl rfl (any_of HT_.out (by kernel_rfl)) (fun _ _ _ h => h) (Or.inl ⟨by rfl, ?_⟩) ?_ ?_
        rotate_left
        ·
         intro w'
         go_simp
         with_reducible rfl
        rotate_left
        · simp only [Act.put, setIfInBounds_toArray, set_cons_zero, set_cons_succ, i64_w, i32_w]; rfl
        refine done_ (done_of HT_.out (by kernel_rfl)) ?_
        try go_wp2
        go_meet
        case rel => exact ⟨_, (false), (false), zqQ, zqQ, H', ⟨by have := HK1.out; first | omega | exact Nat.le_refl _⟩, ⟨zqB BK149.out⟩, ⟨zqB BK155.out⟩, ⟨zqB BK161.out⟩, ⟨zqB BK162.out⟩, ⟨zqJ HB.out GE149.out GE155.out GE161.out GE162.out⟩⟩
     case rest => as_aux_lemma =>
      clear HC28
      try clear c2
      try clear p2
      try clear c4
      try clear p6
      try clear c20
      try clear c45
      obtain ⟨kq, x18_27, x19_27, rfl, rfl, HA, HJ27, BK149, BK155, BK161, BK162, HB⟩ := hcut
      cases kq with
      | zero => exact absurd HA.out (by simp [pianolalaw03_PunchDays.j1])
      | succ kj27 =>
       have H := HA.out
       clear HA
       simp only [pianolalaw03_PunchDays.j1] at H
       have HC54 := zA H
       clear H
       go_upto_region 11 with (fail)
       go_cut [16] (fun v16 wc => ∃ (kq : Nat) (x16_53 : Bool), v16 = .bool x16_53 ∧ Aside0 (pianolalaw03_PunchDays.j2 kq a1 a2 (wrap64 (t150 + (Int.tmod (wrap64 (a3)) (wrap64 ((wrap64 (t151 - t150)) + 1))))) t160 x16_53 x17_1 x18_27 x19_27 t150 t151 t152 t153 t154 t156 t157 t158 t159 = some r) ∧ Aside0 (kq ≤ kj27) ∧ Aside0 (wc.heap[gb149]? = some (.cells #[.int .u8 a0_0, .int .u8 a0_1, .int .u8 a0_2, .int .u8 a0_3, .int .u8 a0_4] 86 (0, 0))) ∧ Aside0 (wc.heap[gb155]? = some (.cells #[.int .i64 t150, .int .i64 t151, .int .i64 t152, .int .i64 t153, .int .i64 t154] 57 (0, 0))) ∧ Aside0 (wc.heap[gb161]? = some (.cells #[.int .i64 t156, .int .i64 t157] 55 (0, 0))) ∧ Aside0 (wc.heap[gb162]? = some (.cells #[.int .i64 t158, .int .i64 t159] 55 (0, 0))) ∧ Aside0 (Below w.heap.size w wc))
       case first => as_aux_lemma =>
        have H := HC54.out
        clear HC54
        by_cases c55 : x16_1 = true
        ·
         subst c55
         have H1 : (pianolalaw03_PunchDays.j2 kj27 a1 a2 (wrap64 (t150 + (Int.tmod (wrap64 (a3)) (wrap64 ((wrap64 (t151 - t150)) + 1))))) t160 true x17_1 x18_27 x19_27 t150 t151 t152 t153 t154 t156 t157 t158 t159) = some r := by rw [if_pos rfl] at H; exact H
         clear H; have H := H1; clear H1
         have H' := zA H
         clear H
         go_wp2
         go_meet
         case rel => exact ⟨_, (true), zqQ, H', ⟨by have := HK1.out; have := HJ27.out; first | omega | exact Nat.le_refl _⟩, ⟨zqB BK149.out⟩, ⟨zqB BK155.out⟩, ⟨zqB BK161.out⟩, ⟨zqB BK162.out⟩, ⟨zqJ HB.out GE149.out GE155.out GE161.out GE162.out⟩⟩
        ·
         replace c55 := Bool.eq_false_iff.mpr c55
         subst c55
         have H1 : (pianolalaw03_PunchDays.j2 kj27 a1 a2 (wrap64 (t150 + (Int.tmod (wrap64 (a3)) (wrap64 ((wrap64 (t151 - t150)) + 1))))) t160 x18_27 x17_1 x18_27 x19_27 t150 t151 t152 t153 t154 t156 t157 t158 t159) = some r := by rw [if_neg (show ¬ (false = true) by decide)] at H; exact H
         clear H; have H := H1; clear H1
         have H' := zA H
         clear H
         go_wp2
         go_meet
         case rel => exact ⟨_, (x18_27), zqQ, H', ⟨by have := HK1.out; have := HJ27.out; first | omega | exact Nat.le_refl _⟩, ⟨zqB BK149.out⟩, ⟨zqB BK155.out⟩, ⟨zqB BK161.out⟩, ⟨zqB BK162.out⟩, ⟨zqJ HB.out GE149.out GE155.out GE161.out GE162.out⟩⟩
       case rest => as_aux_lemma =>
        clear HC54
        try clear c2
        try clear p2
        try clear c4
        try clear c5
        try clear p6
        try clear c20
        try clear c45
        try clear c55
        try clear p2
        try clear p6
        obtain ⟨kq, x16_53, rfl, HA, HJ53, BK149, BK155, BK161, BK162, HB⟩ := hcut
        cases kq with
        | zero => exact absurd HA.out (by simp [pianolalaw03_PunchDays.j2])
        | succ kj53 =>
         have H := HA.out
         clear HA
         simp only [pianolalaw03_PunchDays.j2] at H
         have HC56 := zA H
         clear H
         go_upto_region 12 with (fail)
         go_cut [123] (fun v123 wc => ∃ (kq : Nat) (x123_55 : Bool), v123 = .bool x123_55 ∧ Aside0 (pianolalaw03_PunchDays.j3 kq a1 a2 (wrap64 (t150 + (Int.tmod (wrap64 (a3)) (wrap64 ((wrap64 (t151 - t150)) + 1))))) t160 x16_53 x17_1 x18_27 x19_27 x123_55 t150 t151 t152 t153 t154 t156 t157 t158 t159 = some r) ∧ Aside0 (kq ≤ kj53) ∧ Aside0 (wc.heap[gb149]? = some (.cells #[.int .u8 a0_0, .int .u8 a0_1, .int .u8 a0_2, .int .u8 a0_3, .int .u8 a0_4] 86 (0, 0))) ∧ Aside0 (wc.heap[gb155]? = some (.cells #[.int .i64 t150, .int .i64 t151, .int .i64 t152, .int .i64 t153, .int .i64 t154] 57 (0, 0))) ∧ Aside0 (wc.heap[gb161]? = some (.cells #[.int .i64 t156, .int .i64 t157] 55 (0, 0))) ∧ Aside0 (wc.heap[gb162]? = some (.cells #[.int .i64 t158, .int .i64 t159] 55 (0, 0))) ∧ Aside0 (Below w.heap.size w wc))
         case first => as_aux_lemma =>
          have H := HC56.out
          clear HC56
          by_cases c57 : t160 = 0
          ·
           rw [if_pos c57] at H
           have c57b0 : (t160 == 0) = true := beq_iff_eq.mpr c57
           have c57b1 : (t160 != 0) = false := bne_eq_false_iff_eq.mpr c57
           clear c57
           (first | rw [c57b0] | (simp only [i64_w, i32_w]; rw [c57b0]) | skip)
           by_cases c58 : x17_1 ≥ 1
           ·
            rw [if_pos c58] at H
            have c58b0 : decide (1 ≤ x17_1) = true := decide_eq_true c58
            clear c58
            by_cases c59 : x17_1 ≥ t156
            ·
             rw [if_pos c59] at H
             have c59b0 : decide (t156 ≤ x17_1) = true := decide_eq_true c59
             clear c59
             by_cases c60 : (x18_27 != (decide (x17_1 ≤ t157))) = true
             ·
              rw [if_pos c60] at H
              exact (pianolalaw03_PunchDays.j3_no H HRT.out).elim
             ·
              rw [if_neg c60] at H
              have c60b0 : (x18_27 != (decide (x17_1 ≤ t157))) = false := by simpa using c60
              (try (have c60b1 : decide (x18_27 = (decide (x17_1 ≤ t157))) = true := by simpa using c60))
              (try (have c60b2 : (x18_27 == (decide (x17_1 ≤ t157))) = true := by simpa using c60))
              clear c60
              by_cases c65 : x17_1 ≥ t158
              ·
               rw [if_pos c65] at H
               have c65b0 : decide (t158 ≤ x17_1) = true := decide_eq_true c65
               clear c65
               have H' := zA H
               clear H
               have hnb66 := NB161_149.out
               have hnc66 := NB149_161.out
               have hnb67 := NB161_155.out
               have hnc67 := NB155_161.out
               have hnb68 := NB161_162.out
               have hnc68 := NB162_161.out
               have hcz69_0 : wc.cell? ⟨gb161, 0, none⟩ = some (.int .i64 t156) := (blk_cell BK161.out 0).trans rfl
               have hcz69_1 : wc.cell? ⟨gb161, 1, none⟩ = some (.int .i64 t157) := (blk_cell BK161.out 1).trans rfl
               have hfz69_0 := blk_frozen BK161.out 0
               have hfz69_1 := blk_frozen BK161.out 1
               have hnb70 := NB162_149.out
               have hnc70 := NB149_162.out
               have hnb71 := NB162_155.out
               have hnc71 := NB155_162.out
               have hcz72_0 : wc.cell? ⟨gb162, 0, none⟩ = some (.int .i64 t158) := (blk_cell BK162.out 0).trans rfl
               have hcz72_1 : wc.cell? ⟨gb162, 1, none⟩ = some (.int .i64 t159) := (blk_cell BK162.out 1).trans rfl
               have hfz72_0 := blk_frozen BK162.out 0
               have hfz72_1 := blk_frozen BK162.out 1
               go_wp2
               go_meet
               case rel => exact ⟨_, ((x19_27 != (decide (x17_1 ≤ t159)))), zqQ, H', ⟨by have := HK1.out; have := HJ27.out; have := HJ53.out; first | omega | exact Nat.le_refl _⟩, ⟨zqB BK149.out⟩, ⟨zqB BK155.out⟩, ⟨zqB BK161.out⟩, ⟨zqB BK162.out⟩, ⟨zqJ HB.out GE149.out GE155.out GE161.out GE162.out⟩⟩
              ·
               rw [if_neg c65] at H
               have c65b0 : decide (t158 ≤ x17_1) = false := decide_eq_false c65
               clear c65
               have H' := zA H
               clear H
               have hnb73 := NB161_149.out
               have hnc73 := NB149_161.out
               have hnb74 := NB161_155.out
               have hnc74 := NB155_161.out
               have hnb75 := NB161_162.out
               have hnc75 := NB162_161.out
               have hcz76_0 : wc.cell? ⟨gb161, 0, none⟩ = some (.int .i64 t156) := (blk_cell BK161.out 0).trans rfl
               have hcz76_1 : wc.cell? ⟨gb161, 1, none⟩ = some (.int .i64 t157) := (blk_cell BK161.out 1).trans rfl
               have hfz76_0 := blk_frozen BK161.out 0
               have hfz76_1 := blk_frozen BK161.out 1
               have hnb77 := NB162_149.out
               have hnc77 := NB149_162.out
               have hnb78 := NB162_155.out
               have hnc78 := NB155_162.out
               have hcz79_0 : wc.cell? ⟨gb162, 0, none⟩ = some (.int .i64 t158) := (blk_cell BK162.out 0).trans rfl
               have hcz79_1 : wc.cell? ⟨gb162, 1, none⟩ = some (.int .i64 t159) := (blk_cell BK162.out 1).trans rfl
               have hfz79_0 := blk_frozen BK162.out 0
               have hfz79_1 := blk_frozen BK162.out 1
               go_wp2
               go_meet
               case rel => exact ⟨_, ((x19_27 != false)), zqQ, H', ⟨by have := HK1.out; have := HJ27.out; have := HJ53.out; first | omega | exact Nat.le_refl _⟩, ⟨zqB BK149.out⟩, ⟨zqB BK155.out⟩, ⟨zqB BK161.out⟩, ⟨zqB BK162.out⟩, ⟨zqJ HB.out GE149.out GE155.out GE161.out GE162.out⟩⟩
            ·
             rw [if_neg c59] at H
             have c59b0 : decide (t156 ≤ x17_1) = false := decide_eq_false c59
             clear c59
             by_cases c80 : (x18_27 != false) = true
             ·
              rw [if_pos c80] at H
              exact (pianolalaw03_PunchDays.j3_no H HRT.out).elim
             ·
              rw [if_neg c80] at H
              have c80b0 : (x18_27 != false) = false := by simpa using c80
              (try (have c80b1 : decide (x18_27 = false) = true := by simpa using c80))
              (try (have c80b2 : (x18_27 == false) = true := by simpa using c80))
              clear c80
              by_cases c85 : x17_1 ≥ t158
              ·
               rw [if_pos c85] at H
               have c85b0 : decide (t158 ≤ x17_1) = true := decide_eq_true c85
               clear c85
               have H' := zA H
               clear H
               have hnb86 := NB161_149.out
               have hnc86 := NB149_161.out
               have hnb87 := NB161_155.out
               have hnc87 := NB155_161.out
               have hnb88 := NB161_162.out
               have hnc88 := NB162_161.out
               have hcz89_0 : wc.cell? ⟨gb161, 0, none⟩ = some (.int .i64 t156) := (blk_cell BK161.out 0).trans rfl
               have hcz89_1 : wc.cell? ⟨gb161, 1, none⟩ = some (.int .i64 t157) := (blk_cell BK161.out 1).trans rfl
               have hfz89_0 := blk_frozen BK161.out 0
               have hfz89_1 := blk_frozen BK161.out 1
               have hnb90 := NB162_149.out
               have hnc90 := NB149_162.out
               have hnb91 := NB162_155.out
               have hnc91 := NB155_162.out
               have hcz92_0 : wc.cell? ⟨gb162, 0, none⟩ = some (.int .i64 t158) := (blk_cell BK162.out 0).trans rfl
               have hcz92_1 : wc.cell? ⟨gb162, 1, none⟩ = some (.int .i64 t159) := (blk_cell BK162.out 1).trans rfl
               have hfz92_0 := blk_frozen BK162.out 0
               have hfz92_1 := blk_frozen BK162.out 1
               go_wp2
               go_meet
               case rel => exact ⟨_, ((x19_27 != (decide (x17_1 ≤ t159)))), zqQ, H', ⟨by have := HK1.out; have := HJ27.out; have := HJ53.out; first | omega | exact Nat.le_refl _⟩, ⟨zqB BK149.out⟩, ⟨zqB BK155.out⟩, ⟨zqB BK161.out⟩, ⟨zqB BK162.out⟩, ⟨zqJ HB.out GE149.out GE155.out GE161.out GE162.out⟩⟩
              ·
               rw [if_neg c85] at H
               have c85b0 : decide (t158 ≤ x17_1) = false := decide_eq_false c85
               clear c85
               have H' := zA H
               clear H
               have hnb93 := NB161_149.out
               have hnc93 := NB149_161.out
               have hnb94 := NB161_155.out
               have hnc94 := NB155_161.out
               have hnb95 := NB161_162.out
               have hnc95 := NB162_161.out
               have hcz96_0 : wc.cell? ⟨gb161, 0, none⟩ = some (.int .i64 t156) := (blk_cell BK161.out 0).trans rfl
               have hcz96_1 : wc.cell? ⟨gb161, 1, none⟩ = some (.int .i64 t157) := (blk_cell BK161.out 1).trans rfl
               have hfz96_0 := blk_frozen BK161.out 0
               have hfz96_1 := blk_frozen BK161.out 1
               have hnb97 := NB162_149.out
               have hnc97 := NB149_162.out
               have hnb98 := NB162_155.out
               have hnc98 := NB155_162.out
               have hcz99_0 : wc.cell? ⟨gb162, 0, none⟩ = some (.int .i64 t158) := (blk_cell BK162.out 0).trans rfl
               have hcz99_1 : wc.cell? ⟨gb162, 1, none⟩ = some (.int .i64 t159) := (blk_cell BK162.out 1).trans rfl
               have hfz99_0 := blk_frozen BK162.out 0
               have hfz99_1 := blk_frozen BK162.out 1
               go_wp2
               go_meet
               case rel => exact ⟨_, ((x19_27 != false)), zqQ, H', ⟨by have := HK1.out; have := HJ27.out; have := HJ53.out; first | omega | exact Nat.le_refl _⟩, ⟨zqB BK149.out⟩, ⟨zqB BK155.out⟩, ⟨zqB BK161.out⟩, ⟨zqB BK162.out⟩, ⟨zqJ HB.out GE149.out GE155.out GE161.out GE162.out⟩⟩
           ·
            rw [if_neg c58] at H
            have c58b0 : decide (1 ≤ x17_1) = false := decide_eq_false c58
            clear c58
            by_cases c100 : (x18_27 != false) = true
            ·
             rw [if_pos c100] at H
             exact (pianolalaw03_PunchDays.j3_no H HRT.out).elim
            ·
             rw [if_neg c100] at H
             have c100b0 : (x18_27 != false) = false := by simpa using c100
             (try (have c100b1 : decide (x18_27 = false) = true := by simpa using c100))
             (try (have c100b2 : (x18_27 == false) = true := by simpa using c100))
             clear c100
             have H' := zA H
             clear H
             go_wp2
             go_meet
             case rel => exact ⟨_, ((x19_27 != false)), zqQ, H', ⟨by have := HK1.out; have := HJ27.out; have := HJ53.out; first | omega | exact Nat.le_refl _⟩, ⟨zqB BK149.out⟩, ⟨zqB BK155.out⟩, ⟨zqB BK161.out⟩, ⟨zqB BK162.out⟩, ⟨zqJ HB.out GE149.out GE155.out GE161.out GE162.out⟩⟩
          ·
           rw [if_neg c57] at H
           have c57b0 : (t160 == 0) = false := beq_eq_false_iff_ne.mpr c57
           have c57b1 : (t160 != 0) = true := bne_iff_ne.mpr c57
           (first | rw [c57b0] | (simp only [i64_w, i32_w]; rw [c57b0]) | skip)
           have H' := zA H
           clear H
           go_wp2
           go_meet
           case rel => exact ⟨_, (false), zqQ, H', ⟨by have := HK1.out; have := HJ27.out; have := HJ53.out; first | omega | exact Nat.le_refl _⟩, ⟨zqB BK149.out⟩, ⟨zqB BK155.out⟩, ⟨zqB BK161.out⟩, ⟨zqB BK162.out⟩, ⟨zqJ HB.out GE149.out GE155.out GE161.out GE162.out⟩⟩
         case rest => as_aux_lemma =>
          clear HC56
          try clear c1
          try clear c2
          try clear p2
          try clear c4
          try clear c5
          try clear c6
          try clear p6
          try clear c7
          try clear c8
          try clear c9
          try clear c10
          try clear c20
          try clear c45
          try clear c55
          try clear c57
          try clear c57b0
          try clear c57b1
          try clear c58
          try clear c58b0
          try clear c59
          try clear c59b0
          try clear c60
          try clear c60b0
          try clear c60b1
          try clear c60b2
          try clear c61
          try clear c62
          try clear c63
          try clear p64
          try clear c65
          try clear c65b0
          try clear c66
          try clear c67
          try clear c68
          try clear c70
          try clear c71
          try clear c73
          try clear c74
          try clear c75
          try clear c77
          try clear c78
          try clear c80
          try clear c80b0
          try clear c80b1
          try clear c80b2
          try clear c81
          try clear c82
          try clear c83
          try clear c85
          try clear c85b0
          try clear c86
          try clear c87
          try clear c88
          try clear c90
          try clear c91
          try clear c93
          try clear c94
          try clear c95
          try clear c97
          try clear c98
          try clear c100
          try clear c100b0
          try clear c100b1
          try clear c100b2
          try clear hcz64_0
          try clear hcz64_1
          try clear hcz69_0
          try clear hcz69_1
          try clear hcz72_0
          try clear hcz72_1
          try clear hcz76_0
          try clear hcz76_1
          try clear hcz79_0
          try clear hcz79_1
          try clear hcz84_0
          try clear hcz84_1
          try clear hcz89_0
          try clear hcz89_1
          try clear hcz92_0
          try clear hcz92_1
          try clear hcz96_0
          try clear hcz96_1
          try clear hcz99_0
          try clear hcz99_1
          try clear hfz64_0
          try clear hfz64_1
          try clear hfz69_0
          try clear hfz69_1
          try clear hfz72_0
          try clear hfz72_1
          try clear hfz76_0
          try clear hfz76_1
          try clear hfz79_0
          try clear hfz79_1
          try clear hfz84_0
          try clear hfz84_1
          try clear hfz89_0
          try clear hfz89_1
          try clear hfz92_0
          try clear hfz92_1
          try clear hfz96_0
          try clear hfz96_1
          try clear hfz99_0
          try clear hfz99_1
          try clear p2
          try clear p6
          obtain ⟨kq, x123_55, rfl, HA, HJ55, BK149, BK155, BK161, BK162, HB⟩ := hcut
          cases kq with
          | zero => exact absurd HA.out (by simp [pianolalaw03_PunchDays.j3])
          | succ kj55 =>
           have H := HA.out
           clear HA
           simp only [pianolalaw03_PunchDays.j3] at H
           by_cases c101 : x123_55 = true
           ·
            subst c101
            have H1 : (some false) = some r := by rw [if_pos rfl] at H; exact H
            clear H; have H := H1; clear H1
            exact absurd ((Option.some.inj H).trans HRT.out) (by decide)
           ·
            replace c101 := Bool.eq_false_iff.mpr c101
            subst c101
            have H1 : (if x18_27 = true then ((days_hole.f x17_1 (wrap64 (t150 + (Int.tmod (wrap64 (a3)) (wrap64 ((wrap64 (t151 - t150)) + 1))))) t150 t151 t152 t153 t154).bind fun t169 => (if t169 = true then (if x19_27 = true then ((days_bridge.f x17_1 (wrap64 (t150 + (Int.tmod (wrap64 (a3)) (wrap64 ((wrap64 (t151 - t150)) + 1))))) t150 t151 t152 t153 t154).bind fun t170 => (if t170 = true then (pianolalaw03_PunchDays.l0 kj55 a1 a2 (wrap64 (t150 + (Int.tmod (wrap64 (a3)) (wrap64 ((wrap64 (t151 - t150)) + 1))))) t160 x16_53 (wrap64 (x17_1 + 1)) t150 t151 t152 t153 t154 t156 t157 t158 t159) else (some false))) else (pianolalaw03_PunchDays.l0 kj55 a1 a2 (wrap64 (t150 + (Int.tmod (wrap64 (a3)) (wrap64 ((wrap64 (t151 - t150)) + 1))))) t160 x16_53 (wrap64 (x17_1 + 1)) t150 t151 t152 t153 t154 t156 t157 t158 t159)) else (some false))) else (if x19_27 = true then ((days_bridge.f x17_1 (wrap64 (t150 + (Int.tmod (wrap64 (a3)) (wrap64 ((wrap64 (t151 - t150)) + 1))))) t150 t151 t152 t153 t154).bind fun t171 => (if t171 = true then (pianolalaw03_PunchDays.l0 kj55 a1 a2 (wrap64 (t150 + (Int.tmod (wrap64 (a3)) (wrap64 ((wrap64 (t151 - t150)) + 1))))) t160 x16_53 (wrap64 (x17_1 + 1)) t150 t151 t152 t153 t154 t156 t157 t158 t159) else (some false))) else (pianolalaw03_PunchDays.l0 kj55 a1 a2 (wrap64 (t150 + (Int.tmod (wrap64 (a3)) (wrap64 ((wrap64 (t151 - t150)) + 1))))) t160 x16_53 (wrap64 (x17_1 + 1)) t150 t151 t152 t153 t154 t156 t157 t158 t159))) = some r := by rw [if_neg (show ¬ (false = true) by decide)] at H; exact H
            clear H; have H := H1; clear H1
            by_cases c102 : x18_27 = true
            ·
             subst c102
             have H1 : ((days_hole.f x17_1 (wrap64 (t150 + (Int.tmod (wrap64 (a3)) (wrap64 ((wrap64 (t151 - t150)) + 1))))) t150 t151 t152 t153 t154).bind fun t169 => (if t169 = true then (if x19_27 = true then ((days_bridge.f x17_1 (wrap64 (t150 + (Int.tmod (wrap64 (a3)) (wrap64 ((wrap64 (t151 - t150)) + 1))))) t150 t151 t152 t153 t154).bind fun t170 => (if t170 = true then (pianolalaw03_PunchDays.l0 kj55 a1 a2 (wrap64 (t150 + (Int.tmod (wrap64 (a3)) (wrap64 ((wrap64 (t151 - t150)) + 1))))) t160 x16_53 (wrap64 (x17_1 + 1)) t150 t151 t152 t153 t154 t156 t157 t158 t159) else (some false))) else (pianolalaw03_PunchDays.l0 kj55 a1 a2 (wrap64 (t150 + (Int.tmod (wrap64 (a3)) (wrap64 ((wrap64 (t151 - t150)) + 1))))) t160 x16_53 (wrap64 (x17_1 + 1)) t150 t151 t152 t153 t154 t156 t157 t158 t159)) else (some false))) = some r := by rw [if_pos rfl] at H; exact H
             clear H; have H := H1; clear H1
             replace H := Option.bind_eq_some_iff.mp H
             obtain ⟨t169, A1030, H⟩ := H
             replace H : (if t169 = true then (if x19_27 = true then ((days_bridge.f x17_1 (wrap64 (t150 + (Int.tmod (wrap64 (a3)) (wrap64 ((wrap64 (t151 - t150)) + 1))))) t150 t151 t152 t153 t154).bind fun t170 => (if t170 = true then (pianolalaw03_PunchDays.l0 kj55 a1 a2 (wrap64 (t150 + (Int.tmod (wrap64 (a3)) (wrap64 ((wrap64 (t151 - t150)) + 1))))) t160 x16_53 (wrap64 (x17_1 + 1)) t150 t151 t152 t153 t154 t156 t157 t158 t159) else (some false))) else (pianolalaw03_PunchDays.l0 kj55 a1 a2 (wrap64 (t150 + (Int.tmod (wrap64 (a3)) (wrap64 ((wrap64 (t151 - t150)) + 1))))) t160 x16_53 (wrap64 (x17_1 + 1)) t150 t151 t152 t153 t154 t156 t157 t158 t159)) else (some false)) = some r := H
             have A103 := zA A1030
             clear A1030
             by_cases c104 : t169 = true
             ·
              subst c104
              have H1 : (if x19_27 = true then ((days_bridge.f x17_1 (wrap64 (t150 + (Int.tmod (wrap64 (a3)) (wrap64 ((wrap64 (t151 - t150)) + 1))))) t150 t151 t152 t153 t154).bind fun t170 => (if t170 = true then (pianolalaw03_PunchDays.l0 kj55 a1 a2 (wrap64 (t150 + (Int.tmod (wrap64 (a3)) (wrap64 ((wrap64 (t151 - t150)) + 1))))) t160 x16_53 (wrap64 (x17_1 + 1)) t150 t151 t152 t153 t154 t156 t157 t158 t159) else (some false))) else (pianolalaw03_PunchDays.l0 kj55 a1 a2 (wrap64 (t150 + (Int.tmod (wrap64 (a3)) (wrap64 ((wrap64 (t151 - t150)) + 1))))) t160 x16_53 (wrap64 (x17_1 + 1)) t150 t151 t152 t153 t154 t156 t157 t158 t159)) = some r := by rw [if_pos rfl] at H; exact H
              clear H; have H := H1; clear H1
              by_cases c105 : x19_27 = true
              ·
               subst c105
               have H1 : ((days_bridge.f x17_1 (wrap64 (t150 + (Int.tmod (wrap64 (a3)) (wrap64 ((wrap64 (t151 - t150)) + 1))))) t150 t151 t152 t153 t154).bind fun t170 => (if t170 = true then (pianolalaw03_PunchDays.l0 kj55 a1 a2 (wrap64 (t150 + (Int.tmod (wrap64 (a3)) (wrap64 ((wrap64 (t151 - t150)) + 1))))) t160 x16_53 (wrap64 (x17_1 + 1)) t150 t151 t152 t153 t154 t156 t157 t158 t159) else (some false))) = some r := by rw [if_pos rfl] at H; exact H
               clear H; have H := H1; clear H1
               replace H := Option.bind_eq_some_iff.mp H
               obtain ⟨t170, A1060, H⟩ := H
               replace H : (if t170 = true then (pianolalaw03_PunchDays.l0 kj55 a1 a2 (wrap64 (t150 + (Int.tmod (wrap64 (a3)) (wrap64 ((wrap64 (t151 - t150)) + 1))))) t160 x16_53 (wrap64 (x17_1 + 1)) t150 t151 t152 t153 t154 t156 t157 t158 t159) else (some false)) = some r := H
               have A106 := zA A1060
               clear A1060
               by_cases c107 : t170 = true
               ·
                subst c107
                have H1 : (pianolalaw03_PunchDays.l0 kj55 a1 a2 (wrap64 (t150 + (Int.tmod (wrap64 (a3)) (wrap64 ((wrap64 (t151 - t150)) + 1))))) t160 x16_53 (wrap64 (x17_1 + 1)) t150 t151 t152 t153 t154 t156 t157 t158 t159) = some r := by rw [if_pos rfl] at H; exact H
                clear H; have H := H1; clear H1
                have H' := zA H
                clear H
                have hnb108 := NB155_149.out
                have hnc108 := NB149_155.out
                have hnb109 := NB155_161.out
                have hnc109 := NB161_155.out
                have hnb110 := NB155_162.out
                have hnc110 := NB162_155.out
                have hcz111_0 : wc.cell? ⟨gb155, 0, none⟩ = some (.int .i64 t150) := (blk_cell BK155.out 0).trans rfl
                have hcz111_1 : wc.cell? ⟨gb155, 1, none⟩ = some (.int .i64 t151) := (blk_cell BK155.out 1).trans rfl
                have hcz111_2 : wc.cell? ⟨gb155, 2, none⟩ = some (.int .i64 t152) := (blk_cell BK155.out 2).trans rfl
                have hcz111_3 : wc.cell? ⟨gb155, 3, none⟩ = some (.int .i64 t153) := (blk_cell BK155.out 3).trans rfl
                have hcz111_4 : wc.cell? ⟨gb155, 4, none⟩ = some (.int .i64 t154) := (blk_cell BK155.out 4).trans rfl
                have hfz111_0 := blk_frozen BK155.out 0
                have hfz111_1 := blk_frozen BK155.out 1
                have hfz111_2 := blk_frozen BK155.out 2
                have hfz111_3 := blk_frozen BK155.out 3
                have hfz111_4 := blk_frozen BK155.out 4
                go_wp2_with (first | (go_at_call 43; (with_reducible refine (days_hole.calls x17_1 (wrap64 (t150 + (Int.tmod (wrap64 (a3)) (wrap64 ((wrap64 (t151 - t150)) + 1))))) t150 t151 t152 t153 t154 true gb155 _ (zqB BK155.out) A103.out).mono ?_); rintro e w112 ⟨rfl, hb⟩; have n0_ := zA (blk_below (g := gb149) (o := .cells #[.int .u8 a0_0, .int .u8 a0_1, .int .u8 a0_2, .int .u8 a0_3, .int .u8 a0_4] 86 (0, 0)) (zqB BK149.out) hb); have n1_ := zA (blk_below (g := gb155) (o := .cells #[.int .i64 t150, .int .i64 t151, .int .i64 t152, .int .i64 t153, .int .i64 t154] 57 (0, 0)) (zqB BK155.out) hb); have n2_ := zA (blk_below (g := gb161) (o := .cells #[.int .i64 t156, .int .i64 t157] 55 (0, 0)) (zqB BK161.out) hb); have n3_ := zA (blk_below (g := gb162) (o := .cells #[.int .i64 t158, .int .i64 t159] 55 (0, 0)) (zqB BK162.out) hb); have n4_ := zA (below_step (zqJ HB.out GE149.out GE155.out GE161.out GE162.out) hb); clear BK149; clear BK155; clear BK161; clear BK162; clear HB; have BK149 := n0_; have BK155 := n1_; have BK161 := n2_; have BK162 := n3_; have HB := n4_; clear n0_ n1_ n2_ n3_ n4_; (try clear hb); (try clear hb2); (try clear hk); (try clear hi); have hcz113_0 : w112.cell? ⟨gb155, 0, none⟩ = some (.int .i64 t150) := (blk_cell BK155.out 0).trans rfl; have hcz113_1 : w112.cell? ⟨gb155, 1, none⟩ = some (.int .i64 t151) := (blk_cell BK155.out 1).trans rfl; have hcz113_2 : w112.cell? ⟨gb155, 2, none⟩ = some (.int .i64 t152) := (blk_cell BK155.out 2).trans rfl; have hcz113_3 : w112.cell? ⟨gb155, 3, none⟩ = some (.int .i64 t153) := (blk_cell BK155.out 3).trans rfl; have hcz113_4 : w112.cell? ⟨gb155, 4, none⟩ = some (.int .i64 t154) := (blk_cell BK155.out 4).trans rfl; have hfz113_0 := blk_frozen BK155.out 0; have hfz113_1 := blk_frozen BK155.out 1; have hfz113_2 := blk_frozen BK155.out 2; have hfz113_3 := blk_frozen BK155.out 3; have hfz113_4 := blk_frozen BK155.out 4) | (go_at_call 44; (with_reducible refine (days_bridge.calls x17_1 (wrap64 (t150 + (Int.tmod (wrap64 (a3)) (wrap64 ((wrap64 (t151 - t150)) + 1))))) t150 t151 t152 t153 t154 true gb155 _ (zqB BK155.out) A106.out).mono ?_); rintro e w114 ⟨rfl, hb⟩; have n0_ := zA (blk_below (g := gb149) (o := .cells #[.int .u8 a0_0, .int .u8 a0_1, .int .u8 a0_2, .int .u8 a0_3, .int .u8 a0_4] 86 (0, 0)) (zqB BK149.out) hb); have n1_ := zA (blk_below (g := gb155) (o := .cells #[.int .i64 t150, .int .i64 t151, .int .i64 t152, .int .i64 t153, .int .i64 t154] 57 (0, 0)) (zqB BK155.out) hb); have n2_ := zA (blk_below (g := gb161) (o := .cells #[.int .i64 t156, .int .i64 t157] 55 (0, 0)) (zqB BK161.out) hb); have n3_ := zA (blk_below (g := gb162) (o := .cells #[.int .i64 t158, .int .i64 t159] 55 (0, 0)) (zqB BK162.out) hb); have n4_ := zA (below_step (zqJ HB.out GE149.out GE155.out GE161.out GE162.out) hb); clear BK149; clear BK155; clear BK161; clear BK162; clear HB; have BK149 := n0_; have BK155 := n1_; have BK161 := n2_; have BK162 := n3_; have HB := n4_; clear n0_ n1_ n2_ n3_ n4_; (try clear hb); (try clear hb2); (try clear hk); (try clear hi)))
                go_roundg kj55
                case measure => have := HK1.out; have := HJ27.out; have := HJ53.out; have := HJ55.out; omega
                case rel => exact ⟨(x16_53), (wrap64 (x17_1 + 1)), zqQ, zqQ, H', ⟨by have := HK1.out; have := HJ27.out; have := HJ53.out; have := HJ55.out; omega⟩, ⟨zqB BK149.out⟩, ⟨zqB BK155.out⟩, ⟨zqB BK161.out⟩, ⟨zqB BK162.out⟩, ⟨zqJ HB.out GE149.out GE155.out GE161.out GE162.out⟩⟩
               ·
                replace c107 := Bool.eq_false_iff.mpr c107
                subst c107
                have H1 : (some false) = some r := by rw [if_neg (show ¬ (false = true) by decide)] at H; exact H
                clear H; have H := H1; clear H1
                exact absurd ((Option.some.inj H).trans HRT.out) (by decide)
              ·
               replace c105 := Bool.eq_false_iff.mpr c105
               subst c105
               have H1 : (pianolalaw03_PunchDays.l0 kj55 a1 a2 (wrap64 (t150 + (Int.tmod (wrap64 (a3)) (wrap64 ((wrap64 (t151 - t150)) + 1))))) t160 x16_53 (wrap64 (x17_1 + 1)) t150 t151 t152 t153 t154 t156 t157 t158 t159) = some r := by rw [if_neg (show ¬ (false = true) by decide)] at H; exact H
               clear H; have H := H1; clear H1
               have H' := zA H
               clear H
               have hnb122 := NB155_149.out
               have hnc122 := NB149_155.out
               have hnb123 := NB155_161.out
               have hnc123 := NB161_155.out
               have hnb124 := NB155_162.out
               have hnc124 := NB162_155.out
               have hcz125_0 : wc.cell? ⟨gb155, 0, none⟩ = some (.int .i64 t150) := (blk_cell BK155.out 0).trans rfl
               have hcz125_1 : wc.cell? ⟨gb155, 1, none⟩ = some (.int .i64 t151) := (blk_cell BK155.out 1).trans rfl
               have hcz125_2 : wc.cell? ⟨gb155, 2, none⟩ = some (.int .i64 t152) := (blk_cell BK155.out 2).trans rfl
               have hcz125_3 : wc.cell? ⟨gb155, 3, none⟩ = some (.int .i64 t153) := (blk_cell BK155.out 3).trans rfl
               have hcz125_4 : wc.cell? ⟨gb155, 4, none⟩ = some (.int .i64 t154) := (blk_cell BK155.out 4).trans rfl
               have hfz125_0 := blk_frozen BK155.out 0
               have hfz125_1 := blk_frozen BK155.out 1
               have hfz125_2 := blk_frozen BK155.out 2
               have hfz125_3 := blk_frozen BK155.out 3
               have hfz125_4 := blk_frozen BK155.out 4
               go_wp2_with (first | (go_at_call 43; (with_reducible refine (days_hole.calls x17_1 (wrap64 (t150 + (Int.tmod (wrap64 (a3)) (wrap64 ((wrap64 (t151 - t150)) + 1))))) t150 t151 t152 t153 t154 true gb155 _ (zqB BK155.out) A103.out).mono ?_); rintro e w126 ⟨rfl, hb⟩; have n0_ := zA (blk_below (g := gb149) (o := .cells #[.int .u8 a0_0, .int .u8 a0_1, .int .u8 a0_2, .int .u8 a0_3, .int .u8 a0_4] 86 (0, 0)) (zqB BK149.out) hb); have n1_ := zA (blk_below (g := gb155) (o := .cells #[.int .i64 t150, .int .i64 t151, .int .i64 t152, .int .i64 t153, .int .i64 t154] 57 (0, 0)) (zqB BK155.out) hb); have n2_ := zA (blk_below (g := gb161) (o := .cells #[.int .i64 t156, .int .i64 t157] 55 (0, 0)) (zqB BK161.out) hb); have n3_ := zA (blk_below (g := gb162) (o := .cells #[.int .i64 t158, .int .i64 t159] 55 (0, 0)) (zqB BK162.out) hb); have n4_ := zA (below_step (zqJ HB.out GE149.out GE155.out GE161.out GE162.out) hb); clear BK149; clear BK155; clear BK161; clear BK162; clear HB; have BK149 := n0_; have BK155 := n1_; have BK161 := n2_; have BK162 := n3_; have HB := n4_; clear n0_ n1_ n2_ n3_ n4_; (try clear hb); (try clear hb2); (try clear hk); (try clear hi)))
               go_roundg kj55
               case measure => have := HK1.out; have := HJ27.out; have := HJ53.out; have := HJ55.out; omega
               case rel => exact ⟨(x16_53), (wrap64 (x17_1 + 1)), zqQ, zqQ, H', ⟨by have := HK1.out; have := HJ27.out; have := HJ53.out; have := HJ55.out; omega⟩, ⟨zqB BK149.out⟩, ⟨zqB BK155.out⟩, ⟨zqB BK161.out⟩, ⟨zqB BK162.out⟩, ⟨zqJ HB.out GE149.out GE155.out GE161.out GE162.out⟩⟩
             ·
              replace c104 := Bool.eq_false_iff.mpr c104
              subst c104
              have H1 : (some false) = some r := by rw [if_neg (show ¬ (false = true) by decide)] at H; exact H
              clear H; have H := H1; clear H1
              exact absurd ((Option.some.inj H).trans HRT.out) (by decide)
            ·
             replace c102 := Bool.eq_false_iff.mpr c102
             subst c102
             have H1 : (if x19_27 = true then ((days_bridge.f x17_1 (wrap64 (t150 + (Int.tmod (wrap64 (a3)) (wrap64 ((wrap64 (t151 - t150)) + 1))))) t150 t151 t152 t153 t154).bind fun t171 => (if t171 = true then (pianolalaw03_PunchDays.l0 kj55 a1 a2 (wrap64 (t150 + (Int.tmod (wrap64 (a3)) (wrap64 ((wrap64 (t151 - t150)) + 1))))) t160 x16_53 (wrap64 (x17_1 + 1)) t150 t151 t152 t153 t154 t156 t157 t158 t159) else (some false))) else (pianolalaw03_PunchDays.l0 kj55 a1 a2 (wrap64 (t150 + (Int.tmod (wrap64 (a3)) (wrap64 ((wrap64 (t151 - t150)) + 1))))) t160 x16_53 (wrap64 (x17_1 + 1)) t150 t151 t152 t153 t154 t156 t157 t158 t159)) = some r := by rw [if_neg (show ¬ (false = true) by decide)] at H; exact H
             clear H; have H := H1; clear H1
             by_cases c132 : x19_27 = true
             ·
              subst c132
              have H1 : ((days_bridge.f x17_1 (wrap64 (t150 + (Int.tmod (wrap64 (a3)) (wrap64 ((wrap64 (t151 - t150)) + 1))))) t150 t151 t152 t153 t154).bind fun t171 => (if t171 = true then (pianolalaw03_PunchDays.l0 kj55 a1 a2 (wrap64 (t150 + (Int.tmod (wrap64 (a3)) (wrap64 ((wrap64 (t151 - t150)) + 1))))) t160 x16_53 (wrap64 (x17_1 + 1)) t150 t151 t152 t153 t154 t156 t157 t158 t159) else (some false))) = some r := by rw [if_pos rfl] at H; exact H
              clear H; have H := H1; clear H1
              replace H := Option.bind_eq_some_iff.mp H
              obtain ⟨t171, A1330, H⟩ := H
              replace H : (if t171 = true then (pianolalaw03_PunchDays.l0 kj55 a1 a2 (wrap64 (t150 + (Int.tmod (wrap64 (a3)) (wrap64 ((wrap64 (t151 - t150)) + 1))))) t160 x16_53 (wrap64 (x17_1 + 1)) t150 t151 t152 t153 t154 t156 t157 t158 t159) else (some false)) = some r := H
              have A133 := zA A1330
              clear A1330
              by_cases c134 : t171 = true
              ·
               subst c134
               have H1 : (pianolalaw03_PunchDays.l0 kj55 a1 a2 (wrap64 (t150 + (Int.tmod (wrap64 (a3)) (wrap64 ((wrap64 (t151 - t150)) + 1))))) t160 x16_53 (wrap64 (x17_1 + 1)) t150 t151 t152 t153 t154 t156 t157 t158 t159) = some r := by rw [if_pos rfl] at H; exact H
               clear H; have H := H1; clear H1
               have H' := zA H
               clear H
               have hnb135 := NB155_149.out
               have hnc135 := NB149_155.out
               have hnb136 := NB155_161.out
               have hnc136 := NB161_155.out
               have hnb137 := NB155_162.out
               have hnc137 := NB162_155.out
               have hcz138_0 : wc.cell? ⟨gb155, 0, none⟩ = some (.int .i64 t150) := (blk_cell BK155.out 0).trans rfl
               have hcz138_1 : wc.cell? ⟨gb155, 1, none⟩ = some (.int .i64 t151) := (blk_cell BK155.out 1).trans rfl
               have hcz138_2 : wc.cell? ⟨gb155, 2, none⟩ = some (.int .i64 t152) := (blk_cell BK155.out 2).trans rfl
               have hcz138_3 : wc.cell? ⟨gb155, 3, none⟩ = some (.int .i64 t153) := (blk_cell BK155.out 3).trans rfl
               have hcz138_4 : wc.cell? ⟨gb155, 4, none⟩ = some (.int .i64 t154) := (blk_cell BK155.out 4).trans rfl
               have hfz138_0 := blk_frozen BK155.out 0
               have hfz138_1 := blk_frozen BK155.out 1
               have hfz138_2 := blk_frozen BK155.out 2
               have hfz138_3 := blk_frozen BK155.out 3
               have hfz138_4 := blk_frozen BK155.out 4
               go_wp2_with (first | (go_at_call 44; (with_reducible refine (days_bridge.calls x17_1 (wrap64 (t150 + (Int.tmod (wrap64 (a3)) (wrap64 ((wrap64 (t151 - t150)) + 1))))) t150 t151 t152 t153 t154 true gb155 _ (zqB BK155.out) A133.out).mono ?_); rintro e w139 ⟨rfl, hb⟩; have n0_ := zA (blk_below (g := gb149) (o := .cells #[.int .u8 a0_0, .int .u8 a0_1, .int .u8 a0_2, .int .u8 a0_3, .int .u8 a0_4] 86 (0, 0)) (zqB BK149.out) hb); have n1_ := zA (blk_below (g := gb155) (o := .cells #[.int .i64 t150, .int .i64 t151, .int .i64 t152, .int .i64 t153, .int .i64 t154] 57 (0, 0)) (zqB BK155.out) hb); have n2_ := zA (blk_below (g := gb161) (o := .cells #[.int .i64 t156, .int .i64 t157] 55 (0, 0)) (zqB BK161.out) hb); have n3_ := zA (blk_below (g := gb162) (o := .cells #[.int .i64 t158, .int .i64 t159] 55 (0, 0)) (zqB BK162.out) hb); have n4_ := zA (below_step (zqJ HB.out GE149.out GE155.out GE161.out GE162.out) hb); clear BK149; clear BK155; clear BK161; clear BK162; clear HB; have BK149 := n0_; have BK155 := n1_; have BK161 := n2_; have BK162 := n3_; have HB := n4_; clear n0_ n1_ n2_ n3_ n4_; (try clear hb); (try clear hb2); (try clear hk); (try clear hi)))
               go_roundg kj55
               case measure => have := HK1.out; have := HJ27.out; have := HJ53.out; have := HJ55.out; omega
               case rel => exact ⟨(x16_53), (wrap64 (x17_1 + 1)), zqQ, zqQ, H', ⟨by have := HK1.out; have := HJ27.out; have := HJ53.out; have := HJ55.out; omega⟩, ⟨zqB BK149.out⟩, ⟨zqB BK155.out⟩, ⟨zqB BK161.out⟩, ⟨zqB BK162.out⟩, ⟨zqJ HB.out GE149.out GE155.out GE161.out GE162.out⟩⟩
              ·
               replace c134 := Bool.eq_false_iff.mpr c134
               subst c134
               have H1 : (some false) = some r := by rw [if_neg (show ¬ (false = true) by decide)] at H; exact H
               clear H; have H := H1; clear H1
               exact absurd ((Option.some.inj H).trans HRT.out) (by decide)
             ·
              replace c132 := Bool.eq_false_iff.mpr c132
              subst c132
              have H1 : (pianolalaw03_PunchDays.l0 kj55 a1 a2 (wrap64 (t150 + (Int.tmod (wrap64 (a3)) (wrap64 ((wrap64 (t151 - t150)) + 1))))) t160 x16_53 (wrap64 (x17_1 + 1)) t150 t151 t152 t153 t154 t156 t157 t158 t159) = some r := by rw [if_neg (show ¬ (false = true) by decide)] at H; exact H
              clear H; have H := H1; clear H1
              have H' := zA H
              clear H
              go_wp2
              go_roundg kj55
              case measure => have := HK1.out; have := HJ27.out; have := HJ53.out; have := HJ55.out; omega
              case rel => exact ⟨(x16_53), (wrap64 (x17_1 + 1)), zqQ, zqQ, H', ⟨by have := HK1.out; have := HJ27.out; have := HJ53.out; have := HJ55.out; omega⟩, ⟨zqB BK149.out⟩, ⟨zqB BK155.out⟩, ⟨zqB BK161.out⟩, ⟨zqB BK162.out⟩, ⟨zqJ HB.out GE149.out GE155.out GE161.out GE162.out⟩⟩
    ·
     rw [if_neg c27] at H
     have c27b0 : decide (x17_1 < 40) = false := decide_eq_false c27
     clear c27
     by_cases c145 : x16_1 = true
     ·
      subst c145
      have H1 : ((punch_Bridge.f k1 t150 t151 t152 t153 t154 (wrap64 (a1)) (wrap64 ((wrap64 ((wrap64 (a1)) + 1)) + (Int.tmod (wrap64 (a2)) 60)))).bind fun bt174 => (if t160 = 0 then (if bt174.2 = 0 then (pianolalaw03_PunchDays.j4 k1 (wrap64 (t150 + (Int.tmod (wrap64 (a3)) (wrap64 ((wrap64 (t151 - t150)) + 1))))) bt174.1 bt174.2 false t150 t151 t152 t153 t154 (wrap64 (a1)) (wrap64 ((wrap64 ((wrap64 (a1)) + 1)) + (Int.tmod (wrap64 (a2)) 60)))) else (pianolalaw03_PunchDays.j4 k1 (wrap64 (t150 + (Int.tmod (wrap64 (a3)) (wrap64 ((wrap64 (t151 - t150)) + 1))))) bt174.1 bt174.2 (bt174.2 != 20) t150 t151 t152 t153 t154 (wrap64 (a1)) (wrap64 ((wrap64 ((wrap64 (a1)) + 1)) + (Int.tmod (wrap64 (a2)) 60))))) else (pianolalaw03_PunchDays.j4 k1 (wrap64 (t150 + (Int.tmod (wrap64 (a3)) (wrap64 ((wrap64 (t151 - t150)) + 1))))) bt174.1 bt174.2 true t150 t151 t152 t153 t154 (wrap64 (a1)) (wrap64 ((wrap64 ((wrap64 (a1)) + 1)) + (Int.tmod (wrap64 (a2)) 60)))))) = some r := by rw [if_pos rfl] at H; exact H
      clear H; have H := H1; clear H1
      replace H := Option.bind_eq_some_iff.mp H
      obtain ⟨⟨t174, t177⟩, A1460, H⟩ := H
      replace H : (if t160 = 0 then (if t177 = 0 then (pianolalaw03_PunchDays.j4 k1 (wrap64 (t150 + (Int.tmod (wrap64 (a3)) (wrap64 ((wrap64 (t151 - t150)) + 1))))) t174 t177 false t150 t151 t152 t153 t154 (wrap64 (a1)) (wrap64 ((wrap64 ((wrap64 (a1)) + 1)) + (Int.tmod (wrap64 (a2)) 60)))) else (pianolalaw03_PunchDays.j4 k1 (wrap64 (t150 + (Int.tmod (wrap64 (a3)) (wrap64 ((wrap64 (t151 - t150)) + 1))))) t174 t177 (t177 != 20) t150 t151 t152 t153 t154 (wrap64 (a1)) (wrap64 ((wrap64 ((wrap64 (a1)) + 1)) + (Int.tmod (wrap64 (a2)) 60))))) else (pianolalaw03_PunchDays.j4 k1 (wrap64 (t150 + (Int.tmod (wrap64 (a3)) (wrap64 ((wrap64 (t151 - t150)) + 1))))) t174 t177 true t150 t151 t152 t153 t154 (wrap64 (a1)) (wrap64 ((wrap64 ((wrap64 (a1)) + 1)) + (Int.tmod (wrap64 (a2)) 60))))) = some r := H
      have A146 := zA A1460
      clear A1460
      have HC147 := zA H
      clear H
      go_upto_region 20 with (first | ((with_reducible refine gate_dst (N := 20) rfl ?_); (try (refine gate_guard (by rfl) ?_; dsimp only)); refine box_event ?hg (N := 20) ?hd (cs := #[.int .i64 0, .int .i64 0]) (t := 47) ?hr ?_; (case hd => rfl); (case hg => rfl); (case hr => first | (go_simp; done) | (go_simp; rfl)); intro gb173 hg w148 hbox hb; have n0_ := zA (blk_below (g := gb149) (o := .cells #[.int .u8 a0_0, .int .u8 a0_1, .int .u8 a0_2, .int .u8 a0_3, .int .u8 a0_4] 86 (0, 0)) (zqB BK149.out) hb); have n1_ := zA (blk_below (g := gb155) (o := .cells #[.int .i64 t150, .int .i64 t151, .int .i64 t152, .int .i64 t153, .int .i64 t154] 57 (0, 0)) (zqB BK155.out) hb); have n2_ := zA (blk_below (g := gb161) (o := .cells #[.int .i64 t156, .int .i64 t157] 55 (0, 0)) (zqB BK161.out) hb); have n3_ := zA (blk_below (g := gb162) (o := .cells #[.int .i64 t158, .int .i64 t159] 55 (0, 0)) (zqB BK162.out) hb); have n4_ := zA (below_step (zqJ HB.out GE149.out GE155.out GE161.out GE162.out) hb); have n5_ := zA (hbox); have n6_ := zA ((by rw [hg]; exact (below_size (zqJ HB.out GE149.out GE155.out GE161.out GE162.out)) : w.heap.size ≤ gb173)); have n7_ := zA ((by rw [hg]; exact (below_size (zqJ HB.out GE149.out GE155.out GE161.out GE162.out)) : w.heap.size ≤ gb173)); have n8_ := zA ((by rw [hg]; exact Nat.ne_of_lt (blk_lt (g := gb149) (o := .cells #[.int .u8 a0_0, .int .u8 a0_1, .int .u8 a0_2, .int .u8 a0_3, .int .u8 a0_4] 86 (0, 0)) (zqB BK149.out)) : gb149 ≠ gb173)); have n9_ := zA ((by rw [hg]; exact Nat.ne_of_gt (blk_lt (g := gb149) (o := .cells #[.int .u8 a0_0, .int .u8 a0_1, .int .u8 a0_2, .int .u8 a0_3, .int .u8 a0_4] 86 (0, 0)) (zqB BK149.out)) : gb173 ≠ gb149)); have n10_ := zA ((by rw [hg]; exact Nat.ne_of_lt (blk_lt (g := gb155) (o := .cells #[.int .i64 t150, .int .i64 t151, .int .i64 t152, .int .i64 t153, .int .i64 t154] 57 (0, 0)) (zqB BK155.out)) : gb155 ≠ gb173)); have n11_ := zA ((by rw [hg]; exact Nat.ne_of_gt (blk_lt (g := gb155) (o := .cells #[.int .i64 t150, .int .i64 t151, .int .i64 t152, .int .i64 t153, .int .i64 t154] 57 (0, 0)) (zqB BK155.out)) : gb173 ≠ gb155)); have n12_ := zA ((by rw [hg]; exact Nat.ne_of_lt (blk_lt (g := gb161) (o := .cells #[.int .i64 t156, .int .i64 t157] 55 (0, 0)) (zqB BK161.out)) : gb161 ≠ gb173)); have n13_ := zA ((by rw [hg]; exact Nat.ne_of_gt (blk_lt (g := gb161) (o := .cells #[.int .i64 t156, .int .i64 t157] 55 (0, 0)) (zqB BK161.out)) : gb173 ≠ gb161)); have n14_ := zA ((by rw [hg]; exact Nat.ne_of_lt (blk_lt (g := gb162) (o := .cells #[.int .i64 t158, .int .i64 t159] 55 (0, 0)) (zqB BK162.out)) : gb162 ≠ gb173)); have n15_ := zA ((by rw [hg]; exact Nat.ne_of_gt (blk_lt (g := gb162) (o := .cells #[.int .i64 t158, .int .i64 t159] 55 (0, 0)) (zqB BK162.out)) : gb173 ≠ gb162)); clear BK149; clear BK155; clear BK161; clear BK162; clear HB; have BK149 := n0_; have BK155 := n1_; have BK161 := n2_; have BK162 := n3_; have HB := n4_; have BK173 := n5_; have GW173 := n6_; have GE173 := n7_; have NB149_173 := n8_; have NB173_149 := n9_; have NB155_173 := n10_; have NB173_155 := n11_; have NB161_173 := n12_; have NB173_161 := n13_; have NB162_173 := n14_; have NB173_162 := n15_; clear n0_ n1_ n2_ n3_ n4_ n5_ n6_ n7_ n8_ n9_ n10_ n11_ n12_ n13_ n14_ n15_; clear hb hbox hg; have hnb149 := NB173_149.out; have hnc149 := NB149_173.out; have hnb150 := NB173_155.out; have hnc150 := NB155_173.out; have hnb151 := NB173_161.out; have hnc151 := NB161_173.out; have hnb152 := NB173_162.out; have hnc152 := NB162_173.out; have hcz153_0 : w148.cell? ⟨gb173, 0, none⟩ = some (.int .i64 0) := (blk_cell BK173.out 0).trans rfl; have hcz153_1 : w148.cell? ⟨gb173, 1, none⟩ = some (.int .i64 0) := (blk_cell BK173.out 1).trans rfl; have hfz153_0 := blk_frozen BK173.out 0; have hfz153_1 := blk_frozen BK173.out 1; have hnb154 := NB155_149.out; have hnc154 := NB149_155.out; have hnb155 := NB155_161.out; have hnc155 := NB161_155.out; have hnb156 := NB155_162.out; have hnc156 := NB162_155.out; have hcz157_0 : w148.cell? ⟨gb155, 0, none⟩ = some (.int .i64 t150) := (blk_cell BK155.out 0).trans rfl; have hcz157_1 : w148.cell? ⟨gb155, 1, none⟩ = some (.int .i64 t151) := (blk_cell BK155.out 1).trans rfl; have hcz157_2 : w148.cell? ⟨gb155, 2, none⟩ = some (.int .i64 t152) := (blk_cell BK155.out 2).trans rfl; have hcz157_3 : w148.cell? ⟨gb155, 3, none⟩ = some (.int .i64 t153) := (blk_cell BK155.out 3).trans rfl; have hcz157_4 : w148.cell? ⟨gb155, 4, none⟩ = some (.int .i64 t154) := (blk_cell BK155.out 4).trans rfl; have hfz157_0 := blk_frozen BK155.out 0; have hfz157_1 := blk_frozen BK155.out 1; have hfz157_2 := blk_frozen BK155.out 2; have hfz157_3 := blk_frozen BK155.out 3; have hfz157_4 := blk_frozen BK155.out 4) | ((with_reducible refine gate_callee (f := 32) rfl ?_); refine goesL_ (some 162) rfl rfl Try.func32 (by kernel_rfl) rfl #[.agg #[.int .i64 t150, .int .i64 t151, .int .i64 t152, .int .i64 t153, .int .i64 t154], .agg #[.int .i64 (wrap64 (a1)), .int .i64 (wrap64 ((wrap64 ((wrap64 (a1)) + 1)) + (Int.tmod (wrap64 (a2)) 60)))]] rfl zqE ?_; (with_reducible refine (punch_Bridge.calls k1 t150 t151 t152 t153 t154 (wrap64 (a1)) (wrap64 ((wrap64 ((wrap64 (a1)) + 1)) + (Int.tmod (wrap64 (a2)) 60))) t174 t177 _ A146.out).mono ?_); rintro e w158 ⟨v175, rfl, ho0, hb⟩; refine ⟨_, rfl, ?_⟩; have n0_ := zA (Kd.R_lower (Kd.R_newB ho0 (g := gb173) (o := .cells #[.int .i64 (wrap64 (a1)), .int .i64 (wrap64 ((wrap64 ((wrap64 (a1)) + 1)) + (Int.tmod (wrap64 (a2)) 60)))] 47 (0, 0)) (by (with_reducible repeat (first | refine blk_drewN ?_ _ | refine blk_drew ?_ | refine blk_alloc ?_ _)); refine blk_put (cs := #[.int .i64 (wrap64 (a1)), .int .i64 0]) ?_ 1 _ rfl; (with_reducible repeat (first | refine blk_drewN ?_ _ | refine blk_drew ?_ | refine blk_alloc ?_ _)); refine blk_put (cs := #[.int .i64 0, .int .i64 0]) ?_ 0 _ rfl; (with_reducible repeat (first | refine blk_drewN ?_ _ | refine blk_drew ?_ | refine blk_alloc ?_ _)); exact BK173.out)) (below_size (by repeat (first | (with_reducible first | exact HB.out | apply below_alloc | apply pw_below_drewN | apply below_drew1 | refine below_set ?_ GE149.out | refine below_set ?_ GE155.out | refine below_set ?_ GE161.out | refine below_set ?_ GE162.out | refine below_set ?_ GE173.out) | exact HB.out)))); have n1_ := zA (blk_below (g := gb149) (o := .cells #[.int .u8 a0_0, .int .u8 a0_1, .int .u8 a0_2, .int .u8 a0_3, .int .u8 a0_4] 86 (0, 0)) (by (with_reducible repeat (first | refine blk_drewN ?_ _ | refine blk_drew ?_ | refine blk_alloc ?_ _)); refine blk_far ?_ NB149_173.out _; (with_reducible repeat (first | refine blk_drewN ?_ _ | refine blk_drew ?_ | refine blk_alloc ?_ _)); refine blk_far ?_ NB149_173.out _; (with_reducible repeat (first | refine blk_drewN ?_ _ | refine blk_drew ?_ | refine blk_alloc ?_ _)); exact BK149.out) hb); have n2_ := zA (blk_below (g := gb155) (o := .cells #[.int .i64 t150, .int .i64 t151, .int .i64 t152, .int .i64 t153, .int .i64 t154] 57 (0, 0)) (by (with_reducible repeat (first | refine blk_drewN ?_ _ | refine blk_drew ?_ | refine blk_alloc ?_ _)); refine blk_far ?_ NB155_173.out _; (with_reducible repeat (first | refine blk_drewN ?_ _ | refine blk_drew ?_ | refine blk_alloc ?_ _)); refine blk_far ?_ NB155_173.out _; (with_reducible repeat (first | refine blk_drewN ?_ _ | refine blk_drew ?_ | refine blk_alloc ?_ _)); exact BK155.out) hb); have n3_ := zA (blk_below (g := gb161) (o := .cells #[.int .i64 t156, .int .i64 t157] 55 (0, 0)) (by (with_reducible repeat (first | refine blk_drewN ?_ _ | refine blk_drew ?_ | refine blk_alloc ?_ _)); refine blk_far ?_ NB161_173.out _; (with_reducible repeat (first | refine blk_drewN ?_ _ | refine blk_drew ?_ | refine blk_alloc ?_ _)); refine blk_far ?_ NB161_173.out _; (with_reducible repeat (first | refine blk_drewN ?_ _ | refine blk_drew ?_ | refine blk_alloc ?_ _)); exact BK161.out) hb); have n4_ := zA (blk_below (g := gb162) (o := .cells #[.int .i64 t158, .int .i64 t159] 55 (0, 0)) (by (with_reducible repeat (first | refine blk_drewN ?_ _ | refine blk_drew ?_ | refine blk_alloc ?_ _)); refine blk_far ?_ NB162_173.out _; (with_reducible repeat (first | refine blk_drewN ?_ _ | refine blk_drew ?_ | refine blk_alloc ?_ _)); refine blk_far ?_ NB162_173.out _; (with_reducible repeat (first | refine blk_drewN ?_ _ | refine blk_drew ?_ | refine blk_alloc ?_ _)); exact BK162.out) hb); have n5_ := zA (blk_below (g := gb173) (o := .cells #[.int .i64 (wrap64 (a1)), .int .i64 (wrap64 ((wrap64 ((wrap64 (a1)) + 1)) + (Int.tmod (wrap64 (a2)) 60)))] 47 (0, 0)) (by (with_reducible repeat (first | refine blk_drewN ?_ _ | refine blk_drew ?_ | refine blk_alloc ?_ _)); refine blk_put (cs := #[.int .i64 (wrap64 (a1)), .int .i64 0]) ?_ 1 _ rfl; (with_reducible repeat (first | refine blk_drewN ?_ _ | refine blk_drew ?_ | refine blk_alloc ?_ _)); refine blk_put (cs := #[.int .i64 0, .int .i64 0]) ?_ 0 _ rfl; (with_reducible repeat (first | refine blk_drewN ?_ _ | refine blk_drew ?_ | refine blk_alloc ?_ _)); exact BK173.out) hb); have n6_ := zA (below_step (by repeat (first | (with_reducible first | exact HB.out | apply below_alloc | apply pw_below_drewN | apply below_drew1 | refine below_set ?_ GE149.out | refine below_set ?_ GE155.out | refine below_set ?_ GE161.out | refine below_set ?_ GE162.out | refine below_set ?_ GE173.out) | exact HB.out)) hb); clear BK149; clear BK155; clear BK161; clear BK162; clear BK173; clear HB; have HO176 := n0_; have BK149 := n1_; have BK155 := n2_; have BK161 := n3_; have BK162 := n4_; have BK173 := n5_; have HB := n6_; clear n0_ n1_ n2_ n3_ n4_ n5_ n6_; (try clear hb); (try clear hb2); (try clear hk); (try clear hi); (try clear ho0)))
      (try simp only [Act.put, setIfInBounds_toArray, set_cons_zero, set_cons_succ])
      go_cut [174] (fun v174 wc => ∃ (kq : Nat) (x174_146 : Bool), v174 = .bool x174_146 ∧ Aside0 (pianolalaw03_PunchDays.j4 kq (wrap64 (t150 + (Int.tmod (wrap64 (a3)) (wrap64 ((wrap64 (t151 - t150)) + 1))))) t174 t177 x174_146 t150 t151 t152 t153 t154 (wrap64 (a1)) (wrap64 ((wrap64 ((wrap64 (a1)) + 1)) + (Int.tmod (wrap64 (a2)) 60))) = some r) ∧ Aside0 (kq ≤ k1) ∧ Aside0 (Kd.R k47 47 wc w.heap.size (fun k_ => k_ ≠ gb173) v175 t174) ∧ Aside0 (wc.heap[gb149]? = some (.cells #[.int .u8 a0_0, .int .u8 a0_1, .int .u8 a0_2, .int .u8 a0_3, .int .u8 a0_4] 86 (0, 0))) ∧ Aside0 (wc.heap[gb155]? = some (.cells #[.int .i64 t150, .int .i64 t151, .int .i64 t152, .int .i64 t153, .int .i64 t154] 57 (0, 0))) ∧ Aside0 (wc.heap[gb161]? = some (.cells #[.int .i64 t156, .int .i64 t157] 55 (0, 0))) ∧ Aside0 (wc.heap[gb162]? = some (.cells #[.int .i64 t158, .int .i64 t159] 55 (0, 0))) ∧ Aside0 (wc.heap[gb173]? = some (.cells #[.int .i64 (wrap64 (a1)), .int .i64 (wrap64 ((wrap64 ((wrap64 (a1)) + 1)) + (Int.tmod (wrap64 (a2)) 60)))] 47 (0, 0))) ∧ Aside0 (Below w.heap.size w wc))
      case first => as_aux_lemma =>
       have H := HC147.out
       clear HC147
       by_cases c159 : t160 = 0
       ·
        rw [if_pos c159] at H
        have c159b0 : (t160 == 0) = true := beq_iff_eq.mpr c159
        have c159b1 : (t160 != 0) = false := bne_eq_false_iff_eq.mpr c159
        clear c159
        (first | rw [c159b0] | (simp only [i64_w, i32_w]; rw [c159b0]) | skip)
        by_cases c160 : t177 = 0
        ·
         rw [if_pos c160] at H
         have c160b0 : (t177 == 0) = true := beq_iff_eq.mpr c160
         have c160b1 : (t177 != 0) = false := bne_eq_false_iff_eq.mpr c160
         clear c160
         have H' := zA H
         clear H
         go_wp2
         go_meet
         case rel => exact ⟨_, (false), zqQ, H', ⟨by have := HK1.out; first | omega | exact Nat.le_refl _⟩, ⟨by (with_reducible repeat (first | apply Kd.R_alloc | apply Kd.R_drewN | apply Kd.R_drew)); exact Kd.R_mono HO176.out (fun _ hk => hk.2)⟩, ⟨zqB BK149.out⟩, ⟨zqB BK155.out⟩, ⟨zqB BK161.out⟩, ⟨zqB BK162.out⟩, ⟨zqB BK173.out⟩, ⟨by repeat (first | (with_reducible first | exact HB.out | apply below_alloc | apply pw_below_drewN | apply below_drew1 | refine below_set ?_ GE149.out | refine below_set ?_ GE155.out | refine below_set ?_ GE161.out | refine below_set ?_ GE162.out | refine below_set ?_ GE173.out) | exact HB.out)⟩⟩
        ·
         rw [if_neg c160] at H
         have c160b0 : (t177 == 0) = false := beq_eq_false_iff_ne.mpr c160
         have c160b1 : (t177 != 0) = true := bne_iff_ne.mpr c160
         have H' := zA H
         clear H
         go_wp2
         go_meet
         case rel => exact ⟨_, ((t177 != 20)), zqQ, H', ⟨by have := HK1.out; first | omega | exact Nat.le_refl _⟩, ⟨by (with_reducible repeat (first | apply Kd.R_alloc | apply Kd.R_drewN | apply Kd.R_drew)); exact Kd.R_mono HO176.out (fun _ hk => hk.2)⟩, ⟨zqB BK149.out⟩, ⟨zqB BK155.out⟩, ⟨zqB BK161.out⟩, ⟨zqB BK162.out⟩, ⟨zqB BK173.out⟩, ⟨by repeat (first | (with_reducible first | exact HB.out | apply below_alloc | apply pw_below_drewN | apply below_drew1 | refine below_set ?_ GE149.out | refine below_set ?_ GE155.out | refine below_set ?_ GE161.out | refine below_set ?_ GE162.out | refine below_set ?_ GE173.out) | exact HB.out)⟩⟩
       ·
        rw [if_neg c159] at H
        exact (pianolalaw03_PunchDays.j4_no H HRT.out).elim
      case rest => as_aux_lemma =>
       clear HC147
       try clear c1
       try clear c2
       try clear p2
       try clear c3
       try clear c4
       try clear c5
       try clear c6
       try clear p6
       try clear c7
       try clear c8
       try clear c9
       try clear c10
       try clear c11
       try clear c12
       try clear c13
       try clear c14
       try clear c15
       try clear c16
       try clear c20
       try clear c27
       try clear c27b0
       try clear c32
       try clear c45
       try clear c55
       try clear c57
       try clear c57b0
       try clear c57b1
       try clear c58
       try clear c58b0
       try clear c59
       try clear c59b0
       try clear c60
       try clear c60b0
       try clear c60b1
       try clear c60b2
       try clear c61
       try clear c62
       try clear c63
       try clear p64
       try clear c65
       try clear c65b0
       try clear c66
       try clear c67
       try clear c68
       try clear c70
       try clear c71
       try clear c73
       try clear c74
       try clear c75
       try clear c77
       try clear c78
       try clear c80
       try clear c80b0
       try clear c80b1
       try clear c80b2
       try clear c81
       try clear c82
       try clear c83
       try clear c85
       try clear c85b0
       try clear c86
       try clear c87
       try clear c88
       try clear c90
       try clear c91
       try clear c93
       try clear c94
       try clear c95
       try clear c97
       try clear c98
       try clear c100
       try clear c100b0
       try clear c100b1
       try clear c100b2
       try clear c101
       try clear c102
       try clear c104
       try clear c105
       try clear c107
       try clear c108
       try clear c109
       try clear c110
       try clear c115
       try clear c116
       try clear c117
       try clear c122
       try clear c123
       try clear c124
       try clear c127
       try clear c128
       try clear c129
       try clear c132
       try clear c134
       try clear c135
       try clear c136
       try clear c137
       try clear c140
       try clear c141
       try clear c142
       try clear c145
       try clear c149
       try clear c150
       try clear c151
       try clear c152
       try clear c154
       try clear c155
       try clear c156
       try clear c159
       try clear c159b0
       try clear c159b1
       try clear c160
       try clear c160b0
       try clear c160b1
       try clear hcz111_0
       try clear hcz111_1
       try clear hcz111_2
       try clear hcz111_3
       try clear hcz111_4
       try clear hcz113_0
       try clear hcz113_1
       try clear hcz113_2
       try clear hcz113_3
       try clear hcz113_4
       try clear hcz118_0
       try clear hcz118_1
       try clear hcz118_2
       try clear hcz118_3
       try clear hcz118_4
       try clear hcz120_0
       try clear hcz120_1
       try clear hcz120_2
       try clear hcz120_3
       try clear hcz120_4
       try clear hcz125_0
       try clear hcz125_1
       try clear hcz125_2
       try clear hcz125_3
       try clear hcz125_4
       try clear hcz130_0
       try clear hcz130_1
       try clear hcz130_2
       try clear hcz130_3
       try clear hcz130_4
       try clear hcz138_0
       try clear hcz138_1
       try clear hcz138_2
       try clear hcz138_3
       try clear hcz138_4
       try clear hcz143_0
       try clear hcz143_1
       try clear hcz143_2
       try clear hcz143_3
       try clear hcz143_4
       try clear hcz153_0
       try clear hcz153_1
       try clear hcz157_0
       try clear hcz157_1
       try clear hcz157_2
       try clear hcz157_3
       try clear hcz157_4
       try clear hcz64_0
       try clear hcz64_1
       try clear hcz69_0
       try clear hcz69_1
       try clear hcz72_0
       try clear hcz72_1
       try clear hcz76_0
       try clear hcz76_1
       try clear hcz79_0
       try clear hcz79_1
       try clear hcz84_0
       try clear hcz84_1
       try clear hcz89_0
       try clear hcz89_1
       try clear hcz92_0
       try clear hcz92_1
       try clear hcz96_0
       try clear hcz96_1
       try clear hcz99_0
       try clear hcz99_1
       try clear hfz111_0
       try clear hfz111_1
       try clear hfz111_2
       try clear hfz111_3
       try clear hfz111_4
       try clear hfz113_0
       try clear hfz113_1
       try clear hfz113_2
       try clear hfz113_3
       try clear hfz113_4
       try clear hfz118_0
       try clear hfz118_1
       try clear hfz118_2
       try clear hfz118_3
       try clear hfz118_4
       try clear hfz120_0
       try clear hfz120_1
       try clear hfz120_2
       try clear hfz120_3
       try clear hfz120_4
       try clear hfz125_0
       try clear hfz125_1
       try clear hfz125_2
       try clear hfz125_3
       try clear hfz125_4
       try clear hfz130_0
       try clear hfz130_1
       try clear hfz130_2
       try clear hfz130_3
       try clear hfz130_4
       try clear hfz138_0
       try clear hfz138_1
       try clear hfz138_2
       try clear hfz138_3
       try clear hfz138_4
       try clear hfz143_0
       try clear hfz143_1
       try clear hfz143_2
       try clear hfz143_3
       try clear hfz143_4
       try clear hfz153_0
       try clear hfz153_1
       try clear hfz157_0
       try clear hfz157_1
       try clear hfz157_2
       try clear hfz157_3
       try clear hfz157_4
       try clear hfz64_0
       try clear hfz64_1
       try clear hfz69_0
       try clear hfz69_1
       try clear hfz72_0
       try clear hfz72_1
       try clear hfz76_0
       try clear hfz76_1
       try clear hfz79_0
       try clear hfz79_1
       try clear hfz84_0
       try clear hfz84_1
       try clear hfz89_0
       try clear hfz89_1
       try clear hfz92_0
       try clear hfz92_1
       try clear hfz96_0
       try clear hfz96_1
       try clear hfz99_0
       try clear hfz99_1
       try clear p2
       try clear p6
       try clear p64
       obtain ⟨kq, x174_146, rfl, HA, HJ146, HO_21, BK149, BK155, BK161, BK162, BK173, HB⟩ := hcut
       cases kq with
       | zero => exact absurd HA.out (by simp [pianolalaw03_PunchDays.j4])
       | succ kj146 =>
        have H := HA.out
        clear HA
        simp only [pianolalaw03_PunchDays.j4] at H
        by_cases c161 : x174_146 = true
        ·
         subst c161
         have H1 : (some false) = some r := by rw [if_pos rfl] at H; exact H
         clear H; have H := H1; clear H1
         exact absurd ((Option.some.inj H).trans HRT.out) (by decide)
        ·
         replace c161 := Bool.eq_false_iff.mpr c161
         subst c161
         have H1 : (if t177 = 20 then (if (t174.length : Int) = 0 then ((pianolalaw03_works.f).bind fun t178 => (some t178)) else (some false)) else (if (t174.length : Int) = 0 then (pianolalaw03_PunchDays.j5 kj146 (wrap64 (t150 + (Int.tmod (wrap64 (a3)) (wrap64 ((wrap64 (t151 - t150)) + 1))))) t174 true t150 t151 t152 t153 t154) else (if 0 < (t174.length : Int) then (if ((rd_T47 t174 0).f0) = (wrap64 (a1)) then (if 0 ≤ (wrap64 ((t174.length : Int) - 1)) then (if (wrap64 ((t174.length : Int) - 1)) < (t174.length : Int) then (if ((rd_T47 t174 (wrap64 ((t174.length : Int) - 1))).f1) = (wrap64 ((wrap64 ((wrap64 (a1)) + 1)) + (Int.tmod (wrap64 (a2)) 60))) then ((punch_Holds.f kj146 t150 t151 t152 t153 t154 (wrap64 (a1)) (wrap64 ((wrap64 ((wrap64 (a1)) + 1)) + (Int.tmod (wrap64 (a2)) 60))) t174).bind fun t181 => (pianolalaw03_PunchDays.j5 kj146 (wrap64 (t150 + (Int.tmod (wrap64 (a3)) (wrap64 ((wrap64 (t151 - t150)) + 1))))) t174 (t181 != 0) t150 t151 t152 t153 t154)) else (pianolalaw03_PunchDays.j5 kj146 (wrap64 (t150 + (Int.tmod (wrap64 (a3)) (wrap64 ((wrap64 (t151 - t150)) + 1))))) t174 true t150 t151 t152 t153 t154)) else (none)) else (none)) else (pianolalaw03_PunchDays.j5 kj146 (wrap64 (t150 + (Int.tmod (wrap64 (a3)) (wrap64 ((wrap64 (t151 - t150)) + 1))))) t174 true t150 t151 t152 t153 t154)) else (none)))) = some r := by rw [if_neg (show ¬ (false = true) by decide)] at H; exact H
         clear H; have H := H1; clear H1
         by_cases c162 : t177 = 20
         ·
          rw [if_pos c162] at H
          have c162b0 : (t177 == 20) = true := beq_iff_eq.mpr c162
          have c162b1 : (t177 != 20) = false := bne_eq_false_iff_eq.mpr c162
          clear c162
          by_cases c163 : (t174.length : Int) = 0
          ·
           rw [if_pos c163] at H
           have c163b0 : ((t174.length : Int) == 0) = true := beq_iff_eq.mpr c163
           have c163b1 : ((t174.length : Int) != 0) = false := bne_eq_false_iff_eq.mpr c163
           clear c163
           replace H := Option.bind_eq_some_iff.mp H
           obtain ⟨t178, A1640, H⟩ := H
           replace H : (some t178) = some r := H
           have A164 := zA A1640
           clear A1640
           obtain rfl := Option.some.inj H
           obtain ⟨Ao165, co165, eo165⟩ := Kd.R_slice HO_21.out
           subst eo165
           go_wp2_with (first | (go_at_call 15; (with_reducible refine (pianolalaw03_works.calls  t178 _ A164.out).mono ?_); rintro e w166 ⟨rfl, hb⟩; have n0_ := zA (Kd.R_below (zqC HO_21.out) hb); have n1_ := zA (blk_below (g := gb149) (o := .cells #[.int .u8 a0_0, .int .u8 a0_1, .int .u8 a0_2, .int .u8 a0_3, .int .u8 a0_4] 86 (0, 0)) (zqB BK149.out) hb); have n2_ := zA (blk_below (g := gb155) (o := .cells #[.int .i64 t150, .int .i64 t151, .int .i64 t152, .int .i64 t153, .int .i64 t154] 57 (0, 0)) (zqB BK155.out) hb); have n3_ := zA (blk_below (g := gb161) (o := .cells #[.int .i64 t156, .int .i64 t157] 55 (0, 0)) (zqB BK161.out) hb); have n4_ := zA (blk_below (g := gb162) (o := .cells #[.int .i64 t158, .int .i64 t159] 55 (0, 0)) (zqB BK162.out) hb); have n5_ := zA (blk_below (g := gb173) (o := .cells #[.int .i64 (wrap64 (a1)), .int .i64 (wrap64 ((wrap64 ((wrap64 (a1)) + 1)) + (Int.tmod (wrap64 (a2)) 60)))] 47 (0, 0)) (zqB BK173.out) hb); have n6_ := zA (below_step (by repeat (first | (with_reducible first | exact HB.out | apply below_alloc | apply pw_below_drewN | apply below_drew1 | refine below_set ?_ GE149.out | refine below_set ?_ GE155.out | refine below_set ?_ GE161.out | refine below_set ?_ GE162.out | refine below_set ?_ GE173.out) | exact HB.out)) hb); clear HO_21; clear BK149; clear BK155; clear BK161; clear BK162; clear BK173; clear HB; have HO_21 := n0_; have BK149 := n1_; have BK155 := n2_; have BK161 := n3_; have BK162 := n4_; have BK173 := n5_; have HB := n6_; clear n0_ n1_ n2_ n3_ n4_ n5_ n6_; (try clear hb); (try clear hb2); (try clear hk); (try clear hi)))
           go_ret
           exact ⟨zqR, by repeat (first | (with_reducible first | exact HB.out | apply below_alloc | apply pw_below_drewN | apply below_drew1 | refine below_set ?_ GE149.out | refine below_set ?_ GE155.out | refine below_set ?_ GE161.out | refine below_set ?_ GE162.out | refine below_set ?_ GE173.out) | exact HB.out)⟩
          ·
           rw [if_neg c163] at H
           exact absurd ((Option.some.inj H).trans HRT.out) (by decide)
         ·
          rw [if_neg c162] at H
          have c162b0 : (t177 == 20) = false := beq_eq_false_iff_ne.mpr c162
          have c162b1 : (t177 != 20) = true := bne_iff_ne.mpr c162
          have HC168 := zA H
          clear H
          go_upto_region 24 with (fail)
          go_cut [213] (fun v213 wc => ∃ (kq : Nat) (x213_167 : Bool), v213 = .bool x213_167 ∧ Aside0 (pianolalaw03_PunchDays.j5 kq (wrap64 (t150 + (Int.tmod (wrap64 (a3)) (wrap64 ((wrap64 (t151 - t150)) + 1))))) t174 x213_167 t150 t151 t152 t153 t154 = some r) ∧ Aside0 (kq ≤ kj146) ∧ Aside0 (Kd.R k47 47 wc w.heap.size (fun k_ => k_ ≠ gb173) v175 t174) ∧ Aside0 (wc.heap[gb149]? = some (.cells #[.int .u8 a0_0, .int .u8 a0_1, .int .u8 a0_2, .int .u8 a0_3, .int .u8 a0_4] 86 (0, 0))) ∧ Aside0 (wc.heap[gb155]? = some (.cells #[.int .i64 t150, .int .i64 t151, .int .i64 t152, .int .i64 t153, .int .i64 t154] 57 (0, 0))) ∧ Aside0 (wc.heap[gb161]? = some (.cells #[.int .i64 t156, .int .i64 t157] 55 (0, 0))) ∧ Aside0 (wc.heap[gb162]? = some (.cells #[.int .i64 t158, .int .i64 t159] 55 (0, 0))) ∧ Aside0 (wc.heap[gb173]? = some (.cells #[.int .i64 (wrap64 (a1)), .int .i64 (wrap64 ((wrap64 ((wrap64 (a1)) + 1)) + (Int.tmod (wrap64 (a2)) 60)))] 47 (0, 0))) ∧ Aside0 (Below w.heap.size w wc))
          case first => as_aux_lemma =>
           have H := HC168.out
           clear HC168
           by_cases c169 : (t174.length : Int) = 0
           ·
            rw [if_pos c169] at H
            exact (pianolalaw03_PunchDays.j5_no H HRT.out).elim
           ·
            rw [if_neg c169] at H
            have c169b0 : ((t174.length : Int) == 0) = false := beq_eq_false_iff_ne.mpr c169
            have c169b1 : ((t174.length : Int) != 0) = true := bne_iff_ne.mpr c169
            have c169b2 : ¬ (t174 = []) := fun h_ => c169 (by rw [h_]; rfl)
            (first | rw [c169b0] | (simp only [i64_w, i32_w]; rw [c169b0]) | skip)
            by_cases c172 : 0 < (t174.length : Int)
            ·
             rw [if_pos c172] at H
             have c172b0 : decide (0 < (t174.length : Int)) = true := decide_eq_true c172
             have c172b1 : decide (0 < t174.length) = true := decide_eq_true (by omega)
             clear c172
             by_cases c173 : ((rd_T47 t174 0).f0) = (wrap64 (a1))
             ·
              rw [if_pos c173] at H
              have c173b0 : (((rd_T47 t174 0).f0) == (wrap64 (a1))) = true := beq_iff_eq.mpr c173
              have c173b1 : (((rd_T47 t174 0).f0) != (wrap64 (a1))) = false := bne_eq_false_iff_eq.mpr c173
              clear c173
              obtain ⟨ji174, hji174⟩ : ∃ j_ : Int, (wrap64 ((t174.length : Int) - 1)) = j_ := ⟨_, rfl⟩
              replace H : (if 0 ≤ (ji174) then (if (ji174) < (t174.length : Int) then (if ((rd_T47 t174 (ji174)).f1) = (wrap64 ((wrap64 ((wrap64 (a1)) + 1)) + (Int.tmod (wrap64 (a2)) 60))) then ((punch_Holds.f kj146 t150 t151 t152 t153 t154 (wrap64 (a1)) (wrap64 ((wrap64 ((wrap64 (a1)) + 1)) + (Int.tmod (wrap64 (a2)) 60))) t174).bind fun t181 => (pianolalaw03_PunchDays.j5 kj146 (wrap64 (t150 + (Int.tmod (wrap64 (a3)) (wrap64 ((wrap64 (t151 - t150)) + 1))))) t174 (t181 != 0) t150 t151 t152 t153 t154)) else (pianolalaw03_PunchDays.j5 kj146 (wrap64 (t150 + (Int.tmod (wrap64 (a3)) (wrap64 ((wrap64 (t151 - t150)) + 1))))) t174 true t150 t151 t152 t153 t154)) else (none)) else (none)) = some r := by first | (rw [hji174] at H; exact H) | (simp only [hji174] at H ⊢; exact H)
              have hji174w : (IntKind.i64.wrap ((t174.length : Int) - 1)) = ji174 := (i64_w _).trans hji174
              by_cases c175 : 0 ≤ (ji174)
              ·
               rw [if_pos c175] at H
               have c175b0 : decide (0 ≤ (ji174)) = true := decide_eq_true c175
               clear c175
               by_cases c176 : (ji174) < (t174.length : Int)
               ·
                rw [if_pos c176] at H
                have c176b0 : decide ((ji174) < (t174.length : Int)) = true := decide_eq_true c176
                clear c176
                by_cases c177 : ((rd_T47 t174 (ji174)).f1) = (wrap64 ((wrap64 ((wrap64 (a1)) + 1)) + (Int.tmod (wrap64 (a2)) 60)))
                ·
                 rw [if_pos c177] at H
                 have c177b0 : (((rd_T47 t174 (ji174)).f1) == (wrap64 ((wrap64 ((wrap64 (a1)) + 1)) + (Int.tmod (wrap64 (a2)) 60)))) = true := beq_iff_eq.mpr c177
                 have c177b1 : (((rd_T47 t174 (ji174)).f1) != (wrap64 ((wrap64 ((wrap64 (a1)) + 1)) + (Int.tmod (wrap64 (a2)) 60)))) = false := bne_eq_false_iff_eq.mpr c177
                 clear c177
                 replace H := Option.bind_eq_some_iff.mp H
                 obtain ⟨t181, A1780, H⟩ := H
                 replace H : (pianolalaw03_PunchDays.j5 kj146 (wrap64 (t150 + (Int.tmod (wrap64 (a3)) (wrap64 ((wrap64 (t151 - t150)) + 1))))) t174 (t181 != 0) t150 t151 t152 t153 t154) = some r := H
                 have A178 := zA A1780
                 clear A1780
                 have H' := zA H
                 clear H
                 try go_wp2
                 have n0_ := zA (Kd.R_drew HO_21.out); have n1_ := zA (blk_drew BK149.out); have n2_ := zA (blk_drew BK155.out); have n3_ := zA (blk_drew BK161.out); have n4_ := zA (blk_drew BK162.out); have n5_ := zA (blk_drew BK173.out); have n6_ := zA (below_drew1 HB.out); clear HO_21 BK149 BK155 BK161 BK162 BK173 HB; have HO_21 := n0_; have BK149 := n1_; have BK155 := n2_; have BK161 := n3_; have BK162 := n4_; have BK173 := n5_; have HB := n6_; clear n0_ n1_ n2_ n3_ n4_ n5_ n6_
                 obtain ⟨Ao180, co180, eo180⟩ := Kd.R_slice HO_21.out
                 (first | subst eo180 | (injection eo180 with f1_ f2_ f3_; have f4_ := f1_.symm; have f5_ := f3_.symm; clear f1_ f2_ f3_; subst f4_; subst f5_))
                 have p179 : 0 ≤ (0 : Int) := (by omega)
                 have q179 : 0 < (t174.length : Int) := of_decide_eq_true (zqD)
                 obtain ⟨ad179, e179, hx179_0, hx179_1⟩ := at_T47 (Kd.R_reads' HO_21.out).2.2 0 p179 q179
                 cases e179
                 have qi179 : (0 < t174.length) = True := eq_true (by omega)
                 (try rw [show ((0 : Int)).toNat = 0 from rfl] at hx179_0)
                 (try rw [show 0 * 2 = 0 from rfl] at hx179_0)
                 (try rw [Addr.add_zero'] at hx179_0)
                 (try rw [show ((0 : Int)).toNat = 0 from rfl] at hx179_1)
                 (try rw [show 0 * 2 = 0 from rfl] at hx179_1)
                 (try rw [Addr.add_zero'] at hx179_1)
                 replace p179 := eq_true p179; replace q179 := eq_true q179
                 have p180 : 0 ≤ ((ji174) : Int) := of_decide_eq_true (zqD)
                 have q180 : (ji174) < (t174.length : Int) := of_decide_eq_true (zqD)
                 obtain ⟨ad180, e180, hx180_0, hx180_1⟩ := at_T47 (Kd.R_reads' HO_21.out).2.2 (ji174) p180 q180
                 obtain rfl : ad179 = ad180 := (by injection e180)
                 replace p180 := eq_true p180; replace q180 := eq_true q180
                 refine start_ (n := 31) (S := fun w' => w'.cell? ⟨gb173, 0, none⟩ = some (.int .i64 (wrap64 (a1))) ∧ w'.cell? ⟨gb173, 1, none⟩ = some (.int .i64 (wrap64 ((wrap64 ((wrap64 (a1)) + 1)) + (Int.tmod (wrap64 (a2)) 60)))) ∧ w'.cell? ⟨gb155, 0, none⟩ = some (.int .i64 t150) ∧ w'.cell? ⟨gb155, 1, none⟩ = some (.int .i64 t151) ∧ w'.cell? ⟨gb155, 2, none⟩ = some (.int .i64 t152) ∧ w'.cell? ⟨gb155, 3, none⟩ = some (.int .i64 t153) ∧ w'.cell? ⟨gb155, 4, none⟩ = some (.int .i64 t154) ∧ w'.cell? ad179 = some (.int .i64 ((rd_T47 t174 0).f0)) ∧ w'.cell? ⟨ad179.block, ad179.off + 1, none⟩ = some (.int .i64 ((rd_T47 t174 0).f1)) ∧ w'.cell? (ad179.add (((ji174)).toNat * 2)) = some (.int .i64 ((rd_T47 t174 (ji174)).f0)) ∧ w'.cell? ⟨(ad179.add (((ji174)).toNat * 2)).block, (ad179.add (((ji174)).toNat * 2)).off + 1, none⟩ = some (.int .i64 ((rd_T47 t174 (ji174)).f1))) (ds := []) #[false, false, false, false, false, false, false, false, false, false, false, false, false, false, false, false, false, false, false, false, false, false, false, false, false, false, false, false, false, false, false] (by kernel_rfl) rfl rfl ⟨(blk_cell BK173.out 0).trans rfl, (blk_cell BK173.out 1).trans rfl, (blk_cell BK155.out 0).trans rfl, (blk_cell BK155.out 1).trans rfl, (blk_cell BK155.out 2).trans rfl, (blk_cell BK155.out 3).trans rfl, (blk_cell BK155.out 4).trans rfl, hx179_0, hx179_1, hx180_0, hx180_1⟩ (fun hHeld => ?_); refine with_tabW pianolalaw03_PunchDays.tab24 pianolalaw03_PunchDays.bits24 (fun HT_ HW_ => ?_)
                 generalize wc.drew = w179 at HO_21 BK149 BK155 BK161 BK162 BK173 HB hx179_0 hx179_1 hx180_0 hx180_1 hHeld ⊢
                 refine pure_ (i := 0) (N := some 183) (v := ?_) (a' := ?_) (zb 31 1) rfl rfl (any_of HT_.out (by kernel_rfl)) (fun _ _ _ h => h) (Or.inl ⟨by rfl, ?_⟩) ?_ ?_
                 rotate_left
                 ·
                  intro w'
                  go_simp
                  with_reducible rfl
                 rotate_left
                 · simp only [Act.put, setIfInBounds_toArray, set_cons_zero, set_cons_succ, i64_w, i32_w]; rfl
                 refine pure_ (i := 1) (N := some 184) (v := ?_) (a' := ?_) (zb 31 3) rfl rfl (any_of HT_.out (by kernel_rfl)) (fun _ _ _ h => h) (Or.inl ⟨by rfl, ?_⟩) ?_ ?_
                 rotate_left
                 ·
                  intro w'
                  go_simp
                  with_reducible rfl
                 rotate_left
                 · simp only [Act.put, setIfInBounds_toArray, set_cons_zero, set_cons_succ, i64_w, i32_w]; rfl
                 refine pure_ (i := 2) (N := some 185) (v := ?_) (a' := ?_) (zb 31 7) rfl rfl (any_of HT_.out (by kernel_rfl)) (fun _ _ _ h => h) (Or.inl ⟨by rfl, ?_⟩) ?_ ?_
                 rotate_left
                 ·
                  intro w'
                  go_simp
                  with_reducible rfl
                 rotate_left
                 · simp only [Act.put, setIfInBounds_toArray, set_cons_zero, set_cons_succ, i64_w, i32_w]; rfl
                 refine pure_ (i := 3) (N := some 186) (v := ?_) (a' := ?_) (zb 31 15) rfl rfl (any_of HT_.out (by kernel_rfl)) (fun _ _ _ h => h) (Or.inl ⟨by rfl, ?_⟩) ?_ ?_
                 rotate_left
                 ·
                  intro w'
                  go_simp
                  with_reducible rfl
                 rotate_left
                 · simp only [Act.put, setIfInBounds_toArray, set_cons_zero, set_cons_succ, i64_w, i32_w]; rfl
                 refine pure_ (i := 4) (N := some 187) (v := ?_) (a' := ?_) (zb 31 31) rfl rfl (any_of HT_.out (by kernel_rfl)) (fun _ _ _ h => h) (Or.inl ⟨by rfl, ?_⟩) ?_ ?_
                 rotate_left
                 ·
                  intro w'
                  go_simp
                  with_reducible rfl
                 rotate_left
                 · simp only [Act.put, setIfInBounds_toArray, set_cons_zero, set_cons_succ, i64_w, i32_w]; rfl
                 refine pure_ (i := 5) (N := some 188) (v := ?_) (a' := ?_) (zb 31 63) rfl rfl (any_of HT_.out (by kernel_rfl)) (fun _ _ _ h => h) (Or.inl ⟨by rfl, ?_⟩) ?_ ?_
                 rotate_left
                 ·
                  intro w'
                  go_simp
                  with_reducible rfl
                 rotate_left
                 · simp only [Act.put, setIfInBounds_toArray, set_cons_zero, set_cons_succ, i64_w, i32_w]; rfl
                 refine pure_ (i := 6) (N := some 189) (v := ?_) (a' := ?_) (zb 31 127) rfl rfl (any_of HT_.out (by kernel_rfl)) (fun _ _ _ h => h) (Or.inl ⟨by rfl, ?_⟩) ?_ ?_
                 rotate_left
                 ·
                  intro w'
                  go_simp
                  with_reducible rfl
                 rotate_left
                 · simp only [Act.put, setIfInBounds_toArray, set_cons_zero, set_cons_succ, i64_w, i32_w]; rfl
                 refine pure_ (i := 8) (N := some 191) (v := ?_) (a' := ?_) (zb 31 383) rfl rfl (any_of HT_.out (by kernel_rfl)) (fun _ _ _ h => h) (Or.inl ⟨by rfl, ?_⟩) ?_ ?_
                 rotate_left
                 ·
                  intro w'
                  go_simp
                  with_reducible rfl
                 rotate_left
                 · simp only [Act.put, setIfInBounds_toArray, set_cons_zero, set_cons_succ, i64_w, i32_w]; rfl
                 refine take_ (i := 7) (N := some 190) (v := ?_) (a' := ?_) (zb 31 511) rfl rfl (take_ofW HT_.out HW_.out (by kernel_rfl)) (fun _ _ _ h => h) (Or.inl ⟨by rfl, ?_⟩) hHeld ?_ ?_
                 rotate_left
                 ·
                  rintro w' ⟨s0, s1, s2, s3, s4, s5, s6, s7, s8, s9, s10⟩
                  go_simp
                  with_reducible rfl
                 rotate_left
                 · simp only [Act.put, setIfInBounds_toArray, set_cons_zero, set_cons_succ, i64_w, i32_w]; rfl
                 refine take_ (i := 9) (N := some 192) (v := ?_) (a' := ?_) (zb 31 1023) rfl rfl (take_ofW HT_.out HW_.out (by kernel_rfl)) (fun _ _ _ h => h) (Or.inl ⟨by rfl, ?_⟩) hHeld ?_ ?_
                 rotate_left
                 ·
                  rintro w' ⟨s0, s1, s2, s3, s4, s5, s6, s7, s8, s9, s10⟩
                  go_simp
                  with_reducible rfl
                 rotate_left
                 · simp only [Act.put, setIfInBounds_toArray, set_cons_zero, set_cons_succ, i64_w, i32_w]; rfl
                 refine pure_ (i := 10) (N := some 193) (v := ?_) (a' := ?_) (zb 31 2047) rfl rfl (any_of HT_.out (by kernel_rfl)) (fun _ _ _ h => h) (Or.inl ⟨by rfl, ?_⟩) ?_ ?_
                 rotate_left
                 ·
                  intro w'
                  go_simp
                  with_reducible rfl
                 rotate_left
                 · simp only [Act.put, setIfInBounds_toArray, set_cons_zero, set_cons_succ, i64_w, i32_w]; rfl
                 refine pure_ (i := 11) (N := some 194) (v := ?_) (a' := ?_) (zb 31 4095) rfl rfl (any_of HT_.out (by kernel_rfl)) (fun _ _ _ h => h) (Or.inl ⟨by rfl, ?_⟩) ?_ ?_
                 rotate_left
                 ·
                  intro w'
                  go_simp
                  with_reducible rfl
                 rotate_left
                 · simp only [Act.put, setIfInBounds_toArray, set_cons_zero, set_cons_succ, i64_w, i32_w]; rfl
                 refine pure_ (i := 12) (N := some 195) (v := ?_) (a' := ?_) (zb 31 8191) rfl rfl (any_of HT_.out (by kernel_rfl)) (fun _ _ _ h => h) (Or.inl ⟨by rfl, ?_⟩) ?_ ?_
                 rotate_left
                 ·
                  intro w'
                  go_simp
                  with_reducible rfl
                 rotate_left
                 · simp only [Act.put, setIfInBounds_toArray, set_cons_zero, set_cons_succ, i64_w, i32_w]; rfl
                 refine pure_ (i := 13) (N := some 196) (v := ?_) (a' := ?_) (zb 31 16383) rfl rfl (any_of HT_.out (by kernel_rfl)) (fun _ _ _ h => h) (Or.inl ⟨by rfl, ?_⟩) ?_ ?_
                 rotate_left
                 ·
                  intro w'
                  go_simp
                  with_reducible rfl
                 rotate_left
                 · simp only [Act.put, setIfInBounds_toArray, set_cons_zero, set_cons_succ, i64_w, i32_w]; rfl
                 refine pure_ (i := 14) (N := some 197) (v := ?_) (a' := ?_) (zb 31 32767) rfl rfl (any_of HT_.out (by kernel_rfl)) (fun _ _ _ h => h) (Or.inl ⟨by rfl, ?_⟩) ?_ ?_
                 rotate_left
                 ·
                  intro w'
                  go_simp
                  with_reducible rfl
                 rotate_left
                 · simp only [Act.put, setIfInBounds_toArray, set_cons_zero, set_cons_succ, i64_w, i32_w]; rfl
                 refine pure_ (i := 15) (N := some 198) (v := ?_) (a' := ?_) (zb 31 65535) rfl rfl (any_of HT_.out (by kernel_rfl)) (fun _ _ _ h => h) (Or.inl ⟨by rfl, ?_⟩) ?_ ?_
                 rotate_left
                 ·
                  intro w'
                  go_simp
                  with_reducible rfl
                 rotate_left
                 · simp only [Act.put, setIfInBounds_toArray, set_cons_zero, set_cons_succ, i64_w, i32_w]; rfl
                 refine pure_ (i := 16) (N := some 199) (v := ?_) (a' := ?_) (zb 31 131071) rfl rfl (any_of HT_.out (by kernel_rfl)) (fun _ _ _ h => h) (Or.inl ⟨by rfl, ?_⟩) ?_ ?_
                 rotate_left
                 ·
                  intro w'
                  go_simp
                  with_reducible rfl
                 rotate_left
                 · simp only [Act.put, setIfInBounds_toArray, set_cons_zero, set_cons_succ, i64_w, i32_w]; rfl
                 refine pure_ (i := 17) (N := some 200) (v := ?_) (a' := ?_) (zb 31 262143) rfl rfl (any_of HT_.out (by kernel_rfl)) (fun _ _ _ h => h) (Or.inl ⟨by rfl, ?_⟩) ?_ ?_
                 rotate_left
                 ·
                  intro w'
                  go_simp
                  with_reducible rfl
                 rotate_left
                 · simp only [Act.put, setIfInBounds_toArray, set_cons_zero, set_cons_succ, i64_w, i32_w]; rfl
                 refine pure_ (i := 18) (N := some 201) (v := ?_) (a' := ?_) (zb 31 524287) rfl rfl (any_of HT_.out (by kernel_rfl)) (fun _ _ _ h => h) (Or.inl ⟨by rfl, ?_⟩) ?_ ?_
                 rotate_left
                 ·
                  intro w'
                  go_simp
                  with_reducible rfl
                 rotate_left
                 · simp only [Act.put, setIfInBounds_toArray, set_cons_zero, set_cons_succ, i64_w, i32_w]; rfl
                 refine pure_ (i := 20) (N := some 203) (v := ?_) (a' := ?_) (zb 31 1572863) rfl rfl (any_of HT_.out (by kernel_rfl)) (fun _ _ _ h => h) (Or.inl ⟨by rfl, ?_⟩) ?_ ?_
                 rotate_left
                 ·
                  intro w'
                  go_simp
                  with_reducible rfl
                 rotate_left
                 · simp only [Act.put, setIfInBounds_toArray, set_cons_zero, set_cons_succ, i64_w, i32_w]; rfl
                 refine take_ (i := 19) (N := some 202) (v := ?_) (a' := ?_) (zb 31 2097151) rfl rfl (take_ofW HT_.out HW_.out (by kernel_rfl)) (fun _ _ _ h => h) (Or.inl ⟨by rfl, ?_⟩) hHeld ?_ ?_
                 rotate_left
                 ·
                  rintro w' ⟨s0, s1, s2, s3, s4, s5, s6, s7, s8, s9, s10⟩
                  go_simp
                  with_reducible rfl
                 rotate_left
                 · simp only [Act.put, setIfInBounds_toArray, set_cons_zero, set_cons_succ, i64_w, i32_w]; rfl
                 refine take_ (i := 21) (N := some 204) (v := ?_) (a' := ?_) (zb 31 4194303) rfl rfl (take_ofW HT_.out HW_.out (by kernel_rfl)) (fun _ _ _ h => h) (Or.inl ⟨by rfl, ?_⟩) hHeld ?_ ?_
                 rotate_left
                 ·
                  rintro w' ⟨s0, s1, s2, s3, s4, s5, s6, s7, s8, s9, s10⟩
                  go_simp
                  with_reducible rfl
                 rotate_left
                 · simp only [Act.put, setIfInBounds_toArray, set_cons_zero, set_cons_succ, i64_w, i32_w]; rfl
                 refine pure_ (i := 22) (N := some 205) (v := ?_) (a' := ?_) (zb 31 8388607) rfl rfl (any_of HT_.out (by kernel_rfl)) (fun _ _ _ h => h) (Or.inl ⟨by rfl, ?_⟩) ?_ ?_
                 rotate_left
                 ·
                  intro w'
                  go_simp
                  with_reducible rfl
                 rotate_left
                 · simp only [Act.put, setIfInBounds_toArray, set_cons_zero, set_cons_succ, i64_w, i32_w]; rfl
                 refine pure_ (i := 23) (N := some 206) (v := ?_) (a' := ?_) (zb 31 16777215) rfl rfl (any_of HT_.out (by kernel_rfl)) (fun _ _ _ h => h) (Or.inl ⟨by rfl, ?_⟩) ?_ ?_
                 rotate_left
                 ·
                  intro w'
                  go_simp
                  with_reducible rfl
                 rotate_left
                 · simp only [Act.put, setIfInBounds_toArray, set_cons_zero, set_cons_succ, i64_w, i32_w]; rfl
                 refine pure_ (i := 24) (N := some 207) (v := ?_) (a' := ?_) (zb 31 33554431) rfl rfl (any_of HT_.out (by kernel_rfl)) (fun _ _ _ h => h) (Or.inl ⟨by rfl, ?_⟩) ?_ ?_
                 rotate_left
                 ·
                  intro w'
                  go_simp
                  with_reducible rfl
                 rotate_left
                 · simp only [Act.put, setIfInBounds_toArray, set_cons_zero, set_cons_succ, i64_w, i32_w]; rfl
                 refine pure_ (i := 27) (N := some 210) (v := ?_) (a' := ?_) (zb 31 167772159) rfl rfl (any_of HT_.out (by kernel_rfl)) (fun _ _ _ h => h) (Or.inl ⟨by rfl, ?_⟩) ?_ ?_
                 rotate_left
                 ·
                  intro w'
                  go_simp
                  with_reducible rfl
                 rotate_left
                 · simp only [Act.put, setIfInBounds_toArray, set_cons_zero, set_cons_succ, i64_w, i32_w]; rfl
                 refine take_ (i := 25) (N := some 208) (v := ?_) (a' := ?_) (zb 31 201326591) rfl rfl (take_ofW HT_.out HW_.out (by kernel_rfl)) (fun _ _ _ h => h) (Or.inl ⟨by rfl, ?_⟩) hHeld ?_ ?_
                 rotate_left
                 ·
                  rintro w' ⟨s0, s1, s2, s3, s4, s5, s6, s7, s8, s9, s10⟩
                  go_simp
                  with_reducible rfl
                 rotate_left
                 · simp only [Act.put, setIfInBounds_toArray, set_cons_zero, set_cons_succ, i64_w, i32_w]; rfl
                 refine take_ (i := 26) (N := some 209) (v := ?_) (a' := ?_) (zb 31 268435455) rfl rfl (take_ofW HT_.out HW_.out (by kernel_rfl)) (fun _ _ _ h => h) (Or.inl ⟨by rfl, ?_⟩) hHeld ?_ ?_
                 rotate_left
                 ·
                  rintro w' ⟨s0, s1, s2, s3, s4, s5, s6, s7, s8, s9, s10⟩
                  go_simp
                  with_reducible rfl
                 rotate_left
                 · simp only [Act.put, setIfInBounds_toArray, set_cons_zero, set_cons_succ, i64_w, i32_w]; rfl
                 refine one_ (i := 28) (N := some 211) (zb 31 536870911) rfl rfl (one_of HT_.out (by kernel_rfl)) (by decide) (fun K hK => ?_)
                 refine goes_ Try.func35 (by kernel_rfl) rfl #[.agg #[.int .i64 t150, .int .i64 t151, .int .i64 t152, .int .i64 t153, .int .i64 t154], .agg #[.int .i64 (wrap64 (a1)), .int .i64 (wrap64 ((wrap64 ((wrap64 (a1)) + 1)) + (Int.tmod (wrap64 (a2)) 60)))], .slice (some ad179) t174.length co180] (by rfl) rfl rfl zqE ?_
                 with_reducible refine (punch_Holds.calls kj146 t150 t151 t152 t153 t154 (wrap64 (a1)) (wrap64 ((wrap64 ((wrap64 (a1)) + 1)) + (Int.tmod (wrap64 (a2)) 60))) _ _ t174 t181 _ ?side1 ?side2 A178.out).mono ?_
                 (case side1 => exact zqK (Kd.R_reads' HO_21.out).2.2)
                 (case side2 => exact (Kd.R_reads' HO_21.out).2.1)
                 rintro e w181 ⟨rfl, hb⟩
                 have HS7_ := (hb.cell (World.block_lt_of_cell? _ _ (hHeld.2.2.2.2.2.2.2.1))).trans (hHeld.2.2.2.2.2.2.2.1)
                 have HS8_ := (hb.cell (World.block_lt_of_cell? _ _ (hHeld.2.2.2.2.2.2.2.2.1))).trans (hHeld.2.2.2.2.2.2.2.2.1)
                 have HS9_ := (hb.cell (World.block_lt_of_cell? _ _ (hHeld.2.2.2.2.2.2.2.2.2.1))).trans (hHeld.2.2.2.2.2.2.2.2.2.1)
                 have HS10_ := (hb.cell (World.block_lt_of_cell? _ _ (hHeld.2.2.2.2.2.2.2.2.2.2))).trans (hHeld.2.2.2.2.2.2.2.2.2.2)
                 refine ⟨_, rfl, ?_⟩
                 have n0_ := zA (Kd.R_below (zqC HO_21.out) hb); have n1_ := zA (blk_below (g := gb149) (o := .cells #[.int .u8 a0_0, .int .u8 a0_1, .int .u8 a0_2, .int .u8 a0_3, .int .u8 a0_4] 86 (0, 0)) (zqB BK149.out) hb); have n2_ := zA (blk_below (g := gb155) (o := .cells #[.int .i64 t150, .int .i64 t151, .int .i64 t152, .int .i64 t153, .int .i64 t154] 57 (0, 0)) (zqB BK155.out) hb); have n3_ := zA (blk_below (g := gb161) (o := .cells #[.int .i64 t156, .int .i64 t157] 55 (0, 0)) (zqB BK161.out) hb); have n4_ := zA (blk_below (g := gb162) (o := .cells #[.int .i64 t158, .int .i64 t159] 55 (0, 0)) (zqB BK162.out) hb); have n5_ := zA (blk_below (g := gb173) (o := .cells #[.int .i64 (wrap64 (a1)), .int .i64 (wrap64 ((wrap64 ((wrap64 (a1)) + 1)) + (Int.tmod (wrap64 (a2)) 60)))] 47 (0, 0)) (zqB BK173.out) hb)
                 have n6_ := zA (below_step (by repeat (first | (with_reducible first | exact HB.out | apply below_alloc | apply pw_below_drewN | apply below_drew1 | refine below_set ?_ GE149.out | refine below_set ?_ GE155.out | refine below_set ?_ GE161.out | refine below_set ?_ GE162.out | refine below_set ?_ GE173.out) | exact HB.out)) hb)
                 clear HO_21 BK149 BK155 BK161 BK162 BK173 HB; have HO_21 := n0_; have BK149 := n1_; have BK155 := n2_; have BK161 := n3_; have BK162 := n4_; have BK173 := n5_; have HB := n6_; clear n0_ n1_ n2_ n3_ n4_ n5_ n6_
                 (try clear hb); (try clear hb2); (try clear hk); (try clear hi)
                 refine hK.out _ _ ⟨(blk_cell BK173.out 0).trans rfl, (blk_cell BK173.out 1).trans rfl, (blk_cell BK155.out 0).trans rfl, (blk_cell BK155.out 1).trans rfl, (blk_cell BK155.out 2).trans rfl, (blk_cell BK155.out 3).trans rfl, (blk_cell BK155.out 4).trans rfl, HS7_, HS8_, HS9_, HS10_⟩ (fun hHeld => ?_)
                 clear hK K; refine norm_ (a' := ?_) ?_ ?_; rotate_left
                 · show Act.put _ (some 211) _ = _; simp only [Act.put, setIfInBounds_toArray, set_cons_zero, set_cons_succ, i64_w, i32_w]; rfl
                 refine pure_ (i := 29) (N := some 212) (v := ?_) (a' := ?_) (zb 31 1073741823) rfl rfl (any_of HT_.out (by kernel_rfl)) (fun _ _ _ h => h) (Or.inl ⟨by rfl, ?_⟩) ?_ ?_
                 rotate_left
                 ·
                  intro w'
                  go_simp
                  with_reducible rfl
                 rotate_left
                 · simp only [Act.put, setIfInBounds_toArray, set_cons_zero, set_cons_succ, i64_w, i32_w]; rfl
                 refine pure_ (i := 30) (N := some 213) (v := ?_) (a' := ?_) (zb 31 2147483647) rfl rfl (any_of HT_.out (by kernel_rfl)) (fun _ _ _ h => h) (Or.inl ⟨by rfl, ?_⟩) ?_ ?_
                 rotate_left
                 ·
                  intro w'
                  go_simp
                  with_reducible rfl
                 rotate_left
                 · simp only [Act.put, setIfInBounds_toArray, set_cons_zero, set_cons_succ, i64_w, i32_w]; rfl
                 refine done_ (done_of HT_.out (by kernel_rfl)) ?_
                 try go_wp2
                 go_meet
                 case rel => exact ⟨_, ((t181 != 0)), zqQ, H', ⟨by have := HK1.out; have := HJ146.out; first | omega | exact Nat.le_refl _⟩, ⟨zqC HO_21.out⟩, ⟨zqB BK149.out⟩, ⟨zqB BK155.out⟩, ⟨zqB BK161.out⟩, ⟨zqB BK162.out⟩, ⟨zqB BK173.out⟩, ⟨by repeat (first | (with_reducible first | exact HB.out | apply below_alloc | apply pw_below_drewN | apply below_drew1 | refine below_set ?_ GE149.out | refine below_set ?_ GE155.out | refine below_set ?_ GE161.out | refine below_set ?_ GE162.out | refine below_set ?_ GE173.out) | exact HB.out)⟩⟩
                ·
                 rw [if_neg c177] at H
                 exact (pianolalaw03_PunchDays.j5_no H HRT.out).elim
               ·
                rw [if_neg c176] at H
                exact absurd H (by simp)
              ·
               rw [if_neg c175] at H
               exact absurd H (by simp)
             ·
              rw [if_neg c173] at H
              exact (pianolalaw03_PunchDays.j5_no H HRT.out).elim
            ·
             rw [if_neg c172] at H
             exact absurd H (by simp)
          case rest => as_aux_lemma =>
           clear HC168
           try clear c1
           try clear p1
           try clear q1
           try clear hx1
           try clear qi1
           try clear p2
           try clear c3
           try clear p6
           try clear c17
           try clear p17
           try clear q17
           try clear hx17
           try clear qi17
           try clear p18
           try clear q18
           try clear hx18
           try clear c35
           try clear p64
           try clear c172
           try clear c173
           try clear c173b0
           try clear c173b1
           try clear c175
           try clear c176
           try clear c177
           try clear c177b0
           try clear c177b1
           try clear p179
           try clear q179
           try clear hx179
           try clear qi179
           try clear p180
           try clear q180
           try clear hx180
           try clear hx179_0
           try clear hx179_1
           try clear hx180_0
           try clear hx180_1
           try clear p179
           try clear p180
           try clear q179
           try clear q180
           obtain ⟨kq, x213_167, rfl, HA, HJ167, HO_21, BK149, BK155, BK161, BK162, BK173, HB⟩ := hcut
           cases kq with
           | zero => exact absurd HA.out (by simp [pianolalaw03_PunchDays.j5])
           | succ kj167 =>
            have H := HA.out
            clear HA
            simp only [pianolalaw03_PunchDays.j5] at H
            by_cases c186 : x213_167 = true
            ·
             subst c186
             have H1 : (some false) = some r := by rw [if_pos rfl] at H; exact H
             clear H; have H := H1; clear H1
             exact absurd ((Option.some.inj H).trans HRT.out) (by decide)
            ·
             replace c186 := Bool.eq_false_iff.mpr c186
             subst c186
             have H1 : (pianolalaw03_PunchDays.l1 kj167 (wrap64 (t150 + (Int.tmod (wrap64 (a3)) (wrap64 ((wrap64 (t151 - t150)) + 1))))) t174 t174 (t174.length : Int) 0 t150 t151 t152 t153 t154) = some r := by rw [if_neg (show ¬ (false = true) by decide)] at H; exact H
             clear H; have H := H1; clear H1
             have H' := zA H
             clear H
             obtain ⟨Ao187, co187, eo187⟩ := Kd.R_slice HO_21.out
             subst eo187
             go_wp2
             go_loopg [216] kj167 (fun kq v216 w' => ∃ (x216_4 : Int), v216 = .int .i64 x216_4 ∧ Aside0 (pianolalaw03_PunchDays.l1 kq (wrap64 (t150 + (Int.tmod (wrap64 (a3)) (wrap64 ((wrap64 (t151 - t150)) + 1))))) t174 t174 (t174.length : Int) x216_4 t150 t151 t152 t153 t154 = some r) ∧ Aside0 (kq ≤ kj167) ∧ Aside0 (Kd.R k47 47 w' w.heap.size (fun k_ => k_ ≠ gb173) (.slice Ao187 t174.length co187) t174) ∧ Aside0 (Kd.R k47 47 w' w.heap.size (fun k_ => k_ ≠ gb173) (.slice Ao187 t174.length co187) t174) ∧ Aside0 (w'.heap[gb149]? = some (.cells #[.int .u8 a0_0, .int .u8 a0_1, .int .u8 a0_2, .int .u8 a0_3, .int .u8 a0_4] 86 (0, 0))) ∧ Aside0 (w'.heap[gb155]? = some (.cells #[.int .i64 t150, .int .i64 t151, .int .i64 t152, .int .i64 t153, .int .i64 t154] 57 (0, 0))) ∧ Aside0 (w'.heap[gb161]? = some (.cells #[.int .i64 t156, .int .i64 t157] 55 (0, 0))) ∧ Aside0 (w'.heap[gb162]? = some (.cells #[.int .i64 t158, .int .i64 t159] 55 (0, 0))) ∧ Aside0 (w'.heap[gb173]? = some (.cells #[.int .i64 (wrap64 (a1)), .int .i64 (wrap64 ((wrap64 ((wrap64 (a1)) + 1)) + (Int.tmod (wrap64 (a2)) 60)))] 47 (0, 0))) ∧ Aside0 (Below w.heap.size w w'))
             case atStart => exact ⟨(0), zqQ, H', ⟨Nat.le_refl _⟩, ⟨zqC HO_21.out⟩, ⟨zqC HO_21.out⟩, ⟨zqB BK149.out⟩, ⟨zqB BK155.out⟩, ⟨zqB BK161.out⟩, ⟨zqB BK162.out⟩, ⟨zqB BK173.out⟩, ⟨by repeat (first | (with_reducible first | exact HB.out | apply below_alloc | apply pw_below_drewN | apply below_drew1 | refine below_set ?_ GE149.out | refine below_set ?_ GE155.out | refine below_set ?_ GE161.out | refine below_set ?_ GE162.out | refine below_set ?_ GE173.out) | exact HB.out)⟩⟩
             case round => as_aux_lemma =>
              clear H'
              try clear c1
              try clear p1
              try clear q1
              try clear hx1
              try clear qi1
              try clear p2
              try clear c3
              try clear p6
              try clear c17
              try clear p17
              try clear q17
              try clear hx17
              try clear qi17
              try clear c18
              try clear p18
              try clear q18
              try clear hx18
              try clear c35
              try clear p64
              try clear c172
              try clear c173
              try clear c173b0
              try clear c173b1
              try clear c175
              try clear c176
              try clear c177
              try clear c177b0
              try clear c177b1
              try clear p179
              try clear q179
              try clear hx179
              try clear qi179
              try clear p180
              try clear q180
              try clear hx180
              try clear c186
              try clear hx179_0
              try clear hx179_1
              try clear hx180_0
              try clear hx180_1
              try clear p1
              try clear p17
              try clear p179
              try clear p18
              try clear p180
              try clear p2
              try clear p6
              try clear p64
              try clear q1
              try clear q17
              try clear q179
              try clear q18
              try clear q180
              obtain ⟨x216_4, rfl, HA, HK4, HO_21, HO_214, BK149, BK155, BK161, BK162, BK173, HB⟩ := hrel
              cases gk with
              | zero => exact absurd HA.out (by simp [pianolalaw03_PunchDays.l1])
              | succ k4 =>
               have H := HA.out
               clear HA
               simp only [pianolalaw03_PunchDays.l1] at H
               by_cases c188 : x216_4 < (t174.length : Int)
               ·
                rw [if_pos c188] at H
                have c188b0 : decide (x216_4 < (t174.length : Int)) = true := decide_eq_true c188
                clear c188
                by_cases c189 : 0 ≤ x216_4
                ·
                 rw [if_pos c189] at H
                 have c189b0 : decide (0 ≤ x216_4) = true := decide_eq_true c189
                 clear c189
                 by_cases c190 : x216_4 < (t174.length : Int)
                 ·
                  rw [if_pos c190] at H
                  have c190b0 : decide (x216_4 < (t174.length : Int)) = true := decide_eq_true c190
                  clear c190
                  replace H := Option.bind_eq_some_iff.mp H
                  obtain ⟨t185, A1910, H⟩ := H
                  replace H : (if t185 = true then (if x216_4 > 0 then (if 0 ≤ (wrap64 (x216_4 - 1)) then (if (wrap64 (x216_4 - 1)) < (t174.length : Int) then ((days_bridge.f (wrap64 (((rd_T47 t174 x216_4).f0) - ((rd_T47 t174 (wrap64 (x216_4 - 1))).f1))) (wrap64 (t150 + (Int.tmod (wrap64 (a3)) (wrap64 ((wrap64 (t151 - t150)) + 1))))) t150 t151 t152 t153 t154).bind fun t187 => (if t187 = true then (pianolalaw03_PunchDays.l1 k4 (wrap64 (t150 + (Int.tmod (wrap64 (a3)) (wrap64 ((wrap64 (t151 - t150)) + 1))))) t174 t174 (t174.length : Int) (wrap64 (x216_4 + 1)) t150 t151 t152 t153 t154) else (some false))) else (none)) else (none)) else (pianolalaw03_PunchDays.l1 k4 (wrap64 (t150 + (Int.tmod (wrap64 (a3)) (wrap64 ((wrap64 (t151 - t150)) + 1))))) t174 t174 (t174.length : Int) (wrap64 (x216_4 + 1)) t150 t151 t152 t153 t154)) else (some false)) = some r := H
                  have A191 := zA A1910
                  clear A1910
                  by_cases c192 : t185 = true
                  ·
                   subst c192
                   have H1 : (if x216_4 > 0 then (if 0 ≤ (wrap64 (x216_4 - 1)) then (if (wrap64 (x216_4 - 1)) < (t174.length : Int) then ((days_bridge.f (wrap64 (((rd_T47 t174 x216_4).f0) - ((rd_T47 t174 (wrap64 (x216_4 - 1))).f1))) (wrap64 (t150 + (Int.tmod (wrap64 (a3)) (wrap64 ((wrap64 (t151 - t150)) + 1))))) t150 t151 t152 t153 t154).bind fun t187 => (if t187 = true then (pianolalaw03_PunchDays.l1 k4 (wrap64 (t150 + (Int.tmod (wrap64 (a3)) (wrap64 ((wrap64 (t151 - t150)) + 1))))) t174 t174 (t174.length : Int) (wrap64 (x216_4 + 1)) t150 t151 t152 t153 t154) else (some false))) else (none)) else (none)) else (pianolalaw03_PunchDays.l1 k4 (wrap64 (t150 + (Int.tmod (wrap64 (a3)) (wrap64 ((wrap64 (t151 - t150)) + 1))))) t174 t174 (t174.length : Int) (wrap64 (x216_4 + 1)) t150 t151 t152 t153 t154)) = some r := by rw [if_pos rfl] at H; exact H
                   clear H; have H := H1; clear H1
                   by_cases c193 : x216_4 > 0
                   ·
                    rw [if_pos c193] at H
                    have c193b0 : decide (0 < x216_4) = true := decide_eq_true c193
                    clear c193
                    obtain ⟨ji194, hji194⟩ : ∃ j_ : Int, (wrap64 (x216_4 - 1)) = j_ := ⟨_, rfl⟩
                    replace H : (if 0 ≤ (ji194) then (if (ji194) < (t174.length : Int) then ((days_bridge.f (wrap64 (((rd_T47 t174 x216_4).f0) - ((rd_T47 t174 (ji194)).f1))) (wrap64 (t150 + (Int.tmod (wrap64 (a3)) (wrap64 ((wrap64 (t151 - t150)) + 1))))) t150 t151 t152 t153 t154).bind fun t187 => (if t187 = true then (pianolalaw03_PunchDays.l1 k4 (wrap64 (t150 + (Int.tmod (wrap64 (a3)) (wrap64 ((wrap64 (t151 - t150)) + 1))))) t174 t174 (t174.length : Int) (wrap64 (x216_4 + 1)) t150 t151 t152 t153 t154) else (some false))) else (none)) else (none)) = some r := by first | (rw [hji194] at H; exact H) | (simp only [hji194] at H ⊢; exact H)
                    (try rw [hji194] at A191)
                    have hji194w : (IntKind.i64.wrap (x216_4 - 1)) = ji194 := (i64_w _).trans hji194
                    by_cases c195 : 0 ≤ (ji194)
                    ·
                     rw [if_pos c195] at H
                     have c195b0 : decide (0 ≤ (ji194)) = true := decide_eq_true c195
                     clear c195
                     by_cases c196 : (ji194) < (t174.length : Int)
                     ·
                      rw [if_pos c196] at H
                      have c196b0 : decide ((ji194) < (t174.length : Int)) = true := decide_eq_true c196
                      clear c196
                      replace H := Option.bind_eq_some_iff.mp H
                      obtain ⟨t187, A1970, H⟩ := H
                      replace H : (if t187 = true then (pianolalaw03_PunchDays.l1 k4 (wrap64 (t150 + (Int.tmod (wrap64 (a3)) (wrap64 ((wrap64 (t151 - t150)) + 1))))) t174 t174 (t174.length : Int) (wrap64 (x216_4 + 1)) t150 t151 t152 t153 t154) else (some false)) = some r := H
                      have A197 := zA A1970
                      clear A1970
                      by_cases c198 : t187 = true
                      ·
                       subst c198
                       have H1 : (pianolalaw03_PunchDays.l1 k4 (wrap64 (t150 + (Int.tmod (wrap64 (a3)) (wrap64 ((wrap64 (t151 - t150)) + 1))))) t174 t174 (t174.length : Int) (wrap64 (x216_4 + 1)) t150 t151 t152 t153 t154) = some r := by rw [if_pos rfl] at H; exact H
                       clear H; have H := H1; clear H1
                       have H' := zA H
                       clear H
                       have p183 : 0 ≤ (x216_4 : Int) := of_decide_eq_true (zqD)
                       have q183 : x216_4 < (t174.length : Int) := of_decide_eq_true (zqD)
                       obtain ⟨ad183, e183, hx183_0, hx183_1⟩ := at_T47 (Kd.R_reads' HO_214.out).2.2 x216_4 p183 q183
                       cases e183; replace p183 := eq_true p183; replace q183 := eq_true q183
                       try go_wp2_with (first | ((with_reducible refine gate_dst (N := 24) rfl ?_); (try (refine gate_guard (by rfl) ?_; dsimp only)); refine box_event ?hg (N := 24) ?hd (cs := #[.int .i64 0, .int .i64 0]) (t := 47) ?hr ?_; (case hd => rfl); (case hg => rfl); (case hr => first | (go_simp; done) | (go_simp; rfl)); intro gb184 hg w199 hbox hb; have n0_ := zA (Kd.R_below (Kd.R_elderB (zqC HO_21.out) gb184 (Nat.le_of_eq hg.symm)) hb); have n1_ := zA (Kd.R_below (Kd.R_elderB (zqC HO_214.out) gb184 (Nat.le_of_eq hg.symm)) hb); have n2_ := zA (blk_below (g := gb149) (o := .cells #[.int .u8 a0_0, .int .u8 a0_1, .int .u8 a0_2, .int .u8 a0_3, .int .u8 a0_4] 86 (0, 0)) (zqB BK149.out) hb); have n3_ := zA (blk_below (g := gb155) (o := .cells #[.int .i64 t150, .int .i64 t151, .int .i64 t152, .int .i64 t153, .int .i64 t154] 57 (0, 0)) (zqB BK155.out) hb); have n4_ := zA (blk_below (g := gb161) (o := .cells #[.int .i64 t156, .int .i64 t157] 55 (0, 0)) (zqB BK161.out) hb); have n5_ := zA (blk_below (g := gb162) (o := .cells #[.int .i64 t158, .int .i64 t159] 55 (0, 0)) (zqB BK162.out) hb); have n6_ := zA (blk_below (g := gb173) (o := .cells #[.int .i64 (wrap64 (a1)), .int .i64 (wrap64 ((wrap64 ((wrap64 (a1)) + 1)) + (Int.tmod (wrap64 (a2)) 60)))] 47 (0, 0)) (zqB BK173.out) hb); have n7_ := zA (below_step (by repeat (first | (with_reducible first | exact HB.out | apply below_alloc | apply pw_below_drewN | apply below_drew1 | refine below_set ?_ GE149.out | refine below_set ?_ GE155.out | refine below_set ?_ GE161.out | refine below_set ?_ GE162.out | refine below_set ?_ GE173.out) | exact HB.out)) hb); have n8_ := zA (hbox); have n9_ := zA ((by rw [hg]; exact (below_size (by repeat (first | (with_reducible first | exact HB.out | apply below_alloc | apply pw_below_drewN | apply below_drew1 | refine below_set ?_ GE149.out | refine below_set ?_ GE155.out | refine below_set ?_ GE161.out | refine below_set ?_ GE162.out | refine below_set ?_ GE173.out) | exact HB.out))) : w.heap.size ≤ gb184)); have n10_ := zA ((by rw [hg]; exact (below_size (by repeat (first | (with_reducible first | exact HB.out | apply below_alloc | apply pw_below_drewN | apply below_drew1 | refine below_set ?_ GE149.out | refine below_set ?_ GE155.out | refine below_set ?_ GE161.out | refine below_set ?_ GE162.out | refine below_set ?_ GE173.out) | exact HB.out))) : w.heap.size ≤ gb184)); have n11_ := zA ((by rw [hg]; exact Nat.ne_of_lt (blk_lt (g := gb149) (o := .cells #[.int .u8 a0_0, .int .u8 a0_1, .int .u8 a0_2, .int .u8 a0_3, .int .u8 a0_4] 86 (0, 0)) (zqB BK149.out)) : gb149 ≠ gb184)); have n12_ := zA ((by rw [hg]; exact Nat.ne_of_gt (blk_lt (g := gb149) (o := .cells #[.int .u8 a0_0, .int .u8 a0_1, .int .u8 a0_2, .int .u8 a0_3, .int .u8 a0_4] 86 (0, 0)) (zqB BK149.out)) : gb184 ≠ gb149)); have n13_ := zA ((by rw [hg]; exact Nat.ne_of_lt (blk_lt (g := gb155) (o := .cells #[.int .i64 t150, .int .i64 t151, .int .i64 t152, .int .i64 t153, .int .i64 t154] 57 (0, 0)) (zqB BK155.out)) : gb155 ≠ gb184)); have n14_ := zA ((by rw [hg]; exact Nat.ne_of_gt (blk_lt (g := gb155) (o := .cells #[.int .i64 t150, .int .i64 t151, .int .i64 t152, .int .i64 t153, .int .i64 t154] 57 (0, 0)) (zqB BK155.out)) : gb184 ≠ gb155)); have n15_ := zA ((by rw [hg]; exact Nat.ne_of_lt (blk_lt (g := gb161) (o := .cells #[.int .i64 t156, .int .i64 t157] 55 (0, 0)) (zqB BK161.out)) : gb161 ≠ gb184)); have n16_ := zA ((by rw [hg]; exact Nat.ne_of_gt (blk_lt (g := gb161) (o := .cells #[.int .i64 t156, .int .i64 t157] 55 (0, 0)) (zqB BK161.out)) : gb184 ≠ gb161)); have n17_ := zA ((by rw [hg]; exact Nat.ne_of_lt (blk_lt (g := gb162) (o := .cells #[.int .i64 t158, .int .i64 t159] 55 (0, 0)) (zqB BK162.out)) : gb162 ≠ gb184)); have n18_ := zA ((by rw [hg]; exact Nat.ne_of_gt (blk_lt (g := gb162) (o := .cells #[.int .i64 t158, .int .i64 t159] 55 (0, 0)) (zqB BK162.out)) : gb184 ≠ gb162)); have n19_ := zA ((by rw [hg]; exact Nat.ne_of_lt (blk_lt (g := gb173) (o := .cells #[.int .i64 (wrap64 (a1)), .int .i64 (wrap64 ((wrap64 ((wrap64 (a1)) + 1)) + (Int.tmod (wrap64 (a2)) 60)))] 47 (0, 0)) (zqB BK173.out)) : gb173 ≠ gb184)); have n20_ := zA ((by rw [hg]; exact Nat.ne_of_gt (blk_lt (g := gb173) (o := .cells #[.int .i64 (wrap64 (a1)), .int .i64 (wrap64 ((wrap64 ((wrap64 (a1)) + 1)) + (Int.tmod (wrap64 (a2)) 60)))] 47 (0, 0)) (zqB BK173.out)) : gb184 ≠ gb173)); clear HO_21; clear HO_214; clear BK149; clear BK155; clear BK161; clear BK162; clear BK173; clear HB; have HO_21 := n0_; have HO_214 := n1_; have BK149 := n2_; have BK155 := n3_; have BK161 := n4_; have BK162 := n5_; have BK173 := n6_; have HB := n7_; have BK184 := n8_; have GW184 := n9_; have GE184 := n10_; have NB149_184 := n11_; have NB184_149 := n12_; have NB155_184 := n13_; have NB184_155 := n14_; have NB161_184 := n15_; have NB184_161 := n16_; have NB162_184 := n17_; have NB184_162 := n18_; have NB173_184 := n19_; have NB184_173 := n20_; clear n0_ n1_ n2_ n3_ n4_ n5_ n6_ n7_ n8_ n9_ n10_ n11_ n12_ n13_ n14_ n15_ n16_ n17_ n18_ n19_ n20_; clear hb hbox hg; have hnb200 := NB184_149.out; have hnc200 := NB149_184.out; have hnb201 := NB184_155.out; have hnc201 := NB155_184.out; have hnb202 := NB184_161.out; have hnc202 := NB161_184.out; have hnb203 := NB184_162.out; have hnc203 := NB162_184.out; have hnb204 := NB184_173.out; have hnc204 := NB173_184.out; have hcz205_0 : w199.cell? ⟨gb184, 0, none⟩ = some (.int .i64 0) := (blk_cell BK184.out 0).trans rfl; have hcz205_1 : w199.cell? ⟨gb184, 1, none⟩ = some (.int .i64 0) := (blk_cell BK184.out 1).trans rfl; have hfz205_0 := blk_frozen BK184.out 0; have hfz205_1 := blk_frozen BK184.out 1))
                       have n0_ : Aside0 (Kd.R k47 47 ((w199.setCell ⟨gb184, 0, none⟩ (.int .i64 ((rd_T47 t174 x216_4).f0))).setCell ⟨gb184, 1, none⟩ (.int .i64 ((rd_T47 t174 x216_4).f1))) w.heap.size (fun k_ => k_ ≠ gb173 ∧ k_ ≠ gb184) (.slice (some ad183) t174.length co187) t174) := ⟨by (with_reducible repeat (first | apply Kd.R_alloc | apply Kd.R_drewN | apply Kd.R_drew)); exact Kd.R_mono (Kd.R_far (p := ⟨gb184, 1, none⟩) (Kd.R_far (p := ⟨gb184, 0, none⟩) (Kd.R_mono HO_21.out (fun k_ hk => (⟨hk, hk.2⟩ : _ ∧ k_ ≠ gb184))) (fun _ hk => hk.2) (.int .i64 ((rd_T47 t174 x216_4).f0))) (fun _ hk => hk.2) (.int .i64 ((rd_T47 t174 x216_4).f1))) (fun _ hk => ⟨hk.1.1, hk.1.2⟩)⟩
                       have n1_ : Aside0 (Kd.R k47 47 ((w199.setCell ⟨gb184, 0, none⟩ (.int .i64 ((rd_T47 t174 x216_4).f0))).setCell ⟨gb184, 1, none⟩ (.int .i64 ((rd_T47 t174 x216_4).f1))) w.heap.size (fun k_ => k_ ≠ gb173 ∧ k_ ≠ gb184) (.slice (some ad183) t174.length co187) t174) := ⟨by (with_reducible repeat (first | apply Kd.R_alloc | apply Kd.R_drewN | apply Kd.R_drew)); exact Kd.R_mono (Kd.R_far (p := ⟨gb184, 1, none⟩) (Kd.R_far (p := ⟨gb184, 0, none⟩) (Kd.R_mono HO_214.out (fun k_ hk => (⟨hk, hk.2⟩ : _ ∧ k_ ≠ gb184))) (fun _ hk => hk.2) (.int .i64 ((rd_T47 t174 x216_4).f0))) (fun _ hk => hk.2) (.int .i64 ((rd_T47 t174 x216_4).f1))) (fun _ hk => ⟨hk.1.1, hk.1.2⟩)⟩
                       have n2_ : Aside0 (((w199.setCell ⟨gb184, 0, none⟩ (.int .i64 ((rd_T47 t174 x216_4).f0))).setCell ⟨gb184, 1, none⟩ (.int .i64 ((rd_T47 t174 x216_4).f1))).heap[gb149]? = some (.cells #[.int .u8 a0_0, .int .u8 a0_1, .int .u8 a0_2, .int .u8 a0_3, .int .u8 a0_4] 86 (0, 0))) := ⟨by (with_reducible repeat (first | refine blk_drewN ?_ _ | refine blk_drew ?_ | refine blk_alloc ?_ _)); refine blk_far ?_ NB149_184.out _; (with_reducible repeat (first | refine blk_drewN ?_ _ | refine blk_drew ?_ | refine blk_alloc ?_ _)); refine blk_far ?_ NB149_184.out _; (with_reducible repeat (first | refine blk_drewN ?_ _ | refine blk_drew ?_ | refine blk_alloc ?_ _)); exact BK149.out⟩
                       have n3_ : Aside0 (((w199.setCell ⟨gb184, 0, none⟩ (.int .i64 ((rd_T47 t174 x216_4).f0))).setCell ⟨gb184, 1, none⟩ (.int .i64 ((rd_T47 t174 x216_4).f1))).heap[gb155]? = some (.cells #[.int .i64 t150, .int .i64 t151, .int .i64 t152, .int .i64 t153, .int .i64 t154] 57 (0, 0))) := ⟨by (with_reducible repeat (first | refine blk_drewN ?_ _ | refine blk_drew ?_ | refine blk_alloc ?_ _)); refine blk_far ?_ NB155_184.out _; (with_reducible repeat (first | refine blk_drewN ?_ _ | refine blk_drew ?_ | refine blk_alloc ?_ _)); refine blk_far ?_ NB155_184.out _; (with_reducible repeat (first | refine blk_drewN ?_ _ | refine blk_drew ?_ | refine blk_alloc ?_ _)); exact BK155.out⟩
                       have n4_ : Aside0 (((w199.setCell ⟨gb184, 0, none⟩ (.int .i64 ((rd_T47 t174 x216_4).f0))).setCell ⟨gb184, 1, none⟩ (.int .i64 ((rd_T47 t174 x216_4).f1))).heap[gb161]? = some (.cells #[.int .i64 t156, .int .i64 t157] 55 (0, 0))) := ⟨by (with_reducible repeat (first | refine blk_drewN ?_ _ | refine blk_drew ?_ | refine blk_alloc ?_ _)); refine blk_far ?_ NB161_184.out _; (with_reducible repeat (first | refine blk_drewN ?_ _ | refine blk_drew ?_ | refine blk_alloc ?_ _)); refine blk_far ?_ NB161_184.out _; (with_reducible repeat (first | refine blk_drewN ?_ _ | refine blk_drew ?_ | refine blk_alloc ?_ _)); exact BK161.out⟩
                       have n5_ : Aside0 (((w199.setCell ⟨gb184, 0, none⟩ (.int .i64 ((rd_T47 t174 x216_4).f0))).setCell ⟨gb184, 1, none⟩ (.int .i64 ((rd_T47 t174 x216_4).f1))).heap[gb162]? = some (.cells #[.int .i64 t158, .int .i64 t159] 55 (0, 0))) := ⟨by (with_reducible repeat (first | refine blk_drewN ?_ _ | refine blk_drew ?_ | refine blk_alloc ?_ _)); refine blk_far ?_ NB162_184.out _; (with_reducible repeat (first | refine blk_drewN ?_ _ | refine blk_drew ?_ | refine blk_alloc ?_ _)); refine blk_far ?_ NB162_184.out _; (with_reducible repeat (first | refine blk_drewN ?_ _ | refine blk_drew ?_ | refine blk_alloc ?_ _)); exact BK162.out⟩
                       have n6_ : Aside0 (((w199.setCell ⟨gb184, 0, none⟩ (.int .i64 ((rd_T47 t174 x216_4).f0))).setCell ⟨gb184, 1, none⟩ (.int .i64 ((rd_T47 t174 x216_4).f1))).heap[gb173]? = some (.cells #[.int .i64 (wrap64 (a1)), .int .i64 (wrap64 ((wrap64 ((wrap64 (a1)) + 1)) + (Int.tmod (wrap64 (a2)) 60)))] 47 (0, 0))) := ⟨by (with_reducible repeat (first | refine blk_drewN ?_ _ | refine blk_drew ?_ | refine blk_alloc ?_ _)); refine blk_far ?_ NB173_184.out _; (with_reducible repeat (first | refine blk_drewN ?_ _ | refine blk_drew ?_ | refine blk_alloc ?_ _)); refine blk_far ?_ NB173_184.out _; (with_reducible repeat (first | refine blk_drewN ?_ _ | refine blk_drew ?_ | refine blk_alloc ?_ _)); exact BK173.out⟩
                       have n7_ : Aside0 (((w199.setCell ⟨gb184, 0, none⟩ (.int .i64 ((rd_T47 t174 x216_4).f0))).setCell ⟨gb184, 1, none⟩ (.int .i64 ((rd_T47 t174 x216_4).f1))).heap[gb184]? = some (.cells #[.int .i64 ((rd_T47 t174 x216_4).f0), .int .i64 ((rd_T47 t174 x216_4).f1)] 47 (0, 0))) := ⟨by (with_reducible repeat (first | refine blk_drewN ?_ _ | refine blk_drew ?_ | refine blk_alloc ?_ _)); refine blk_put (cs := #[.int .i64 ((rd_T47 t174 x216_4).f0), .int .i64 0]) ?_ 1 _ rfl; (with_reducible repeat (first | refine blk_drewN ?_ _ | refine blk_drew ?_ | refine blk_alloc ?_ _)); refine blk_put (cs := #[.int .i64 0, .int .i64 0]) ?_ 0 _ rfl; (with_reducible repeat (first | refine blk_drewN ?_ _ | refine blk_drew ?_ | refine blk_alloc ?_ _)); exact BK184.out⟩
                       have n8_ : Aside0 (Below w.heap.size w ((w199.setCell ⟨gb184, 0, none⟩ (.int .i64 ((rd_T47 t174 x216_4).f0))).setCell ⟨gb184, 1, none⟩ (.int .i64 ((rd_T47 t174 x216_4).f1)))) := ⟨by repeat (first | (with_reducible first | exact HB.out | apply below_alloc | apply pw_below_drewN | apply below_drew1 | refine below_set ?_ GE149.out | refine below_set ?_ GE155.out | refine below_set ?_ GE161.out | refine below_set ?_ GE162.out | refine below_set ?_ GE173.out | refine below_set ?_ GE184.out) | exact HB.out)⟩
                       (try clear HO_21)
                       (try clear HO_214)
                       (try clear BK149)
                       (try clear BK155)
                       (try clear BK161)
                       (try clear BK162)
                       (try clear BK173)
                       (try clear BK184)
                       (try clear HB)
                       generalize ((w199.setCell ⟨gb184, 0, none⟩ (.int .i64 ((rd_T47 t174 x216_4).f0))).setCell ⟨gb184, 1, none⟩ (.int .i64 ((rd_T47 t174 x216_4).f1))) = w206 at n0_ n1_ n2_ n3_ n4_ n5_ n6_ n7_ n8_ ⊢; have HO_21 := n0_; have HO_214 := n1_; have BK149 := n2_; have BK155 := n3_; have BK161 := n4_; have BK162 := n5_; have BK173 := n6_; have BK184 := n7_; have HB := n8_; clear n0_ n1_ n2_ n3_ n4_ n5_ n6_ n7_ n8_; have n0_ := zA (Kd.R_drew HO_21.out); have n1_ := zA (Kd.R_drew HO_214.out); have n2_ := zA (blk_drew BK149.out); have n3_ := zA (blk_drew BK155.out); have n4_ := zA (blk_drew BK161.out); have n5_ := zA (blk_drew BK162.out); have n6_ := zA (blk_drew BK173.out); have n7_ := zA (blk_drew BK184.out); have n8_ := zA (below_drew1 HB.out); clear HO_21 HO_214 BK149 BK155 BK161 BK162 BK173 BK184 HB; have HO_21 := n0_; have HO_214 := n1_; have BK149 := n2_; have BK155 := n3_; have BK161 := n4_; have BK162 := n5_; have BK173 := n6_; have BK184 := n7_; have HB := n8_; clear n0_ n1_ n2_ n3_ n4_ n5_ n6_ n7_ n8_
                       have p186 : 0 ≤ ((ji194) : Int) := of_decide_eq_true (zqD)
                       have q186 : (ji194) < (t174.length : Int) := of_decide_eq_true (zqD)
                       obtain ⟨ad186, e186, hx186_0, hx186_1⟩ := at_T47 (Kd.R_reads' HO_21.out).2.2 (ji194) p186 q186
                       obtain rfl : ad183 = ad186 := (by injection e186)
                       replace p186 := eq_true p186; replace q186 := eq_true q186
                       refine start_ (n := 28) (S := fun w' => w'.cell? ⟨gb155, 0, none⟩ = some (.int .i64 t150) ∧ w'.cell? ⟨gb155, 1, none⟩ = some (.int .i64 t151) ∧ w'.cell? ⟨gb155, 2, none⟩ = some (.int .i64 t152) ∧ w'.cell? ⟨gb155, 3, none⟩ = some (.int .i64 t153) ∧ w'.cell? ⟨gb155, 4, none⟩ = some (.int .i64 t154) ∧ w'.cell? ⟨gb184, 0, none⟩ = some (.int .i64 ((rd_T47 t174 x216_4).f0)) ∧ w'.cell? ⟨gb184, 1, none⟩ = some (.int .i64 ((rd_T47 t174 x216_4).f1)) ∧ w'.cell? (ad183.add (((ji194)).toNat * 2)) = some (.int .i64 ((rd_T47 t174 (ji194)).f0)) ∧ w'.cell? ⟨(ad183.add (((ji194)).toNat * 2)).block, (ad183.add (((ji194)).toNat * 2)).off + 1, none⟩ = some (.int .i64 ((rd_T47 t174 (ji194)).f1))) (ds := []) #[false, false, false, false, false, false, false, false, false, false, false, false, false, false, false, false, false, false, false, false, false, false, false, false, false, false, false, false] (by kernel_rfl) rfl rfl ⟨(blk_cell BK155.out 0).trans rfl, (blk_cell BK155.out 1).trans rfl, (blk_cell BK155.out 2).trans rfl, (blk_cell BK155.out 3).trans rfl, (blk_cell BK155.out 4).trans rfl, (blk_cell BK184.out 0).trans rfl, (blk_cell BK184.out 1).trans rfl, hx186_0, hx186_1⟩ (fun hHeld => ?_); refine with_tabW pianolalaw03_PunchDays.tab29 pianolalaw03_PunchDays.bits29 (fun HT_ HW_ => ?_)
                       generalize w206.drew = w207 at HO_21 HO_214 BK149 BK155 BK161 BK162 BK173 BK184 HB hx186_0 hx186_1 hHeld ⊢
                       refine pure_ (i := 1) (N := some 222) (v := ?_) (a' := ?_) (zb 28 2) rfl rfl (any_of HT_.out (by kernel_rfl)) (fun _ _ _ h => h) (Or.inl ⟨by rfl, ?_⟩) ?_ ?_
                       rotate_left
                       ·
                        intro w'
                        go_simp
                        with_reducible rfl
                       rotate_left
                       · simp only [Act.put, setIfInBounds_toArray, set_cons_zero, set_cons_succ, i64_w, i32_w]; rfl
                       refine pure_ (i := 3) (N := some 224) (v := ?_) (a' := ?_) (zb 28 10) rfl rfl (any_of HT_.out (by kernel_rfl)) (fun _ _ _ h => h) (Or.inl ⟨by rfl, ?_⟩) ?_ ?_
                       rotate_left
                       ·
                        intro w'
                        go_simp
                        with_reducible rfl
                       rotate_left
                       · simp only [Act.put, setIfInBounds_toArray, set_cons_zero, set_cons_succ, i64_w, i32_w]; rfl
                       refine pure_ (i := 6) (N := some 227) (v := ?_) (a' := ?_) (zb 28 74) rfl rfl (any_of HT_.out (by kernel_rfl)) (fun _ _ _ h => h) (Or.inl ⟨by rfl, ?_⟩) ?_ ?_
                       rotate_left
                       ·
                        intro w'
                        go_simp
                        with_reducible rfl
                       rotate_left
                       · simp only [Act.put, setIfInBounds_toArray, set_cons_zero, set_cons_succ, i64_w, i32_w]; rfl
                       refine take_ (i := 0) (N := some 221) (v := ?_) (a' := ?_) (zb 28 75) rfl rfl (take_ofW HT_.out HW_.out (by kernel_rfl)) (fun _ _ _ h => h) (Or.inl ⟨by rfl, ?_⟩) hHeld ?_ ?_
                       rotate_left
                       ·
                        rintro w' ⟨s0, s1, s2, s3, s4, s5, s6, s7, s8⟩
                        go_simp
                        with_reducible rfl
                       rotate_left
                       · simp only [Act.put, setIfInBounds_toArray, set_cons_zero, set_cons_succ, i64_w, i32_w]; rfl
                       refine take_ (i := 2) (N := some 223) (v := ?_) (a' := ?_) (zb 28 79) rfl rfl (take_ofW HT_.out HW_.out (by kernel_rfl)) (fun _ _ _ h => h) (Or.inl ⟨by rfl, ?_⟩) hHeld ?_ ?_
                       rotate_left
                       ·
                        rintro w' ⟨s0, s1, s2, s3, s4, s5, s6, s7, s8⟩
                        go_simp
                        with_reducible rfl
                       rotate_left
                       · simp only [Act.put, setIfInBounds_toArray, set_cons_zero, set_cons_succ, i64_w, i32_w]; rfl
                       refine take_ (i := 4) (N := some 225) (v := ?_) (a' := ?_) (zb 28 95) rfl rfl (take_ofW HT_.out HW_.out (by kernel_rfl)) (fun _ _ _ h => h) (Or.inl ⟨by rfl, ?_⟩) hHeld ?_ ?_
                       rotate_left
                       ·
                        rintro w' ⟨s0, s1, s2, s3, s4, s5, s6, s7, s8⟩
                        go_simp
                        with_reducible rfl
                       rotate_left
                       · simp only [Act.put, setIfInBounds_toArray, set_cons_zero, set_cons_succ, i64_w, i32_w]; rfl
                       refine pure_ (i := 5) (N := some 226) (v := ?_) (a' := ?_) (zb 28 127) rfl rfl (any_of HT_.out (by kernel_rfl)) (fun _ _ _ h => h) (Or.inl ⟨by rfl, ?_⟩) ?_ ?_
                       rotate_left
                       ·
                        intro w'
                        go_simp
                        with_reducible rfl
                       rotate_left
                       · simp only [Act.put, setIfInBounds_toArray, set_cons_zero, set_cons_succ, i64_w, i32_w]; rfl
                       refine one_ (i := 7) (N := some 228) (zb 28 255) rfl rfl (one_of HT_.out (by kernel_rfl)) (by decide) (fun K hK => ?_)
                       refine goesC_ #[.pointer (some ⟨gb155, 0, none⟩)] (by rfl) Try.func43 (by kernel_rfl) rfl #[.int .i64 (wrap64 (((rd_T47 t174 x216_4).f1) - ((rd_T47 t174 x216_4).f0))), .int .i64 (wrap64 (t150 + (Int.tmod (wrap64 (a3)) (wrap64 ((wrap64 (t151 - t150)) + 1)))))] (by rfl) rfl rfl zqE ?_
                       with_reducible refine (days_hole.callsC (wrap64 (((rd_T47 t174 x216_4).f1) - ((rd_T47 t174 x216_4).f0))) (wrap64 (t150 + (Int.tmod (wrap64 (a3)) (wrap64 ((wrap64 (t151 - t150)) + 1))))) t150 t151 t152 t153 t154 true gb155 _ (zqB BK155.out) A191.out).mono ?_
                       rintro e w208 ⟨rfl, hb⟩
                       have HS7_ := (hb.cell (World.block_lt_of_cell? _ _ (hHeld.2.2.2.2.2.2.2.1))).trans (hHeld.2.2.2.2.2.2.2.1)
                       have HS8_ := (hb.cell (World.block_lt_of_cell? _ _ (hHeld.2.2.2.2.2.2.2.2))).trans (hHeld.2.2.2.2.2.2.2.2)
                       refine ⟨_, rfl, ?_⟩
                       have n0_ := zA (Kd.R_below (zqC HO_21.out) hb); have n1_ := zA (Kd.R_below (zqC HO_214.out) hb); have n2_ := zA (blk_below (g := gb149) (o := .cells #[.int .u8 a0_0, .int .u8 a0_1, .int .u8 a0_2, .int .u8 a0_3, .int .u8 a0_4] 86 (0, 0)) (zqB BK149.out) hb); have n3_ := zA (blk_below (g := gb155) (o := .cells #[.int .i64 t150, .int .i64 t151, .int .i64 t152, .int .i64 t153, .int .i64 t154] 57 (0, 0)) (zqB BK155.out) hb); have n4_ := zA (blk_below (g := gb161) (o := .cells #[.int .i64 t156, .int .i64 t157] 55 (0, 0)) (zqB BK161.out) hb); have n5_ := zA (blk_below (g := gb162) (o := .cells #[.int .i64 t158, .int .i64 t159] 55 (0, 0)) (zqB BK162.out) hb); have n6_ := zA (blk_below (g := gb173) (o := .cells #[.int .i64 (wrap64 (a1)), .int .i64 (wrap64 ((wrap64 ((wrap64 (a1)) + 1)) + (Int.tmod (wrap64 (a2)) 60)))] 47 (0, 0)) (zqB BK173.out) hb); have n7_ := zA (blk_below (g := gb184) (o := .cells #[.int .i64 ((rd_T47 t174 x216_4).f0), .int .i64 ((rd_T47 t174 x216_4).f1)] 47 (0, 0)) (zqB BK184.out) hb)
                       have n8_ := zA (below_step (by repeat (first | (with_reducible first | exact HB.out | apply below_alloc | apply pw_below_drewN | apply below_drew1 | refine below_set ?_ GE149.out | refine below_set ?_ GE155.out | refine below_set ?_ GE161.out | refine below_set ?_ GE162.out | refine below_set ?_ GE173.out | refine below_set ?_ GE184.out) | exact HB.out)) hb)
                       clear HO_21 HO_214 BK149 BK155 BK161 BK162 BK173 BK184 HB; have HO_21 := n0_; have HO_214 := n1_; have BK149 := n2_; have BK155 := n3_; have BK161 := n4_; have BK162 := n5_; have BK173 := n6_; have BK184 := n7_; have HB := n8_; clear n0_ n1_ n2_ n3_ n4_ n5_ n6_ n7_ n8_
                       (try clear hb); (try clear hb2); (try clear hk); (try clear hi)
                       refine hK.out _ _ ⟨(blk_cell BK155.out 0).trans rfl, (blk_cell BK155.out 1).trans rfl, (blk_cell BK155.out 2).trans rfl, (blk_cell BK155.out 3).trans rfl, (blk_cell BK155.out 4).trans rfl, (blk_cell BK184.out 0).trans rfl, (blk_cell BK184.out 1).trans rfl, HS7_, HS8_⟩ (fun hHeld => ?_)
                       clear hK K; refine norm_ (a' := ?_) ?_ ?_; rotate_left
                       · show Act.put _ (some 228) _ = _; simp only [Act.put, setIfInBounds_toArray, set_cons_zero, set_cons_succ, i64_w, i32_w]; rfl
                       refine pure_ (i := 8) (N := some 229) (v := ?_) (a' := ?_) (zb 28 511) rfl rfl (any_of HT_.out (by kernel_rfl)) (fun _ _ _ h => h) (Or.inl ⟨by rfl, ?_⟩) ?_ ?_
                       rotate_left
                       ·
                        intro w'
                        go_simp
                        with_reducible rfl
                       rotate_left
                       · simp only [Act.put, setIfInBounds_toArray, set_cons_zero, set_cons_succ, i64_w, i32_w]; rfl
                       refine pure_ (i := 9) (N := some 230) (v := ?_) (a' := ?_) (zb 28 1023) rfl rfl (any_of HT_.out (by kernel_rfl)) (fun _ _ _ h => h) (Or.inl ⟨by rfl, ?_⟩) ?_ ?_
                       rotate_left
                       ·
                        intro w'
                        go_simp
                        with_reducible rfl
                       rotate_left
                       · simp only [Act.put, setIfInBounds_toArray, set_cons_zero, set_cons_succ, i64_w, i32_w]; rfl
                       refine pure_ (i := 10) (N := some 231) (v := ?_) (a' := ?_) (zb 28 2047) rfl rfl (any_of HT_.out (by kernel_rfl)) (fun _ _ _ h => h) (Or.inl ⟨by rfl, ?_⟩) ?_ ?_
                       rotate_left
                       ·
                        intro w'
                        go_simp
                        with_reducible rfl
                       rotate_left
                       · simp only [Act.put, setIfInBounds_toArray, set_cons_zero, set_cons_succ, i64_w, i32_w]; rfl
                       refine pure_ (i := 11) (N := some 232) (v := ?_) (a' := ?_) (zb 28 4095) rfl rfl (any_of HT_.out (by kernel_rfl)) (fun _ _ _ h => h) (Or.inl ⟨by rfl, ?_⟩) ?_ ?_
                       rotate_left
                       ·
                        intro w'
                        go_simp
                        with_reducible rfl
                       rotate_left
                       · simp only [Act.put, setIfInBounds_toArray, set_cons_zero, set_cons_succ, i64_w, i32_w]; rfl
                       refine pure_ (i := 12) (N := some 233) (v := ?_) (a' := ?_) (zb 28 8191) rfl rfl (any_of HT_.out (by kernel_rfl)) (fun _ _ _ h => h) (Or.inl ⟨by rfl, ?_⟩) ?_ ?_
                       rotate_left
                       ·
                        intro w'
                        go_simp
                        with_reducible rfl
                       rotate_left
                       · simp only [Act.put, setIfInBounds_toArray, set_cons_zero, set_cons_succ, i64_w, i32_w]; rfl
                       refine pure_ (i := 14) (N := some 235) (v := ?_) (a' := ?_) (zb 28 24575) rfl rfl (any_of HT_.out (by kernel_rfl)) (fun _ _ _ h => h) (Or.inl ⟨by rfl, ?_⟩) ?_ ?_
                       rotate_left
                       ·
                        intro w'
                        go_simp
                        with_reducible rfl
                       rotate_left
                       · simp only [Act.put, setIfInBounds_toArray, set_cons_zero, set_cons_succ, i64_w, i32_w]; rfl
                       refine pure_ (i := 16) (N := some 237) (v := ?_) (a' := ?_) (zb 28 90111) rfl rfl (any_of HT_.out (by kernel_rfl)) (fun _ _ _ h => h) (Or.inl ⟨by rfl, ?_⟩) ?_ ?_
                       rotate_left
                       ·
                        intro w'
                        go_simp
                        with_reducible rfl
                       rotate_left
                       · simp only [Act.put, setIfInBounds_toArray, set_cons_zero, set_cons_succ, i64_w, i32_w]; rfl
                       refine pure_ (i := 17) (N := some 238) (v := ?_) (a' := ?_) (zb 28 221183) rfl rfl (any_of HT_.out (by kernel_rfl)) (fun _ _ _ h => h) (Or.inl ⟨by rfl, ?_⟩) ?_ ?_
                       rotate_left
                       ·
                        intro w'
                        go_simp
                        with_reducible rfl
                       rotate_left
                       · simp only [Act.put, setIfInBounds_toArray, set_cons_zero, set_cons_succ, i64_w, i32_w]; rfl
                       refine pure_ (i := 18) (N := some 239) (v := ?_) (a' := ?_) (zb 28 483327) rfl rfl (any_of HT_.out (by kernel_rfl)) (fun _ _ _ h => h) (Or.inl ⟨by rfl, ?_⟩) ?_ ?_
                       rotate_left
                       ·
                        intro w'
                        go_simp
                        with_reducible rfl
                       rotate_left
                       · simp only [Act.put, setIfInBounds_toArray, set_cons_zero, set_cons_succ, i64_w, i32_w]; rfl
                       refine pure_ (i := 19) (N := some 240) (v := ?_) (a' := ?_) (zb 28 1007615) rfl rfl (any_of HT_.out (by kernel_rfl)) (fun _ _ _ h => h) (Or.inl ⟨by rfl, ?_⟩) ?_ ?_
                       rotate_left
                       ·
                        intro w'
                        go_simp
                        with_reducible rfl
                       rotate_left
                       · simp only [Act.put, setIfInBounds_toArray, set_cons_zero, set_cons_succ, i64_w, i32_w]; rfl
                       refine pure_ (i := 20) (N := some 241) (v := ?_) (a' := ?_) (zb 28 2056191) rfl rfl (any_of HT_.out (by kernel_rfl)) (fun _ _ _ h => h) (Or.inl ⟨by rfl, ?_⟩) ?_ ?_
                       rotate_left
                       ·
                        intro w'
                        go_simp
                        with_reducible rfl
                       rotate_left
                       · simp only [Act.put, setIfInBounds_toArray, set_cons_zero, set_cons_succ, i64_w, i32_w]; rfl
                       refine pure_ (i := 23) (N := some 244) (v := ?_) (a' := ?_) (zb 28 10444799) rfl rfl (any_of HT_.out (by kernel_rfl)) (fun _ _ _ h => h) (Or.inl ⟨by rfl, ?_⟩) ?_ ?_
                       rotate_left
                       ·
                        intro w'
                        go_simp
                        with_reducible rfl
                       rotate_left
                       · simp only [Act.put, setIfInBounds_toArray, set_cons_zero, set_cons_succ, i64_w, i32_w]; rfl
                       refine take_ (i := 13) (N := some 234) (v := ?_) (a' := ?_) (zb 28 10452991) rfl rfl (take_ofW HT_.out HW_.out (by kernel_rfl)) (fun _ _ _ h => h) (Or.inl ⟨by rfl, ?_⟩) hHeld ?_ ?_
                       rotate_left
                       ·
                        rintro w' ⟨s0, s1, s2, s3, s4, s5, s6, s7, s8⟩
                        go_simp
                        with_reducible rfl
                       rotate_left
                       · simp only [Act.put, setIfInBounds_toArray, set_cons_zero, set_cons_succ, i64_w, i32_w]; rfl
                       refine take_ (i := 15) (N := some 236) (v := ?_) (a' := ?_) (zb 28 10485759) rfl rfl (take_ofW HT_.out HW_.out (by kernel_rfl)) (fun _ _ _ h => h) (Or.inl ⟨by rfl, ?_⟩) hHeld ?_ ?_
                       rotate_left
                       ·
                        rintro w' ⟨s0, s1, s2, s3, s4, s5, s6, s7, s8⟩
                        go_simp
                        with_reducible rfl
                       rotate_left
                       · simp only [Act.put, setIfInBounds_toArray, set_cons_zero, set_cons_succ, i64_w, i32_w]; rfl
                       refine take_ (i := 21) (N := some 242) (v := ?_) (a' := ?_) (zb 28 12582911) rfl rfl (take_ofW HT_.out HW_.out (by kernel_rfl)) (fun _ _ _ h => h) (Or.inl ⟨by rfl, ?_⟩) hHeld ?_ ?_
                       rotate_left
                       ·
                        rintro w' ⟨s0, s1, s2, s3, s4, s5, s6, s7, s8⟩
                        go_simp
                        with_reducible rfl
                       rotate_left
                       · simp only [Act.put, setIfInBounds_toArray, set_cons_zero, set_cons_succ, i64_w, i32_w]; rfl
                       refine pure_ (i := 22) (N := some 243) (v := ?_) (a' := ?_) (zb 28 16777215) rfl rfl (any_of HT_.out (by kernel_rfl)) (fun _ _ _ h => h) (Or.inl ⟨by rfl, ?_⟩) ?_ ?_
                       rotate_left
                       ·
                        intro w'
                        go_simp
                        with_reducible rfl
                       rotate_left
                       · simp only [Act.put, setIfInBounds_toArray, set_cons_zero, set_cons_succ, i64_w, i32_w]; rfl
                       refine one_ (i := 24) (N := some 245) (zb 28 33554431) rfl rfl (one_of HT_.out (by kernel_rfl)) (by decide) (fun K hK => ?_)
                       refine goesC_ #[.pointer (some ⟨gb155, 0, none⟩)] (by rfl) Try.func44 (by kernel_rfl) rfl #[.int .i64 (wrap64 (((rd_T47 t174 x216_4).f0) - ((rd_T47 t174 (ji194)).f1))), .int .i64 (wrap64 (t150 + (Int.tmod (wrap64 (a3)) (wrap64 ((wrap64 (t151 - t150)) + 1)))))] (by rfl) rfl rfl (by (try simp only [List.map_toArray, List.map_cons, List.map_nil]); first | done | (simp only [hji194]; rfl) | rfl | (simp only [List.length_drop, List.length_take]; rfl)) ?_
                       with_reducible refine (days_bridge.callsC (wrap64 (((rd_T47 t174 x216_4).f0) - ((rd_T47 t174 (ji194)).f1))) (wrap64 (t150 + (Int.tmod (wrap64 (a3)) (wrap64 ((wrap64 (t151 - t150)) + 1))))) t150 t151 t152 t153 t154 true gb155 _ (zqB BK155.out) A197.out).mono ?_
                       rintro e w209 ⟨rfl, hb⟩
                       have HS7_ := (hb.cell (World.block_lt_of_cell? _ _ (hHeld.2.2.2.2.2.2.2.1))).trans (hHeld.2.2.2.2.2.2.2.1)
                       have HS8_ := (hb.cell (World.block_lt_of_cell? _ _ (hHeld.2.2.2.2.2.2.2.2))).trans (hHeld.2.2.2.2.2.2.2.2)
                       refine ⟨_, rfl, ?_⟩
                       have n0_ := zA (Kd.R_below (zqC HO_21.out) hb); have n1_ := zA (Kd.R_below (zqC HO_214.out) hb); have n2_ := zA (blk_below (g := gb149) (o := .cells #[.int .u8 a0_0, .int .u8 a0_1, .int .u8 a0_2, .int .u8 a0_3, .int .u8 a0_4] 86 (0, 0)) (zqB BK149.out) hb); have n3_ := zA (blk_below (g := gb155) (o := .cells #[.int .i64 t150, .int .i64 t151, .int .i64 t152, .int .i64 t153, .int .i64 t154] 57 (0, 0)) (zqB BK155.out) hb); have n4_ := zA (blk_below (g := gb161) (o := .cells #[.int .i64 t156, .int .i64 t157] 55 (0, 0)) (zqB BK161.out) hb); have n5_ := zA (blk_below (g := gb162) (o := .cells #[.int .i64 t158, .int .i64 t159] 55 (0, 0)) (zqB BK162.out) hb); have n6_ := zA (blk_below (g := gb173) (o := .cells #[.int .i64 (wrap64 (a1)), .int .i64 (wrap64 ((wrap64 ((wrap64 (a1)) + 1)) + (Int.tmod (wrap64 (a2)) 60)))] 47 (0, 0)) (zqB BK173.out) hb); have n7_ := zA (blk_below (g := gb184) (o := .cells #[.int .i64 ((rd_T47 t174 x216_4).f0), .int .i64 ((rd_T47 t174 x216_4).f1)] 47 (0, 0)) (zqB BK184.out) hb)
                       have n8_ := zA (below_step (by repeat (first | (with_reducible first | exact HB.out | apply below_alloc | apply pw_below_drewN | apply below_drew1 | refine below_set ?_ GE149.out | refine below_set ?_ GE155.out | refine below_set ?_ GE161.out | refine below_set ?_ GE162.out | refine below_set ?_ GE173.out | refine below_set ?_ GE184.out) | exact HB.out)) hb)
                       clear HO_21 HO_214 BK149 BK155 BK161 BK162 BK173 BK184 HB; have HO_21 := n0_; have HO_214 := n1_; have BK149 := n2_; have BK155 := n3_; have BK161 := n4_; have BK162 := n5_; have BK173 := n6_; have BK184 := n7_; have HB := n8_; clear n0_ n1_ n2_ n3_ n4_ n5_ n6_ n7_ n8_
                       (try clear hb); (try clear hb2); (try clear hk); (try clear hi)
                       refine hK.out _ _ ⟨(blk_cell BK155.out 0).trans rfl, (blk_cell BK155.out 1).trans rfl, (blk_cell BK155.out 2).trans rfl, (blk_cell BK155.out 3).trans rfl, (blk_cell BK155.out 4).trans rfl, (blk_cell BK184.out 0).trans rfl, (blk_cell BK184.out 1).trans rfl, HS7_, HS8_⟩ (fun hHeld => ?_)
                       clear hK K; refine norm_ (a' := ?_) ?_ ?_; rotate_left
                       · show Act.put _ (some 245) _ = _; simp only [Act.put, setIfInBounds_toArray, set_cons_zero, set_cons_succ, i64_w, i32_w]; rfl
                       refine pure_ (i := 25) (N := some 246) (v := ?_) (a' := ?_) (zb 28 67108863) rfl rfl (any_of HT_.out (by kernel_rfl)) (fun _ _ _ h => h) (Or.inl ⟨by rfl, ?_⟩) ?_ ?_
                       rotate_left
                       ·
                        intro w'
                        go_simp
                        with_reducible rfl
                       rotate_left
                       · simp only [Act.put, setIfInBounds_toArray, set_cons_zero, set_cons_succ, i64_w, i32_w]; rfl
                       refine pure_ (i := 26) (N := some 247) (v := ?_) (a' := ?_) (zb 28 134217727) rfl rfl (any_of HT_.out (by kernel_rfl)) (fun _ _ _ h => h) (Or.inl ⟨by rfl, ?_⟩) ?_ ?_
                       rotate_left
                       ·
                        intro w'
                        go_simp
                        with_reducible rfl
                       rotate_left
                       · simp only [Act.put, setIfInBounds_toArray, set_cons_zero, set_cons_succ, i64_w, i32_w]; rfl
                       refine pure_ (i := 27) (N := some 248) (v := ?_) (a' := ?_) (zb 28 268435455) rfl rfl (any_of HT_.out (by kernel_rfl)) (fun _ _ _ h => h) (Or.inl ⟨by rfl, ?_⟩) ?_ ?_
                       rotate_left
                       ·
                        intro w'
                        go_simp
                        with_reducible rfl
                       rotate_left
                       · simp only [Act.put, setIfInBounds_toArray, set_cons_zero, set_cons_succ, i64_w, i32_w]; rfl
                       refine done_ (done_of HT_.out (by kernel_rfl)) ?_
                       try go_wp2
                       go_roundg k4
                       case measure => have := HK1.out; have := HJ146.out; have := HJ167.out; have := HK4.out; omega
                       case rel => exact ⟨(wrap64 (x216_4 + 1)), zqQ, H', ⟨by have := HK1.out; have := HJ146.out; have := HJ167.out; have := HK4.out; omega⟩, ⟨by (with_reducible repeat (first | apply Kd.R_alloc | apply Kd.R_drewN | apply Kd.R_drew)); exact Kd.R_mono HO_21.out (fun _ hk => hk.1)⟩, ⟨by (with_reducible repeat (first | apply Kd.R_alloc | apply Kd.R_drewN | apply Kd.R_drew)); exact Kd.R_mono HO_214.out (fun _ hk => hk.1)⟩, ⟨zqB BK149.out⟩, ⟨zqB BK155.out⟩, ⟨zqB BK161.out⟩, ⟨zqB BK162.out⟩, ⟨zqB BK173.out⟩, ⟨by repeat (first | (with_reducible first | exact HB.out | apply below_alloc | apply pw_below_drewN | apply below_drew1 | refine below_set ?_ GE149.out | refine below_set ?_ GE155.out | refine below_set ?_ GE161.out | refine below_set ?_ GE162.out | refine below_set ?_ GE173.out | refine below_set ?_ GE184.out) | exact HB.out)⟩⟩
                      ·
                       replace c198 := Bool.eq_false_iff.mpr c198
                       subst c198
                       have H1 : (some false) = some r := by rw [if_neg (show ¬ (false = true) by decide)] at H; exact H
                       clear H; have H := H1; clear H1
                       exact absurd ((Option.some.inj H).trans HRT.out) (by decide)
                     ·
                      rw [if_neg c196] at H
                      exact absurd H (by simp)
                    ·
                     rw [if_neg c195] at H
                     exact absurd H (by simp)
                   ·
                    rw [if_neg c193] at H
                    have c193b0 : decide (0 < x216_4) = false := decide_eq_false c193
                    clear c193
                    have H' := zA H
                    clear H
                    have p183 : 0 ≤ (x216_4 : Int) := of_decide_eq_true (zqD)
                    have q183 : x216_4 < (t174.length : Int) := of_decide_eq_true (zqD)
                    obtain ⟨ad183, e183, hx183_0, hx183_1⟩ := at_T47 (Kd.R_reads' HO_214.out).2.2 x216_4 p183 q183
                    cases e183; replace p183 := eq_true p183; replace q183 := eq_true q183
                    try go_wp2_with (first | ((with_reducible refine gate_dst (N := 24) rfl ?_); (try (refine gate_guard (by rfl) ?_; dsimp only)); refine box_event ?hg (N := 24) ?hd (cs := #[.int .i64 0, .int .i64 0]) (t := 47) ?hr ?_; (case hd => rfl); (case hg => rfl); (case hr => first | (go_simp; done) | (go_simp; rfl)); intro gb184 hg w221 hbox hb; have n0_ := zA (Kd.R_below (Kd.R_elderB (zqC HO_21.out) gb184 (Nat.le_of_eq hg.symm)) hb); have n1_ := zA (Kd.R_below (Kd.R_elderB (zqC HO_214.out) gb184 (Nat.le_of_eq hg.symm)) hb); have n2_ := zA (blk_below (g := gb149) (o := .cells #[.int .u8 a0_0, .int .u8 a0_1, .int .u8 a0_2, .int .u8 a0_3, .int .u8 a0_4] 86 (0, 0)) (zqB BK149.out) hb); have n3_ := zA (blk_below (g := gb155) (o := .cells #[.int .i64 t150, .int .i64 t151, .int .i64 t152, .int .i64 t153, .int .i64 t154] 57 (0, 0)) (zqB BK155.out) hb); have n4_ := zA (blk_below (g := gb161) (o := .cells #[.int .i64 t156, .int .i64 t157] 55 (0, 0)) (zqB BK161.out) hb); have n5_ := zA (blk_below (g := gb162) (o := .cells #[.int .i64 t158, .int .i64 t159] 55 (0, 0)) (zqB BK162.out) hb); have n6_ := zA (blk_below (g := gb173) (o := .cells #[.int .i64 (wrap64 (a1)), .int .i64 (wrap64 ((wrap64 ((wrap64 (a1)) + 1)) + (Int.tmod (wrap64 (a2)) 60)))] 47 (0, 0)) (zqB BK173.out) hb); have n7_ := zA (below_step (by repeat (first | (with_reducible first | exact HB.out | apply below_alloc | apply pw_below_drewN | apply below_drew1 | refine below_set ?_ GE149.out | refine below_set ?_ GE155.out | refine below_set ?_ GE161.out | refine below_set ?_ GE162.out | refine below_set ?_ GE173.out) | exact HB.out)) hb); have n8_ := zA (hbox); have n9_ := zA ((by rw [hg]; exact (below_size (by repeat (first | (with_reducible first | exact HB.out | apply below_alloc | apply pw_below_drewN | apply below_drew1 | refine below_set ?_ GE149.out | refine below_set ?_ GE155.out | refine below_set ?_ GE161.out | refine below_set ?_ GE162.out | refine below_set ?_ GE173.out) | exact HB.out))) : w.heap.size ≤ gb184)); have n10_ := zA ((by rw [hg]; exact (below_size (by repeat (first | (with_reducible first | exact HB.out | apply below_alloc | apply pw_below_drewN | apply below_drew1 | refine below_set ?_ GE149.out | refine below_set ?_ GE155.out | refine below_set ?_ GE161.out | refine below_set ?_ GE162.out | refine below_set ?_ GE173.out) | exact HB.out))) : w.heap.size ≤ gb184)); have n11_ := zA ((by rw [hg]; exact Nat.ne_of_lt (blk_lt (g := gb149) (o := .cells #[.int .u8 a0_0, .int .u8 a0_1, .int .u8 a0_2, .int .u8 a0_3, .int .u8 a0_4] 86 (0, 0)) (zqB BK149.out)) : gb149 ≠ gb184)); have n12_ := zA ((by rw [hg]; exact Nat.ne_of_gt (blk_lt (g := gb149) (o := .cells #[.int .u8 a0_0, .int .u8 a0_1, .int .u8 a0_2, .int .u8 a0_3, .int .u8 a0_4] 86 (0, 0)) (zqB BK149.out)) : gb184 ≠ gb149)); have n13_ := zA ((by rw [hg]; exact Nat.ne_of_lt (blk_lt (g := gb155) (o := .cells #[.int .i64 t150, .int .i64 t151, .int .i64 t152, .int .i64 t153, .int .i64 t154] 57 (0, 0)) (zqB BK155.out)) : gb155 ≠ gb184)); have n14_ := zA ((by rw [hg]; exact Nat.ne_of_gt (blk_lt (g := gb155) (o := .cells #[.int .i64 t150, .int .i64 t151, .int .i64 t152, .int .i64 t153, .int .i64 t154] 57 (0, 0)) (zqB BK155.out)) : gb184 ≠ gb155)); have n15_ := zA ((by rw [hg]; exact Nat.ne_of_lt (blk_lt (g := gb161) (o := .cells #[.int .i64 t156, .int .i64 t157] 55 (0, 0)) (zqB BK161.out)) : gb161 ≠ gb184)); have n16_ := zA ((by rw [hg]; exact Nat.ne_of_gt (blk_lt (g := gb161) (o := .cells #[.int .i64 t156, .int .i64 t157] 55 (0, 0)) (zqB BK161.out)) : gb184 ≠ gb161)); have n17_ := zA ((by rw [hg]; exact Nat.ne_of_lt (blk_lt (g := gb162) (o := .cells #[.int .i64 t158, .int .i64 t159] 55 (0, 0)) (zqB BK162.out)) : gb162 ≠ gb184)); have n18_ := zA ((by rw [hg]; exact Nat.ne_of_gt (blk_lt (g := gb162) (o := .cells #[.int .i64 t158, .int .i64 t159] 55 (0, 0)) (zqB BK162.out)) : gb184 ≠ gb162)); have n19_ := zA ((by rw [hg]; exact Nat.ne_of_lt (blk_lt (g := gb173) (o := .cells #[.int .i64 (wrap64 (a1)), .int .i64 (wrap64 ((wrap64 ((wrap64 (a1)) + 1)) + (Int.tmod (wrap64 (a2)) 60)))] 47 (0, 0)) (zqB BK173.out)) : gb173 ≠ gb184)); have n20_ := zA ((by rw [hg]; exact Nat.ne_of_gt (blk_lt (g := gb173) (o := .cells #[.int .i64 (wrap64 (a1)), .int .i64 (wrap64 ((wrap64 ((wrap64 (a1)) + 1)) + (Int.tmod (wrap64 (a2)) 60)))] 47 (0, 0)) (zqB BK173.out)) : gb184 ≠ gb173)); clear HO_21; clear HO_214; clear BK149; clear BK155; clear BK161; clear BK162; clear BK173; clear HB; have HO_21 := n0_; have HO_214 := n1_; have BK149 := n2_; have BK155 := n3_; have BK161 := n4_; have BK162 := n5_; have BK173 := n6_; have HB := n7_; have BK184 := n8_; have GW184 := n9_; have GE184 := n10_; have NB149_184 := n11_; have NB184_149 := n12_; have NB155_184 := n13_; have NB184_155 := n14_; have NB161_184 := n15_; have NB184_161 := n16_; have NB162_184 := n17_; have NB184_162 := n18_; have NB173_184 := n19_; have NB184_173 := n20_; clear n0_ n1_ n2_ n3_ n4_ n5_ n6_ n7_ n8_ n9_ n10_ n11_ n12_ n13_ n14_ n15_ n16_ n17_ n18_ n19_ n20_; clear hb hbox hg; have hnb222 := NB184_149.out; have hnc222 := NB149_184.out; have hnb223 := NB184_155.out; have hnc223 := NB155_184.out; have hnb224 := NB184_161.out; have hnc224 := NB161_184.out; have hnb225 := NB184_162.out; have hnc225 := NB162_184.out; have hnb226 := NB184_173.out; have hnc226 := NB173_184.out; have hcz227_0 : w221.cell? ⟨gb184, 0, none⟩ = some (.int .i64 0) := (blk_cell BK184.out 0).trans rfl; have hcz227_1 : w221.cell? ⟨gb184, 1, none⟩ = some (.int .i64 0) := (blk_cell BK184.out 1).trans rfl; have hfz227_0 := blk_frozen BK184.out 0; have hfz227_1 := blk_frozen BK184.out 1))
                    have n0_ : Aside0 (Kd.R k47 47 ((w221.setCell ⟨gb184, 0, none⟩ (.int .i64 ((rd_T47 t174 x216_4).f0))).setCell ⟨gb184, 1, none⟩ (.int .i64 ((rd_T47 t174 x216_4).f1))) w.heap.size (fun k_ => k_ ≠ gb173 ∧ k_ ≠ gb184) (.slice (some ad183) t174.length co187) t174) := ⟨by (with_reducible repeat (first | apply Kd.R_alloc | apply Kd.R_drewN | apply Kd.R_drew)); exact Kd.R_mono (Kd.R_far (p := ⟨gb184, 1, none⟩) (Kd.R_far (p := ⟨gb184, 0, none⟩) (Kd.R_mono HO_21.out (fun k_ hk => (⟨hk, hk.2⟩ : _ ∧ k_ ≠ gb184))) (fun _ hk => hk.2) (.int .i64 ((rd_T47 t174 x216_4).f0))) (fun _ hk => hk.2) (.int .i64 ((rd_T47 t174 x216_4).f1))) (fun _ hk => ⟨hk.1.1, hk.1.2⟩)⟩
                    have n1_ : Aside0 (Kd.R k47 47 ((w221.setCell ⟨gb184, 0, none⟩ (.int .i64 ((rd_T47 t174 x216_4).f0))).setCell ⟨gb184, 1, none⟩ (.int .i64 ((rd_T47 t174 x216_4).f1))) w.heap.size (fun k_ => k_ ≠ gb173 ∧ k_ ≠ gb184) (.slice (some ad183) t174.length co187) t174) := ⟨by (with_reducible repeat (first | apply Kd.R_alloc | apply Kd.R_drewN | apply Kd.R_drew)); exact Kd.R_mono (Kd.R_far (p := ⟨gb184, 1, none⟩) (Kd.R_far (p := ⟨gb184, 0, none⟩) (Kd.R_mono HO_214.out (fun k_ hk => (⟨hk, hk.2⟩ : _ ∧ k_ ≠ gb184))) (fun _ hk => hk.2) (.int .i64 ((rd_T47 t174 x216_4).f0))) (fun _ hk => hk.2) (.int .i64 ((rd_T47 t174 x216_4).f1))) (fun _ hk => ⟨hk.1.1, hk.1.2⟩)⟩
                    have n2_ : Aside0 (((w221.setCell ⟨gb184, 0, none⟩ (.int .i64 ((rd_T47 t174 x216_4).f0))).setCell ⟨gb184, 1, none⟩ (.int .i64 ((rd_T47 t174 x216_4).f1))).heap[gb149]? = some (.cells #[.int .u8 a0_0, .int .u8 a0_1, .int .u8 a0_2, .int .u8 a0_3, .int .u8 a0_4] 86 (0, 0))) := ⟨by (with_reducible repeat (first | refine blk_drewN ?_ _ | refine blk_drew ?_ | refine blk_alloc ?_ _)); refine blk_far ?_ NB149_184.out _; (with_reducible repeat (first | refine blk_drewN ?_ _ | refine blk_drew ?_ | refine blk_alloc ?_ _)); refine blk_far ?_ NB149_184.out _; (with_reducible repeat (first | refine blk_drewN ?_ _ | refine blk_drew ?_ | refine blk_alloc ?_ _)); exact BK149.out⟩
                    have n3_ : Aside0 (((w221.setCell ⟨gb184, 0, none⟩ (.int .i64 ((rd_T47 t174 x216_4).f0))).setCell ⟨gb184, 1, none⟩ (.int .i64 ((rd_T47 t174 x216_4).f1))).heap[gb155]? = some (.cells #[.int .i64 t150, .int .i64 t151, .int .i64 t152, .int .i64 t153, .int .i64 t154] 57 (0, 0))) := ⟨by (with_reducible repeat (first | refine blk_drewN ?_ _ | refine blk_drew ?_ | refine blk_alloc ?_ _)); refine blk_far ?_ NB155_184.out _; (with_reducible repeat (first | refine blk_drewN ?_ _ | refine blk_drew ?_ | refine blk_alloc ?_ _)); refine blk_far ?_ NB155_184.out _; (with_reducible repeat (first | refine blk_drewN ?_ _ | refine blk_drew ?_ | refine blk_alloc ?_ _)); exact BK155.out⟩
                    have n4_ : Aside0 (((w221.setCell ⟨gb184, 0, none⟩ (.int .i64 ((rd_T47 t174 x216_4).f0))).setCell ⟨gb184, 1, none⟩ (.int .i64 ((rd_T47 t174 x216_4).f1))).heap[gb161]? = some (.cells #[.int .i64 t156, .int .i64 t157] 55 (0, 0))) := ⟨by (with_reducible repeat (first | refine blk_drewN ?_ _ | refine blk_drew ?_ | refine blk_alloc ?_ _)); refine blk_far ?_ NB161_184.out _; (with_reducible repeat (first | refine blk_drewN ?_ _ | refine blk_drew ?_ | refine blk_alloc ?_ _)); refine blk_far ?_ NB161_184.out _; (with_reducible repeat (first | refine blk_drewN ?_ _ | refine blk_drew ?_ | refine blk_alloc ?_ _)); exact BK161.out⟩
                    have n5_ : Aside0 (((w221.setCell ⟨gb184, 0, none⟩ (.int .i64 ((rd_T47 t174 x216_4).f0))).setCell ⟨gb184, 1, none⟩ (.int .i64 ((rd_T47 t174 x216_4).f1))).heap[gb162]? = some (.cells #[.int .i64 t158, .int .i64 t159] 55 (0, 0))) := ⟨by (with_reducible repeat (first | refine blk_drewN ?_ _ | refine blk_drew ?_ | refine blk_alloc ?_ _)); refine blk_far ?_ NB162_184.out _; (with_reducible repeat (first | refine blk_drewN ?_ _ | refine blk_drew ?_ | refine blk_alloc ?_ _)); refine blk_far ?_ NB162_184.out _; (with_reducible repeat (first | refine blk_drewN ?_ _ | refine blk_drew ?_ | refine blk_alloc ?_ _)); exact BK162.out⟩
                    have n6_ : Aside0 (((w221.setCell ⟨gb184, 0, none⟩ (.int .i64 ((rd_T47 t174 x216_4).f0))).setCell ⟨gb184, 1, none⟩ (.int .i64 ((rd_T47 t174 x216_4).f1))).heap[gb173]? = some (.cells #[.int .i64 (wrap64 (a1)), .int .i64 (wrap64 ((wrap64 ((wrap64 (a1)) + 1)) + (Int.tmod (wrap64 (a2)) 60)))] 47 (0, 0))) := ⟨by (with_reducible repeat (first | refine blk_drewN ?_ _ | refine blk_drew ?_ | refine blk_alloc ?_ _)); refine blk_far ?_ NB173_184.out _; (with_reducible repeat (first | refine blk_drewN ?_ _ | refine blk_drew ?_ | refine blk_alloc ?_ _)); refine blk_far ?_ NB173_184.out _; (with_reducible repeat (first | refine blk_drewN ?_ _ | refine blk_drew ?_ | refine blk_alloc ?_ _)); exact BK173.out⟩
                    have n7_ : Aside0 (((w221.setCell ⟨gb184, 0, none⟩ (.int .i64 ((rd_T47 t174 x216_4).f0))).setCell ⟨gb184, 1, none⟩ (.int .i64 ((rd_T47 t174 x216_4).f1))).heap[gb184]? = some (.cells #[.int .i64 ((rd_T47 t174 x216_4).f0), .int .i64 ((rd_T47 t174 x216_4).f1)] 47 (0, 0))) := ⟨by (with_reducible repeat (first | refine blk_drewN ?_ _ | refine blk_drew ?_ | refine blk_alloc ?_ _)); refine blk_put (cs := #[.int .i64 ((rd_T47 t174 x216_4).f0), .int .i64 0]) ?_ 1 _ rfl; (with_reducible repeat (first | refine blk_drewN ?_ _ | refine blk_drew ?_ | refine blk_alloc ?_ _)); refine blk_put (cs := #[.int .i64 0, .int .i64 0]) ?_ 0 _ rfl; (with_reducible repeat (first | refine blk_drewN ?_ _ | refine blk_drew ?_ | refine blk_alloc ?_ _)); exact BK184.out⟩
                    have n8_ : Aside0 (Below w.heap.size w ((w221.setCell ⟨gb184, 0, none⟩ (.int .i64 ((rd_T47 t174 x216_4).f0))).setCell ⟨gb184, 1, none⟩ (.int .i64 ((rd_T47 t174 x216_4).f1)))) := ⟨by repeat (first | (with_reducible first | exact HB.out | apply below_alloc | apply pw_below_drewN | apply below_drew1 | refine below_set ?_ GE149.out | refine below_set ?_ GE155.out | refine below_set ?_ GE161.out | refine below_set ?_ GE162.out | refine below_set ?_ GE173.out | refine below_set ?_ GE184.out) | exact HB.out)⟩
                    (try clear HO_21)
                    (try clear HO_214)
                    (try clear BK149)
                    (try clear BK155)
                    (try clear BK161)
                    (try clear BK162)
                    (try clear BK173)
                    (try clear BK184)
                    (try clear HB)
                    generalize ((w221.setCell ⟨gb184, 0, none⟩ (.int .i64 ((rd_T47 t174 x216_4).f0))).setCell ⟨gb184, 1, none⟩ (.int .i64 ((rd_T47 t174 x216_4).f1))) = w228 at n0_ n1_ n2_ n3_ n4_ n5_ n6_ n7_ n8_ ⊢; have HO_21 := n0_; have HO_214 := n1_; have BK149 := n2_; have BK155 := n3_; have BK161 := n4_; have BK162 := n5_; have BK173 := n6_; have BK184 := n7_; have HB := n8_; clear n0_ n1_ n2_ n3_ n4_ n5_ n6_ n7_ n8_; have n0_ := zA (Kd.R_drew HO_21.out); have n1_ := zA (Kd.R_drew HO_214.out); have n2_ := zA (blk_drew BK149.out); have n3_ := zA (blk_drew BK155.out); have n4_ := zA (blk_drew BK161.out); have n5_ := zA (blk_drew BK162.out); have n6_ := zA (blk_drew BK173.out); have n7_ := zA (blk_drew BK184.out); have n8_ := zA (below_drew1 HB.out); clear HO_21 HO_214 BK149 BK155 BK161 BK162 BK173 BK184 HB; have HO_21 := n0_; have HO_214 := n1_; have BK149 := n2_; have BK155 := n3_; have BK161 := n4_; have BK162 := n5_; have BK173 := n6_; have BK184 := n7_; have HB := n8_; clear n0_ n1_ n2_ n3_ n4_ n5_ n6_ n7_ n8_
                    refine start_ (n := 28) (S := fun w' => w'.cell? ⟨gb155, 0, none⟩ = some (.int .i64 t150) ∧ w'.cell? ⟨gb155, 1, none⟩ = some (.int .i64 t151) ∧ w'.cell? ⟨gb155, 2, none⟩ = some (.int .i64 t152) ∧ w'.cell? ⟨gb155, 3, none⟩ = some (.int .i64 t153) ∧ w'.cell? ⟨gb155, 4, none⟩ = some (.int .i64 t154) ∧ w'.cell? ⟨gb184, 0, none⟩ = some (.int .i64 ((rd_T47 t174 x216_4).f0)) ∧ w'.cell? ⟨gb184, 1, none⟩ = some (.int .i64 ((rd_T47 t174 x216_4).f1))) (ds := []) #[false, false, false, false, false, false, false, false, false, false, false, false, false, false, false, false, false, false, false, false, false, false, false, false, false, false, false, false] (by kernel_rfl) rfl rfl ⟨(blk_cell BK155.out 0).trans rfl, (blk_cell BK155.out 1).trans rfl, (blk_cell BK155.out 2).trans rfl, (blk_cell BK155.out 3).trans rfl, (blk_cell BK155.out 4).trans rfl, (blk_cell BK184.out 0).trans rfl, (blk_cell BK184.out 1).trans rfl⟩ (fun hHeld => ?_); refine with_tabW pianolalaw03_PunchDays.tab29 pianolalaw03_PunchDays.bits29 (fun HT_ HW_ => ?_)
                    generalize w228.drew = w229 at HO_21 HO_214 BK149 BK155 BK161 BK162 BK173 BK184 HB hHeld ⊢
                    refine pure_ (i := 1) (N := some 222) (v := ?_) (a' := ?_) (zb 28 2) rfl rfl (any_of HT_.out (by kernel_rfl)) (fun _ _ _ h => h) (Or.inl ⟨by rfl, ?_⟩) ?_ ?_
                    rotate_left
                    ·
                     intro w'
                     go_simp
                     with_reducible rfl
                    rotate_left
                    · simp only [Act.put, setIfInBounds_toArray, set_cons_zero, set_cons_succ, i64_w, i32_w]; rfl
                    refine pure_ (i := 3) (N := some 224) (v := ?_) (a' := ?_) (zb 28 10) rfl rfl (any_of HT_.out (by kernel_rfl)) (fun _ _ _ h => h) (Or.inl ⟨by rfl, ?_⟩) ?_ ?_
                    rotate_left
                    ·
                     intro w'
                     go_simp
                     with_reducible rfl
                    rotate_left
                    · simp only [Act.put, setIfInBounds_toArray, set_cons_zero, set_cons_succ, i64_w, i32_w]; rfl
                    refine pure_ (i := 6) (N := some 227) (v := ?_) (a' := ?_) (zb 28 74) rfl rfl (any_of HT_.out (by kernel_rfl)) (fun _ _ _ h => h) (Or.inl ⟨by rfl, ?_⟩) ?_ ?_
                    rotate_left
                    ·
                     intro w'
                     go_simp
                     with_reducible rfl
                    rotate_left
                    · simp only [Act.put, setIfInBounds_toArray, set_cons_zero, set_cons_succ, i64_w, i32_w]; rfl
                    refine take_ (i := 0) (N := some 221) (v := ?_) (a' := ?_) (zb 28 75) rfl rfl (take_ofW HT_.out HW_.out (by kernel_rfl)) (fun _ _ _ h => h) (Or.inl ⟨by rfl, ?_⟩) hHeld ?_ ?_
                    rotate_left
                    ·
                     rintro w' ⟨s0, s1, s2, s3, s4, s5, s6⟩
                     go_simp
                     with_reducible rfl
                    rotate_left
                    · simp only [Act.put, setIfInBounds_toArray, set_cons_zero, set_cons_succ, i64_w, i32_w]; rfl
                    refine take_ (i := 2) (N := some 223) (v := ?_) (a' := ?_) (zb 28 79) rfl rfl (take_ofW HT_.out HW_.out (by kernel_rfl)) (fun _ _ _ h => h) (Or.inl ⟨by rfl, ?_⟩) hHeld ?_ ?_
                    rotate_left
                    ·
                     rintro w' ⟨s0, s1, s2, s3, s4, s5, s6⟩
                     go_simp
                     with_reducible rfl
                    rotate_left
                    · simp only [Act.put, setIfInBounds_toArray, set_cons_zero, set_cons_succ, i64_w, i32_w]; rfl
                    refine take_ (i := 4) (N := some 225) (v := ?_) (a' := ?_) (zb 28 95) rfl rfl (take_ofW HT_.out HW_.out (by kernel_rfl)) (fun _ _ _ h => h) (Or.inl ⟨by rfl, ?_⟩) hHeld ?_ ?_
                    rotate_left
                    ·
                     rintro w' ⟨s0, s1, s2, s3, s4, s5, s6⟩
                     go_simp
                     with_reducible rfl
                    rotate_left
                    · simp only [Act.put, setIfInBounds_toArray, set_cons_zero, set_cons_succ, i64_w, i32_w]; rfl
                    refine pure_ (i := 5) (N := some 226) (v := ?_) (a' := ?_) (zb 28 127) rfl rfl (any_of HT_.out (by kernel_rfl)) (fun _ _ _ h => h) (Or.inl ⟨by rfl, ?_⟩) ?_ ?_
                    rotate_left
                    ·
                     intro w'
                     go_simp
                     with_reducible rfl
                    rotate_left
                    · simp only [Act.put, setIfInBounds_toArray, set_cons_zero, set_cons_succ, i64_w, i32_w]; rfl
                    refine one_ (i := 7) (N := some 228) (zb 28 255) rfl rfl (one_of HT_.out (by kernel_rfl)) (by decide) (fun K hK => ?_)
                    refine goesC_ #[.pointer (some ⟨gb155, 0, none⟩)] (by rfl) Try.func43 (by kernel_rfl) rfl #[.int .i64 (wrap64 (((rd_T47 t174 x216_4).f1) - ((rd_T47 t174 x216_4).f0))), .int .i64 (wrap64 (t150 + (Int.tmod (wrap64 (a3)) (wrap64 ((wrap64 (t151 - t150)) + 1)))))] (by rfl) rfl rfl zqE ?_
                    with_reducible refine (days_hole.callsC (wrap64 (((rd_T47 t174 x216_4).f1) - ((rd_T47 t174 x216_4).f0))) (wrap64 (t150 + (Int.tmod (wrap64 (a3)) (wrap64 ((wrap64 (t151 - t150)) + 1))))) t150 t151 t152 t153 t154 true gb155 _ (zqB BK155.out) A191.out).mono ?_
                    rintro e w230 ⟨rfl, hb⟩
                    refine ⟨_, rfl, ?_⟩
                    have n0_ := zA (Kd.R_below (zqC HO_21.out) hb); have n1_ := zA (Kd.R_below (zqC HO_214.out) hb); have n2_ := zA (blk_below (g := gb149) (o := .cells #[.int .u8 a0_0, .int .u8 a0_1, .int .u8 a0_2, .int .u8 a0_3, .int .u8 a0_4] 86 (0, 0)) (zqB BK149.out) hb); have n3_ := zA (blk_below (g := gb155) (o := .cells #[.int .i64 t150, .int .i64 t151, .int .i64 t152, .int .i64 t153, .int .i64 t154] 57 (0, 0)) (zqB BK155.out) hb); have n4_ := zA (blk_below (g := gb161) (o := .cells #[.int .i64 t156, .int .i64 t157] 55 (0, 0)) (zqB BK161.out) hb); have n5_ := zA (blk_below (g := gb162) (o := .cells #[.int .i64 t158, .int .i64 t159] 55 (0, 0)) (zqB BK162.out) hb); have n6_ := zA (blk_below (g := gb173) (o := .cells #[.int .i64 (wrap64 (a1)), .int .i64 (wrap64 ((wrap64 ((wrap64 (a1)) + 1)) + (Int.tmod (wrap64 (a2)) 60)))] 47 (0, 0)) (zqB BK173.out) hb); have n7_ := zA (blk_below (g := gb184) (o := .cells #[.int .i64 ((rd_T47 t174 x216_4).f0), .int .i64 ((rd_T47 t174 x216_4).f1)] 47 (0, 0)) (zqB BK184.out) hb)
                    have n8_ := zA (below_step (by repeat (first | (with_reducible first | exact HB.out | apply below_alloc | apply pw_below_drewN | apply below_drew1 | refine below_set ?_ GE149.out | refine below_set ?_ GE155.out | refine below_set ?_ GE161.out | refine below_set ?_ GE162.out | refine below_set ?_ GE173.out | refine below_set ?_ GE184.out) | exact HB.out)) hb)
                    clear HO_21 HO_214 BK149 BK155 BK161 BK162 BK173 BK184 HB; have HO_21 := n0_; have HO_214 := n1_; have BK149 := n2_; have BK155 := n3_; have BK161 := n4_; have BK162 := n5_; have BK173 := n6_; have BK184 := n7_; have HB := n8_; clear n0_ n1_ n2_ n3_ n4_ n5_ n6_ n7_ n8_
                    (try clear hb); (try clear hb2); (try clear hk); (try clear hi)
                    refine hK.out _ _ ⟨(blk_cell BK155.out 0).trans rfl, (blk_cell BK155.out 1).trans rfl, (blk_cell BK155.out 2).trans rfl, (blk_cell BK155.out 3).trans rfl, (blk_cell BK155.out 4).trans rfl, (blk_cell BK184.out 0).trans rfl, (blk_cell BK184.out 1).trans rfl⟩ (fun hHeld => ?_)
                    clear hK K; refine norm_ (a' := ?_) ?_ ?_; rotate_left
                    · show Act.put _ (some 228) _ = _; simp only [Act.put, setIfInBounds_toArray, set_cons_zero, set_cons_succ, i64_w, i32_w]; rfl
                    refine pure_ (i := 8) (N := some 229) (v := ?_) (a' := ?_) (zb 28 511) rfl rfl (any_of HT_.out (by kernel_rfl)) (fun _ _ _ h => h) (Or.inl ⟨by rfl, ?_⟩) ?_ ?_
                    rotate_left
                    ·
                     intro w'
                     go_simp
                     with_reducible rfl
                    rotate_left
                    · simp only [Act.put, setIfInBounds_toArray, set_cons_zero, set_cons_succ, i64_w, i32_w]; rfl
                    refine pure_ (i := 9) (N := some 230) (v := ?_) (a' := ?_) (zb 28 1023) rfl rfl (any_of HT_.out (by kernel_rfl)) (fun _ _ _ h => h) (Or.inl ⟨by rfl, ?_⟩) ?_ ?_
                    rotate_left
                    ·
                     intro w'
                     go_simp
                     with_reducible rfl
                    rotate_left
                    · simp only [Act.put, setIfInBounds_toArray, set_cons_zero, set_cons_succ, i64_w, i32_w]; rfl
                    refine pure_ (i := 10) (N := some 231) (v := ?_) (a' := ?_) (zb 28 2047) rfl rfl (any_of HT_.out (by kernel_rfl)) (fun _ _ _ h => h) (Or.inl ⟨by rfl, ?_⟩) ?_ ?_
                    rotate_left
                    ·
                     intro w'
                     go_simp
                     with_reducible rfl
                    rotate_left
                    · simp only [Act.put, setIfInBounds_toArray, set_cons_zero, set_cons_succ, i64_w, i32_w]; rfl
                    refine pure_ (i := 11) (N := some 232) (v := ?_) (a' := ?_) (zb 28 4095) rfl rfl (any_of HT_.out (by kernel_rfl)) (fun _ _ _ h => h) (Or.inl ⟨by rfl, ?_⟩) ?_ ?_
                    rotate_left
                    ·
                     intro w'
                     go_simp
                     with_reducible rfl
                    rotate_left
                    · simp only [Act.put, setIfInBounds_toArray, set_cons_zero, set_cons_succ, i64_w, i32_w]; rfl
                    refine pure_ (i := 12) (N := some 233) (v := ?_) (a' := ?_) (zb 28 8191) rfl rfl (any_of HT_.out (by kernel_rfl)) (fun _ _ _ h => h) (Or.inl ⟨by rfl, ?_⟩) ?_ ?_
                    rotate_left
                    ·
                     intro w'
                     go_simp
                     with_reducible rfl
                    rotate_left
                    · simp only [Act.put, setIfInBounds_toArray, set_cons_zero, set_cons_succ, i64_w, i32_w]; rfl
                    refine pure_ (i := 13) (N := some 234) (v := undef) (a' := ?_) (zb 28 16383) rfl rfl (any_of HT_.out (by kernel_rfl)) (fun _ _ _ h => h) (Or.inr ⟨by rfl, rfl⟩) ?_ ?_
                    rotate_left
                    · simp only [Act.put, setIfInBounds_toArray, set_cons_zero, set_cons_succ, i64_w, i32_w]; rfl
                    refine pure_ (i := 14) (N := some 235) (v := undef) (a' := ?_) (zb 28 32767) rfl rfl (any_of HT_.out (by kernel_rfl)) (fun _ _ _ h => h) (Or.inr ⟨by rfl, rfl⟩) ?_ ?_
                    rotate_left
                    · simp only [Act.put, setIfInBounds_toArray, set_cons_zero, set_cons_succ, i64_w, i32_w]; rfl
                    refine pure_ (i := 15) (N := some 236) (v := undef) (a' := ?_) (zb 28 65535) rfl rfl (any_of HT_.out (by kernel_rfl)) (fun _ _ _ h => h) (Or.inr ⟨by rfl, rfl⟩) ?_ ?_
                    rotate_left
                    · simp only [Act.put, setIfInBounds_toArray, set_cons_zero, set_cons_succ, i64_w, i32_w]; rfl
                    refine pure_ (i := 16) (N := some 237) (v := undef) (a' := ?_) (zb 28 131071) rfl rfl (any_of HT_.out (by kernel_rfl)) (fun _ _ _ h => h) (Or.inr ⟨by rfl, rfl⟩) ?_ ?_
                    rotate_left
                    · simp only [Act.put, setIfInBounds_toArray, set_cons_zero, set_cons_succ, i64_w, i32_w]; rfl
                    refine pure_ (i := 17) (N := some 238) (v := undef) (a' := ?_) (zb 28 262143) rfl rfl (any_of HT_.out (by kernel_rfl)) (fun _ _ _ h => h) (Or.inr ⟨by rfl, rfl⟩) ?_ ?_
                    rotate_left
                    · simp only [Act.put, setIfInBounds_toArray, set_cons_zero, set_cons_succ, i64_w, i32_w]; rfl
                    refine pure_ (i := 18) (N := some 239) (v := undef) (a' := ?_) (zb 28 524287) rfl rfl (any_of HT_.out (by kernel_rfl)) (fun _ _ _ h => h) (Or.inr ⟨by rfl, rfl⟩) ?_ ?_
                    rotate_left
                    · simp only [Act.put, setIfInBounds_toArray, set_cons_zero, set_cons_succ, i64_w, i32_w]; rfl
                    refine pure_ (i := 19) (N := some 240) (v := undef) (a' := ?_) (zb 28 1048575) rfl rfl (any_of HT_.out (by kernel_rfl)) (fun _ _ _ h => h) (Or.inr ⟨by rfl, rfl⟩) ?_ ?_
                    rotate_left
                    · simp only [Act.put, setIfInBounds_toArray, set_cons_zero, set_cons_succ, i64_w, i32_w]; rfl
                    refine pure_ (i := 20) (N := some 241) (v := undef) (a' := ?_) (zb 28 2097151) rfl rfl (any_of HT_.out (by kernel_rfl)) (fun _ _ _ h => h) (Or.inr ⟨by rfl, rfl⟩) ?_ ?_
                    rotate_left
                    · simp only [Act.put, setIfInBounds_toArray, set_cons_zero, set_cons_succ, i64_w, i32_w]; rfl
                    refine pure_ (i := 21) (N := some 242) (v := undef) (a' := ?_) (zb 28 4194303) rfl rfl (any_of HT_.out (by kernel_rfl)) (fun _ _ _ h => h) (Or.inr ⟨by rfl, rfl⟩) ?_ ?_
                    rotate_left
                    · simp only [Act.put, setIfInBounds_toArray, set_cons_zero, set_cons_succ, i64_w, i32_w]; rfl
                    refine pure_ (i := 22) (N := some 243) (v := undef) (a' := ?_) (zb 28 8388607) rfl rfl (any_of HT_.out (by kernel_rfl)) (fun _ _ _ h => h) (Or.inr ⟨by rfl, rfl⟩) ?_ ?_
                    rotate_left
                    · simp only [Act.put, setIfInBounds_toArray, set_cons_zero, set_cons_succ, i64_w, i32_w]; rfl
                    refine pure_ (i := 23) (N := some 244) (v := undef) (a' := ?_) (zb 28 16777215) rfl rfl (any_of HT_.out (by kernel_rfl)) (fun _ _ _ h => h) (Or.inr ⟨by rfl, rfl⟩) ?_ ?_
                    rotate_left
                    · simp only [Act.put, setIfInBounds_toArray, set_cons_zero, set_cons_succ, i64_w, i32_w]; rfl
                    refine pure_ (i := 24) (N := some 245) (v := undef) (a' := ?_) (zb 28 33554431) rfl rfl (any_of HT_.out (by kernel_rfl)) (fun _ _ _ h => h) (Or.inr ⟨by rfl, rfl⟩) ?_ ?_
                    rotate_left
                    · simp only [Act.put, setIfInBounds_toArray, set_cons_zero, set_cons_succ, i64_w, i32_w]; rfl
                    refine pure_ (i := 25) (N := some 246) (v := undef) (a' := ?_) (zb 28 67108863) rfl rfl (any_of HT_.out (by kernel_rfl)) (fun _ _ _ h => h) (Or.inr ⟨by rfl, rfl⟩) ?_ ?_
                    rotate_left
                    · simp only [Act.put, setIfInBounds_toArray, set_cons_zero, set_cons_succ, i64_w, i32_w]; rfl
                    refine pure_ (i := 26) (N := some 247) (v := ?_) (a' := ?_) (zb 28 134217727) rfl rfl (any_of HT_.out (by kernel_rfl)) (fun _ _ _ h => h) (Or.inl ⟨by rfl, ?_⟩) ?_ ?_
                    rotate_left
                    ·
                     intro w'
                     go_simp
                     with_reducible rfl
                    rotate_left
                    · simp only [Act.put, setIfInBounds_toArray, set_cons_zero, set_cons_succ, i64_w, i32_w]; rfl
                    refine pure_ (i := 27) (N := some 248) (v := ?_) (a' := ?_) (zb 28 268435455) rfl rfl (any_of HT_.out (by kernel_rfl)) (fun _ _ _ h => h) (Or.inl ⟨by rfl, ?_⟩) ?_ ?_
                    rotate_left
                    ·
                     intro w'
                     go_simp
                     with_reducible rfl
                    rotate_left
                    · simp only [Act.put, setIfInBounds_toArray, set_cons_zero, set_cons_succ, i64_w, i32_w]; rfl
                    refine done_ (done_of HT_.out (by kernel_rfl)) ?_
                    try go_wp2
                    go_roundg k4
                    case measure => have := HK1.out; have := HJ146.out; have := HJ167.out; have := HK4.out; omega
                    case rel => exact ⟨(wrap64 (x216_4 + 1)), zqQ, H', ⟨by have := HK1.out; have := HJ146.out; have := HJ167.out; have := HK4.out; omega⟩, ⟨by (with_reducible repeat (first | apply Kd.R_alloc | apply Kd.R_drewN | apply Kd.R_drew)); exact Kd.R_mono HO_21.out (fun _ hk => hk.1)⟩, ⟨by (with_reducible repeat (first | apply Kd.R_alloc | apply Kd.R_drewN | apply Kd.R_drew)); exact Kd.R_mono HO_214.out (fun _ hk => hk.1)⟩, ⟨zqB BK149.out⟩, ⟨zqB BK155.out⟩, ⟨zqB BK161.out⟩, ⟨zqB BK162.out⟩, ⟨zqB BK173.out⟩, ⟨by repeat (first | (with_reducible first | exact HB.out | apply below_alloc | apply pw_below_drewN | apply below_drew1 | refine below_set ?_ GE149.out | refine below_set ?_ GE155.out | refine below_set ?_ GE161.out | refine below_set ?_ GE162.out | refine below_set ?_ GE173.out | refine below_set ?_ GE184.out) | exact HB.out)⟩⟩
                  ·
                   replace c192 := Bool.eq_false_iff.mpr c192
                   subst c192
                   have H1 : (some false) = some r := by rw [if_neg (show ¬ (false = true) by decide)] at H; exact H
                   clear H; have H := H1; clear H1
                   exact absurd ((Option.some.inj H).trans HRT.out) (by decide)
                 ·
                  rw [if_neg c190] at H
                  exact absurd H (by simp)
                ·
                 rw [if_neg c189] at H
                 exact absurd H (by simp)
               ·
                rw [if_neg c188] at H
                have c188b0 : decide (x216_4 < (t174.length : Int)) = false := decide_eq_false c188
                clear c188
                replace H := Option.bind_eq_some_iff.mp H
                obtain ⟨t182, A2410, H⟩ := H
                replace H : (some t182) = some r := H
                have A241 := zA A2410
                clear A2410
                obtain rfl := Option.some.inj H
                go_wp2_with (first | ((with_reducible refine gate_callee (f := 15) rfl ?_); refine goesL_ (some 250) rfl rfl Try.func15 (by kernel_rfl) rfl #[] rfl zqE ?_; (with_reducible refine (pianolalaw03_works.calls  t182 _ A241.out).mono ?_); rintro e w242 ⟨rfl, hb⟩; refine ⟨_, rfl, ?_⟩; have n0_ := zA (Kd.R_below (zqC HO_21.out) hb); have n1_ := zA (Kd.R_below (zqC HO_214.out) hb); have n2_ := zA (blk_below (g := gb149) (o := .cells #[.int .u8 a0_0, .int .u8 a0_1, .int .u8 a0_2, .int .u8 a0_3, .int .u8 a0_4] 86 (0, 0)) (zqB BK149.out) hb); have n3_ := zA (blk_below (g := gb155) (o := .cells #[.int .i64 t150, .int .i64 t151, .int .i64 t152, .int .i64 t153, .int .i64 t154] 57 (0, 0)) (zqB BK155.out) hb); have n4_ := zA (blk_below (g := gb161) (o := .cells #[.int .i64 t156, .int .i64 t157] 55 (0, 0)) (zqB BK161.out) hb); have n5_ := zA (blk_below (g := gb162) (o := .cells #[.int .i64 t158, .int .i64 t159] 55 (0, 0)) (zqB BK162.out) hb); have n6_ := zA (blk_below (g := gb173) (o := .cells #[.int .i64 (wrap64 (a1)), .int .i64 (wrap64 ((wrap64 ((wrap64 (a1)) + 1)) + (Int.tmod (wrap64 (a2)) 60)))] 47 (0, 0)) (zqB BK173.out) hb); have n7_ := zA (below_step (by repeat (first | (with_reducible first | exact HB.out | apply below_alloc | apply pw_below_drewN | apply below_drew1 | refine below_set ?_ GE149.out | refine below_set ?_ GE155.out | refine below_set ?_ GE161.out | refine below_set ?_ GE162.out | refine below_set ?_ GE173.out) | exact HB.out)) hb); clear HO_21; clear HO_214; clear BK149; clear BK155; clear BK161; clear BK162; clear BK173; clear HB; have HO_21 := n0_; have HO_214 := n1_; have BK149 := n2_; have BK155 := n3_; have BK161 := n4_; have BK162 := n5_; have BK173 := n6_; have HB := n7_; clear n0_ n1_ n2_ n3_ n4_ n5_ n6_ n7_; (try clear hb); (try clear hb2); (try clear hk); (try clear hi)))
                go_ret
                exact ⟨zqR, by repeat (first | (with_reducible first | exact HB.out | apply below_alloc | apply pw_below_drewN | apply below_drew1 | refine below_set ?_ GE149.out | refine below_set ?_ GE155.out | refine below_set ?_ GE161.out | refine below_set ?_ GE162.out | refine below_set ?_ GE173.out) | exact HB.out)⟩
     ·
      replace c145 := Bool.eq_false_iff.mpr c145
      subst c145
      have H1 : (if t160 = 20 then ((pianolalaw03_works.f).bind fun t172 => (some t172)) else (some false)) = some r := by rw [if_neg (show ¬ (false = true) by decide)] at H; exact H
      clear H; have H := H1; clear H1
      by_cases c243 : t160 = 20
      ·
       rw [if_pos c243] at H
       have c243b0 : (t160 == 20) = true := beq_iff_eq.mpr c243
       have c243b1 : (t160 != 20) = false := bne_eq_false_iff_eq.mpr c243
       clear c243
       replace H := Option.bind_eq_some_iff.mp H
       obtain ⟨t172, A2440, H⟩ := H
       replace H : (some t172) = some r := H
       have A244 := zA A2440
       clear A2440
       obtain rfl := Option.some.inj H
       go_wp2_with (first | (go_at_call 15; (with_reducible refine (pianolalaw03_works.calls  t172 _ A244.out).mono ?_); rintro e w245 ⟨rfl, hb⟩; have n0_ := zA (blk_below (g := gb149) (o := .cells #[.int .u8 a0_0, .int .u8 a0_1, .int .u8 a0_2, .int .u8 a0_3, .int .u8 a0_4] 86 (0, 0)) (zqB BK149.out) hb); have n1_ := zA (blk_below (g := gb155) (o := .cells #[.int .i64 t150, .int .i64 t151, .int .i64 t152, .int .i64 t153, .int .i64 t154] 57 (0, 0)) (zqB BK155.out) hb); have n2_ := zA (blk_below (g := gb161) (o := .cells #[.int .i64 t156, .int .i64 t157] 55 (0, 0)) (zqB BK161.out) hb); have n3_ := zA (blk_below (g := gb162) (o := .cells #[.int .i64 t158, .int .i64 t159] 55 (0, 0)) (zqB BK162.out) hb); have n4_ := zA (below_step (zqJ HB.out GE149.out GE155.out GE161.out GE162.out) hb); clear BK149; clear BK155; clear BK161; clear BK162; clear HB; have BK149 := n0_; have BK155 := n1_; have BK161 := n2_; have BK162 := n3_; have HB := n4_; clear n0_ n1_ n2_ n3_ n4_; (try clear hb); (try clear hb2); (try clear hk); (try clear hi)))
       go_ret
       exact ⟨zqR, zqJ HB.out GE149.out GE155.out GE161.out GE162.out⟩
      ·
       rw [if_neg c243] at H
       exact absurd ((Option.some.inj H).trans HRT.out) (by decide)end Go.Proofs.Ytegffliopblajaa.P
end
end
