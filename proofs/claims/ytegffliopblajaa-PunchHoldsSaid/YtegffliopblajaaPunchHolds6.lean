/- Words and contracts for a claim. -/
import Derived.Test.YtegffliopblajaaPunchHolds5

section
namespace Go.Proofs.Ytegffliopblajaa.P
open Go.RowKit Go.Proofs.YtegffliopblajaaW.PrintWords Go.Proofs.YtegffliopblajaaW.PrintLast Go.Proofs.YtegffliopblajaaW.PrintMore
attribute [local go_sem] max2_int min2_int max_two min_two max_three min_three max_four min_four
set_option linter.unusedVariables false
set_option linter.unusedSimpArgs false
def pianolalaw03_PunchHolds.f (k : Nat) (a0_0 : Int) (a0_1 : Int) (a0_2 : Int) (a0_3 : Int) (a0_4 : Int) (a1_0 : Int) (a1_1 : Int) (l2 : List (S47)) : Option (Bool) := if (l2.length : Int) > 400 then ((pianolalaw03_works.f).bind fun t374 => (some t374)) else ((punch_Holds.f k a0_0 a0_1 a0_2 a0_3 a0_4 a1_0 a1_1 l2).bind fun t375 => ((pianolalaw03_holes.f k l2).bind fun t376 => ((pianolaref03_Holds.f k a0_0 a0_1 a0_2 a0_3 a0_4 a1_0 a1_1 t376).bind fun t379 => (if t375 = t379 then ((pianolalaw03_works.f).bind fun t380 => (some t380)) else (some false)))))
def pianolalaw03_PunchHolds.T3 : Bool × List (List Nat × List Nat) := (true, [([], []), ([], []), ([], []), ([0, 1, 2], [0, 1, 2]), ([], []), ([], []), ([], []), ([6, 3], [6]), ([4, 5, 7, 7], [4, 5, 7]), ([3, 8], [3, 8]), ([9, 8], [9]), ([10, 10], [10]), ([10, 11], [10, 11]), ([12, 11, 0, 1, 2, 3, 4, 5, 6, 7, 8, 9, 10, 11, 12], [12])])
def pianolalaw03_PunchHolds.B3 : List Nat := [0, 0, 0, 7, 0, 0, 0, 79, 255, 511, 1023, 2047, 4095, 8191]
theorem pianolalaw03_PunchHolds.tab3 : rtab .any (opsOf Try.f7 3) = pianolalaw03_PunchHolds.T3 := by kernel_rfl
theorem pianolalaw03_PunchHolds.bits3 : waitsOk pianolalaw03_PunchHolds.T3.2 pianolalaw03_PunchHolds.B3 = true := by kernel_rfl
set_option maxHeartbeats 8000000 in
set_option maxRecDepth 100000 in
theorem pianolalaw03_PunchHolds.calls (k : Nat) (a0_0 : Int) (a0_1 : Int) (a0_2 : Int) (a0_3 : Int) (a0_4 : Int) (a1_0 : Int) (a1_1 : Int) (A2 : Option Addr) (c2 : Nat) (l2 : List (S47)) (r : Bool) (hrt : r = true) (w : World) (hr2 : Kd.C k47 w A2 l2.length l2) (hc2 : l2.length ≤ c2) (h : pianolalaw03_PunchHolds.f k a0_0 a0_1 a0_2 a0_3 a0_4 a1_0 a1_1 l2 = some r) :
  Calls Try.prog 7 #[.agg #[.int .i64 a0_0, .int .i64 a0_1, .int .i64 a0_2, .int .i64 a0_3, .int .i64 a0_4], .agg #[.int .i64 a1_0, .int .i64 a1_1], .slice A2 l2.length c2] w fun e w' => e = .returned (.bool r) ∧ Below w.heap.size w w' := by
 have HRT := zA hrt
 clear hrt
 have hu57 := Try.underlying57
 have hu47 := Try.underlying47
 have HR2 := zA hr2
 have HC2 := zA hc2
 clear hr2 hc2
 have HB := zA (Below.refl w.heap.size w)
 have H : (if (l2.length : Int) > 400 then ((pianolalaw03_works.f).bind fun t374 => (some t374)) else ((punch_Holds.f k a0_0 a0_1 a0_2 a0_3 a0_4 a1_0 a1_1 l2).bind fun t375 => ((pianolalaw03_holes.f k l2).bind fun t376 => ((pianolaref03_Holds.f k a0_0 a0_1 a0_2 a0_3 a0_4 a1_0 a1_1 t376).bind fun t379 => (if t375 = t379 then ((pianolalaw03_works.f).bind fun t380 => (some t380)) else (some false)))))) = some r := h
 clear h
 by_cases c4 : (l2.length : Int) > 400
 ·
  rw [if_pos c4] at H
  have c4b0 : decide (400 < (l2.length : Int)) = true := decide_eq_true c4
  have c4b1 : decide (400 < l2.length) = true := decide_eq_true (by omega)
  clear c4
  replace H := Option.bind_eq_some_iff.mp H
  obtain ⟨t374, A50, H⟩ := H
  replace H : (some t374) = some r := H
  have A5 := zA A50
  clear A50
  obtain rfl := Option.some.inj H
  go_enter Try.func7, Try.ntmps7
  go_wp2_with (first | ((with_reducible refine gate_dst (N := 3) rfl ?_); refine box_event ?hg (N := 3) ?hd (cs := #[.int .i64 a0_0, .int .i64 a0_1, .int .i64 a0_2, .int .i64 a0_3, .int .i64 a0_4]) (t := 57) ?hr ?_; (case hd => rfl); (case hg => rfl); (case hr => first | (go_simp; done) | (go_simp; rfl)); intro gb372 hg w6 hbox hb; have n0_ := zA (below_step (zqA HB.out) hb); have n1_ := zA (hbox); have n2_ := zA ((by rw [hg]; exact (below_size (zqA HB.out)) : w.heap.size ≤ gb372)); have n3_ := zA ((by rw [hg]; exact (below_size (zqA HB.out)) : w.heap.size ≤ gb372)); clear HB; have HB := n0_; have BK372 := n1_; have GW372 := n2_; have GE372 := n3_; clear n0_ n1_ n2_ n3_; clear hb hbox hg) | ((with_reducible refine gate_dst (N := 4) rfl ?_); refine box_event ?hg (N := 4) ?hd (cs := #[.int .i64 a1_0, .int .i64 a1_1]) (t := 47) ?hr ?_; (case hd => rfl); (case hg => rfl); (case hr => first | (go_simp; done) | (go_simp; rfl)); intro gb373 hg w7 hbox hb; have n0_ := zA (blk_below (g := gb372) (o := .cells #[.int .i64 a0_0, .int .i64 a0_1, .int .i64 a0_2, .int .i64 a0_3, .int .i64 a0_4] 57 (0, 0)) (zqB BK372.out) hb); have n1_ := zA (below_step (zqG HB.out GE372.out) hb); have n2_ := zA (hbox); have n3_ := zA ((by rw [hg]; exact (below_size (zqG HB.out GE372.out)) : w.heap.size ≤ gb373)); have n4_ := zA ((by rw [hg]; exact (below_size (zqG HB.out GE372.out)) : w.heap.size ≤ gb373)); have n5_ := zA ((by rw [hg]; exact Nat.ne_of_lt (blk_lt (g := gb372) (o := .cells #[.int .i64 a0_0, .int .i64 a0_1, .int .i64 a0_2, .int .i64 a0_3, .int .i64 a0_4] 57 (0, 0)) (zqB BK372.out)) : gb372 ≠ gb373)); have n6_ := zA ((by rw [hg]; exact Nat.ne_of_gt (blk_lt (g := gb372) (o := .cells #[.int .i64 a0_0, .int .i64 a0_1, .int .i64 a0_2, .int .i64 a0_3, .int .i64 a0_4] 57 (0, 0)) (zqB BK372.out)) : gb373 ≠ gb372)); clear BK372; clear HB; have BK372 := n0_; have HB := n1_; have BK373 := n2_; have GW373 := n3_; have GE373 := n4_; have NB372_373 := n5_; have NB373_372 := n6_; clear n0_ n1_ n2_ n3_ n4_ n5_ n6_; clear hb hbox hg) | ((with_reducible refine gate_callee (f := 15) rfl ?_); refine goesL_ (some 10) rfl rfl Try.func15 (by kernel_rfl) rfl #[] rfl zqE ?_; (with_reducible refine (pianolalaw03_works.calls  t374 _ A5.out).mono ?_); rintro e w8 ⟨rfl, hb⟩; refine ⟨_, rfl, ?_⟩; have n0_ := zA (blk_below (g := gb372) (o := .cells #[.int .i64 a0_0, .int .i64 a0_1, .int .i64 a0_2, .int .i64 a0_3, .int .i64 a0_4] 57 (0, 0)) (zqB BK372.out) hb); have n1_ := zA (blk_below (g := gb373) (o := .cells #[.int .i64 a1_0, .int .i64 a1_1] 47 (0, 0)) (zqB BK373.out) hb); have n2_ := zA (below_step (zqH HB.out GE372.out GE373.out) hb); clear BK372; clear BK373; clear HB; have BK372 := n0_; have BK373 := n1_; have HB := n2_; clear n0_ n1_ n2_; (try clear hb); (try clear hb2); (try clear hk); (try clear hi)))
  go_ret
  exact ⟨zqR, zqH HB.out GE372.out GE373.out⟩
 ·
  rw [if_neg c4] at H
  have c4b0 : decide (400 < (l2.length : Int)) = false := decide_eq_false c4
  have c4b1 : decide (400 < l2.length) = false := decide_eq_false (by omega)
  clear c4
  replace H := Option.bind_eq_some_iff.mp H
  obtain ⟨t375, A90, H⟩ := H
  replace H : ((pianolalaw03_holes.f k l2).bind fun t376 => ((pianolaref03_Holds.f k a0_0 a0_1 a0_2 a0_3 a0_4 a1_0 a1_1 t376).bind fun t379 => (if t375 = t379 then ((pianolalaw03_works.f).bind fun t380 => (some t380)) else (some false)))) = some r := H
  have A9 := zA A90
  clear A90
  replace H := Option.bind_eq_some_iff.mp H
  obtain ⟨t376, A100, H⟩ := H
  replace H : ((pianolaref03_Holds.f k a0_0 a0_1 a0_2 a0_3 a0_4 a1_0 a1_1 t376).bind fun t379 => (if t375 = t379 then ((pianolalaw03_works.f).bind fun t380 => (some t380)) else (some false))) = some r := H
  have A10 := zA A100
  clear A100
  replace H := Option.bind_eq_some_iff.mp H
  obtain ⟨t379, A110, H⟩ := H
  replace H : (if t375 = t379 then ((pianolalaw03_works.f).bind fun t380 => (some t380)) else (some false)) = some r := H
  have A11 := zA A110
  clear A110
  by_cases c12 : t375 = t379
  ·
   rw [if_pos c12] at H
   have c12b0 : (t375 == t379) = true := beq_iff_eq.mpr c12
   have c12b1 : (t375 != t379) = false := bne_eq_false_iff_eq.mpr c12
   clear c12
   replace H := Option.bind_eq_some_iff.mp H
   obtain ⟨t380, A130, H⟩ := H
   replace H : (some t380) = some r := H
   have A13 := zA A130
   clear A130
   obtain rfl := Option.some.inj H
   go_enter Try.func7, Try.ntmps7
   try go_wp2_with (first | ((with_reducible refine gate_dst (N := 3) rfl ?_); refine box_event ?hg (N := 3) ?hd (cs := #[.int .i64 a0_0, .int .i64 a0_1, .int .i64 a0_2, .int .i64 a0_3, .int .i64 a0_4]) (t := 57) ?hr ?_; (case hd => rfl); (case hg => rfl); (case hr => first | (go_simp; done) | (go_simp; rfl)); intro gb372 hg w14 hbox hb; have n0_ := zA (below_step (zqA HB.out) hb); have n1_ := zA (hbox); have n2_ := zA ((by rw [hg]; exact (below_size (zqA HB.out)) : w.heap.size ≤ gb372)); have n3_ := zA ((by rw [hg]; exact (below_size (zqA HB.out)) : w.heap.size ≤ gb372)); clear HB; have HB := n0_; have BK372 := n1_; have GW372 := n2_; have GE372 := n3_; clear n0_ n1_ n2_ n3_; clear hb hbox hg) | ((with_reducible refine gate_dst (N := 4) rfl ?_); refine box_event ?hg (N := 4) ?hd (cs := #[.int .i64 a1_0, .int .i64 a1_1]) (t := 47) ?hr ?_; (case hd => rfl); (case hg => rfl); (case hr => first | (go_simp; done) | (go_simp; rfl)); intro gb373 hg w15 hbox hb; have n0_ := zA (blk_below (g := gb372) (o := .cells #[.int .i64 a0_0, .int .i64 a0_1, .int .i64 a0_2, .int .i64 a0_3, .int .i64 a0_4] 57 (0, 0)) (zqB BK372.out) hb); have n1_ := zA (below_step (zqG HB.out GE372.out) hb); have n2_ := zA (hbox); have n3_ := zA ((by rw [hg]; exact (below_size (zqG HB.out GE372.out)) : w.heap.size ≤ gb373)); have n4_ := zA ((by rw [hg]; exact (below_size (zqG HB.out GE372.out)) : w.heap.size ≤ gb373)); have n5_ := zA ((by rw [hg]; exact Nat.ne_of_lt (blk_lt (g := gb372) (o := .cells #[.int .i64 a0_0, .int .i64 a0_1, .int .i64 a0_2, .int .i64 a0_3, .int .i64 a0_4] 57 (0, 0)) (zqB BK372.out)) : gb372 ≠ gb373)); have n6_ := zA ((by rw [hg]; exact Nat.ne_of_gt (blk_lt (g := gb372) (o := .cells #[.int .i64 a0_0, .int .i64 a0_1, .int .i64 a0_2, .int .i64 a0_3, .int .i64 a0_4] 57 (0, 0)) (zqB BK372.out)) : gb373 ≠ gb372)); clear BK372; clear HB; have BK372 := n0_; have HB := n1_; have BK373 := n2_; have GW373 := n3_; have GE373 := n4_; have NB372_373 := n5_; have NB373_372 := n6_; clear n0_ n1_ n2_ n3_ n4_ n5_ n6_; clear hb hbox hg))
   have n0_ := zA (blk_drew BK372.out); have n1_ := zA (blk_drew BK373.out); have n2_ := zA (below_drew1 HB.out); clear BK372 BK373 HB; have BK372 := n0_; have BK373 := n1_; have HB := n2_; clear n0_ n1_ n2_
   refine start_ (n := 14) (S := fun w' => w'.cell? ⟨gb372, 0, none⟩ = some (.int .i64 a0_0) ∧ w'.cell? ⟨gb372, 1, none⟩ = some (.int .i64 a0_1) ∧ w'.cell? ⟨gb372, 2, none⟩ = some (.int .i64 a0_2) ∧ w'.cell? ⟨gb372, 3, none⟩ = some (.int .i64 a0_3) ∧ w'.cell? ⟨gb372, 4, none⟩ = some (.int .i64 a0_4) ∧ w'.cell? ⟨gb373, 0, none⟩ = some (.int .i64 a1_0) ∧ w'.cell? ⟨gb373, 1, none⟩ = some (.int .i64 a1_1)) (ds := []) #[false, false, false, false, false, false, false, false, false, false, false, false, false, false] (by kernel_rfl) rfl rfl ⟨(blk_cell BK372.out 0).trans rfl, (blk_cell BK372.out 1).trans rfl, (blk_cell BK372.out 2).trans rfl, (blk_cell BK372.out 3).trans rfl, (blk_cell BK372.out 4).trans rfl, (blk_cell BK373.out 0).trans rfl, (blk_cell BK373.out 1).trans rfl⟩ (fun hHeld => ?_); refine with_tabW pianolalaw03_PunchHolds.tab3 pianolalaw03_PunchHolds.bits3 (fun HT_ HW_ => ?_)
   generalize w15.drew = w16 at BK372 BK373 HB hHeld ⊢
   refine pure_ (i := 2) (N := some 13) (v := ?_) (a' := ?_) #[false, false, true, false, false, false, false, false, false, false, false, false, false, false] rfl rfl (any_of HT_.out (by kernel_rfl)) (fun _ _ _ h => h) (Or.inl ⟨by rfl, ?_⟩) ?_ ?_
   rotate_left
   ·
    intro w'
    go_simp
    with_reducible rfl
   rotate_left
   · simp only [Act.put, List.setIfInBounds_toArray, List.set_cons_zero, List.set_cons_succ, i64_w, i32_w]; rfl
   refine pure_ (i := 6) (N := some 17) (v := ?_) (a' := ?_) #[false, false, true, false, false, false, true, false, false, false, false, false, false, false] rfl rfl (any_of HT_.out (by kernel_rfl)) (fun _ _ _ h => h) (Or.inl ⟨by rfl, ?_⟩) ?_ ?_
   rotate_left
   ·
    intro w'
    go_simp
    with_reducible rfl
   rotate_left
   · simp only [Act.put, List.setIfInBounds_toArray, List.set_cons_zero, List.set_cons_succ, i64_w, i32_w]; rfl
   refine take_ (i := 0) (N := some 11) (v := ?_) (a' := ?_) #[true, false, true, false, false, false, true, false, false, false, false, false, false, false] rfl rfl (take_ofW HT_.out HW_.out (by kernel_rfl)) (fun _ _ _ h => h) (Or.inl ⟨by rfl, ?_⟩) hHeld ?_ ?_
   rotate_left
   ·
    rintro w' ⟨s0, s1, s2, s3, s4, s5, s6⟩
    go_simp
    with_reducible rfl
   rotate_left
   · simp only [Act.put, List.setIfInBounds_toArray, List.set_cons_zero, List.set_cons_succ, i64_w, i32_w]; rfl
   refine take_ (i := 1) (N := some 12) (v := ?_) (a' := ?_) #[true, true, true, false, false, false, true, false, false, false, false, false, false, false] rfl rfl (take_ofW HT_.out HW_.out (by kernel_rfl)) (fun _ _ _ h => h) (Or.inl ⟨by rfl, ?_⟩) hHeld ?_ ?_
   rotate_left
   ·
    rintro w' ⟨s0, s1, s2, s3, s4, s5, s6⟩
    go_simp
    with_reducible rfl
   rotate_left
   · simp only [Act.put, List.setIfInBounds_toArray, List.set_cons_zero, List.set_cons_succ, i64_w, i32_w]; rfl
   refine take_ (i := 4) (N := some 15) (v := ?_) (a' := ?_) #[true, true, true, false, true, false, true, false, false, false, false, false, false, false] rfl rfl (take_ofW HT_.out HW_.out (by kernel_rfl)) (fun _ _ _ h => h) (Or.inl ⟨by rfl, ?_⟩) hHeld ?_ ?_
   rotate_left
   ·
    rintro w' ⟨s0, s1, s2, s3, s4, s5, s6⟩
    go_simp
    with_reducible rfl
   rotate_left
   · simp only [Act.put, List.setIfInBounds_toArray, List.set_cons_zero, List.set_cons_succ, i64_w, i32_w]; rfl
   refine take_ (i := 5) (N := some 16) (v := ?_) (a' := ?_) #[true, true, true, false, true, true, true, false, false, false, false, false, false, false] rfl rfl (take_ofW HT_.out HW_.out (by kernel_rfl)) (fun _ _ _ h => h) (Or.inl ⟨by rfl, ?_⟩) hHeld ?_ ?_
   rotate_left
   ·
    rintro w' ⟨s0, s1, s2, s3, s4, s5, s6⟩
    go_simp
    with_reducible rfl
   rotate_left
   · simp only [Act.put, List.setIfInBounds_toArray, List.set_cons_zero, List.set_cons_succ, i64_w, i32_w]; rfl
   refine one_ (i := 3) (N := some 14) #[true, true, true, true, true, true, true, false, false, false, false, false, false, false] rfl rfl (one_of HT_.out (by kernel_rfl)) (by decide) (fun K hK => ?_)
   refine goes_ Try.func35 (by kernel_rfl) rfl #[.agg #[.int .i64 a0_0, .int .i64 a0_1, .int .i64 a0_2, .int .i64 a0_3, .int .i64 a0_4], .agg #[.int .i64 a1_0, .int .i64 a1_1], .slice A2 l2.length c2] (by rfl) rfl rfl zqE ?_
   with_reducible refine (punch_Holds.calls k a0_0 a0_1 a0_2 a0_3 a0_4 a1_0 a1_1 _ _ l2 t375 _ ?side1 ?side2 A9.out).mono ?_
   (case side1 => exact zqK (Kd.C_below HR2.out HB.out))
   (case side2 => exact HC2.out)
   rintro e w17 ⟨rfl, hb⟩
   refine ⟨_, rfl, ?_⟩
   have n0_ := zA (blk_below (g := gb372) (o := .cells #[.int .i64 a0_0, .int .i64 a0_1, .int .i64 a0_2, .int .i64 a0_3, .int .i64 a0_4] 57 (0, 0)) (zqB BK372.out) hb); have n1_ := zA (blk_below (g := gb373) (o := .cells #[.int .i64 a1_0, .int .i64 a1_1] 47 (0, 0)) (zqB BK373.out) hb); have n2_ := zA (below_step (zqH HB.out GE372.out GE373.out) hb); clear BK372 BK373 HB; have BK372 := n0_; have BK373 := n1_; have HB := n2_; clear n0_ n1_ n2_
   (try clear hb); (try clear hb2); (try clear hk); (try clear hi)
   refine hK.out _ _ ⟨(blk_cell BK372.out 0).trans rfl, (blk_cell BK372.out 1).trans rfl, (blk_cell BK372.out 2).trans rfl, (blk_cell BK372.out 3).trans rfl, (blk_cell BK372.out 4).trans rfl, (blk_cell BK373.out 0).trans rfl, (blk_cell BK373.out 1).trans rfl⟩ (fun hHeld => ?_)
   clear hK K; refine norm_ (a' := ?_) ?_ ?_; rotate_left
   · show Act.put _ (some 14) _ = _; simp only [Act.put, List.setIfInBounds_toArray, List.set_cons_zero, List.set_cons_succ, i64_w, i32_w]; rfl
   refine one_ (i := 7) (N := some 18) #[true, true, true, true, true, true, true, true, false, false, false, false, false, false] rfl rfl (one_of HT_.out (by kernel_rfl)) (by decide) (fun K hK => ?_)
   refine goes_ Try.func37 (by kernel_rfl) rfl #[.slice A2 l2.length c2] (by rfl) rfl rfl zqE ?_
   with_reducible refine (pianolalaw03_holes.calls k _ _ l2 t376 _ ?side1 ?side2 A10.out).mono ?_
   (case side1 => exact zqK (Kd.C_below HR2.out HB.out))
   (case side2 => exact HC2.out)
   rintro e w18 ⟨v377, rfl, ho0, hb⟩
   refine ⟨_, rfl, ?_⟩
   have n0_ := zA (Kd.R_lower ho0 (below_size (zqH HB.out GE372.out GE373.out))); have n1_ := zA (blk_below (g := gb372) (o := .cells #[.int .i64 a0_0, .int .i64 a0_1, .int .i64 a0_2, .int .i64 a0_3, .int .i64 a0_4] 57 (0, 0)) (zqB BK372.out) hb); have n2_ := zA (blk_below (g := gb373) (o := .cells #[.int .i64 a1_0, .int .i64 a1_1] 47 (0, 0)) (zqB BK373.out) hb); have n3_ := zA (below_step (zqH HB.out GE372.out GE373.out) hb); clear BK372 BK373 HB; have HO378 := n0_; have BK372 := n1_; have BK373 := n2_; have HB := n3_; clear n0_ n1_ n2_ n3_
   (try clear hb); (try clear hb2); (try clear hk); (try clear hi); (try clear ho0)
   obtain ⟨Ao19, co19, eo19⟩ := Kd.R_slice HO378.out
   (first | subst eo19 | (injection eo19 with f1_ f2_ f3_; have f4_ := f1_.symm; have f5_ := f3_.symm; clear f1_ f2_ f3_; subst f4_; subst f5_))
   refine hK.out _ _ ⟨(blk_cell BK372.out 0).trans rfl, (blk_cell BK372.out 1).trans rfl, (blk_cell BK372.out 2).trans rfl, (blk_cell BK372.out 3).trans rfl, (blk_cell BK372.out 4).trans rfl, (blk_cell BK373.out 0).trans rfl, (blk_cell BK373.out 1).trans rfl⟩ (fun hHeld => ?_)
   clear hK K; refine norm_ (a' := ?_) ?_ ?_; rotate_left
   · show Act.put _ (some 18) _ = _; simp only [Act.put, List.setIfInBounds_toArray, List.set_cons_zero, List.set_cons_succ, i64_w, i32_w]; rfl
   refine one_ (i := 8) (N := some 19) #[true, true, true, true, true, true, true, true, true, false, false, false, false, false] rfl rfl (one_of HT_.out (by kernel_rfl)) (by decide) (fun K hK => ?_)
   refine goes_ Try.func36 (by kernel_rfl) rfl #[.agg #[.int .i64 a0_0, .int .i64 a0_1, .int .i64 a0_2, .int .i64 a0_3, .int .i64 a0_4], .agg #[.int .i64 a1_0, .int .i64 a1_1], .slice Ao19 t376.length co19] (by rfl) rfl rfl zqE ?_
   with_reducible refine (pianolaref03_Holds.calls k a0_0 a0_1 a0_2 a0_3 a0_4 a1_0 a1_1 _ _ t376 t379 _ ?side1 ?side2 A11.out).mono ?_
   (case side1 => exact zqK (Kd.R_reads' HO378.out).2.2)
   (case side2 => exact (Kd.R_reads' HO378.out).2.1)
   rintro e w20 ⟨rfl, hb⟩
   refine ⟨_, rfl, ?_⟩
   have n0_ := zA (Kd.R_below (zqC HO378.out) hb); have n1_ := zA (blk_below (g := gb372) (o := .cells #[.int .i64 a0_0, .int .i64 a0_1, .int .i64 a0_2, .int .i64 a0_3, .int .i64 a0_4] 57 (0, 0)) (zqB BK372.out) hb); have n2_ := zA (blk_below (g := gb373) (o := .cells #[.int .i64 a1_0, .int .i64 a1_1] 47 (0, 0)) (zqB BK373.out) hb); have n3_ := zA (below_step (zqH HB.out GE372.out GE373.out) hb); clear HO378 BK372 BK373 HB; have HO378 := n0_; have BK372 := n1_; have BK373 := n2_; have HB := n3_; clear n0_ n1_ n2_ n3_
   (try clear hb); (try clear hb2); (try clear hk); (try clear hi)
   refine hK.out _ _ ⟨(blk_cell BK372.out 0).trans rfl, (blk_cell BK372.out 1).trans rfl, (blk_cell BK372.out 2).trans rfl, (blk_cell BK372.out 3).trans rfl, (blk_cell BK372.out 4).trans rfl, (blk_cell BK373.out 0).trans rfl, (blk_cell BK373.out 1).trans rfl⟩ (fun hHeld => ?_)
   clear hK K; refine norm_ (a' := ?_) ?_ ?_; rotate_left
   · show Act.put _ (some 19) _ = _; simp only [Act.put, List.setIfInBounds_toArray, List.set_cons_zero, List.set_cons_succ, i64_w, i32_w]; rfl
   refine pure_ (i := 9) (N := some 20) (v := ?_) (a' := ?_) #[true, true, true, true, true, true, true, true, true, true, false, false, false, false] rfl rfl (any_of HT_.out (by kernel_rfl)) (fun _ _ _ h => h) (Or.inl ⟨by rfl, ?_⟩) ?_ ?_
   rotate_left
   ·
    intro w'
    go_simp
    with_reducible rfl
   rotate_left
   · simp only [Act.put, List.setIfInBounds_toArray, List.set_cons_zero, List.set_cons_succ, i64_w, i32_w]; rfl
   refine pure_ (i := 10) (N := some 21) (v := ?_) (a' := ?_) #[true, true, true, true, true, true, true, true, true, true, true, false, false, false] rfl rfl (any_of HT_.out (by kernel_rfl)) (fun _ _ _ h => h) (Or.inl ⟨by rfl, ?_⟩) ?_ ?_
   rotate_left
   ·
    intro w'
    go_simp
    with_reducible rfl
   rotate_left
   · simp only [Act.put, List.setIfInBounds_toArray, List.set_cons_zero, List.set_cons_succ, i64_w, i32_w]; rfl
   refine one_ (i := 11) (N := some 22) #[true, true, true, true, true, true, true, true, true, true, true, true, false, false] rfl rfl (one_of HT_.out (by kernel_rfl)) (by decide) (fun K hK => ?_)
   refine goes_ Try.func15 (by kernel_rfl) rfl #[] (by rfl) rfl rfl zqE ?_
   with_reducible refine (pianolalaw03_works.calls  t380 _ A13.out).mono ?_
   rintro e w21 ⟨rfl, hb⟩
   refine ⟨_, rfl, ?_⟩
   have n0_ := zA (Kd.R_below (zqC HO378.out) hb); have n1_ := zA (blk_below (g := gb372) (o := .cells #[.int .i64 a0_0, .int .i64 a0_1, .int .i64 a0_2, .int .i64 a0_3, .int .i64 a0_4] 57 (0, 0)) (zqB BK372.out) hb); have n2_ := zA (blk_below (g := gb373) (o := .cells #[.int .i64 a1_0, .int .i64 a1_1] 47 (0, 0)) (zqB BK373.out) hb); have n3_ := zA (below_step (zqH HB.out GE372.out GE373.out) hb); clear HO378 BK372 BK373 HB; have HO378 := n0_; have BK372 := n1_; have BK373 := n2_; have HB := n3_; clear n0_ n1_ n2_ n3_
   (try clear hb); (try clear hb2); (try clear hk); (try clear hi)
   refine hK.out _ _ ⟨(blk_cell BK372.out 0).trans rfl, (blk_cell BK372.out 1).trans rfl, (blk_cell BK372.out 2).trans rfl, (blk_cell BK372.out 3).trans rfl, (blk_cell BK372.out 4).trans rfl, (blk_cell BK373.out 0).trans rfl, (blk_cell BK373.out 1).trans rfl⟩ (fun hHeld => ?_)
   clear hK K; refine norm_ (a' := ?_) ?_ ?_; rotate_left
   · show Act.put _ (some 22) _ = _; simp only [Act.put, List.setIfInBounds_toArray, List.set_cons_zero, List.set_cons_succ, i64_w, i32_w]; rfl
   refine pure_ (i := 12) (N := some 23) (v := ?_) (a' := ?_) #[true, true, true, true, true, true, true, true, true, true, true, true, true, false] rfl rfl (any_of HT_.out (by kernel_rfl)) (fun _ _ _ h => h) (Or.inl ⟨by rfl, ?_⟩) ?_ ?_
   rotate_left
   ·
    intro w'
    go_simp
    with_reducible rfl
   rotate_left
   · simp only [Act.put, List.setIfInBounds_toArray, List.set_cons_zero, List.set_cons_succ, i64_w, i32_w]; rfl
   refine pure_ (i := 13) (N := some 6) (v := ?_) (a' := ?_) #[true, true, true, true, true, true, true, true, true, true, true, true, true, true] rfl rfl (any_of HT_.out (by kernel_rfl)) (fun _ _ _ h => h) (Or.inl ⟨by rfl, ?_⟩) ?_ ?_
   rotate_left
   ·
    intro w'
    go_simp
    with_reducible rfl
   rotate_left
   · simp only [Act.put, List.setIfInBounds_toArray, List.set_cons_zero, List.set_cons_succ, i64_w, i32_w]; rfl
   refine done_ (done_of HT_.out (by kernel_rfl)) ?_
   try go_wp2
   go_ret
   exact ⟨zqR, zqH HB.out GE372.out GE373.out⟩
  ·
   rw [if_neg c12] at H
   exact absurd ((Option.some.inj H).trans HRT.out) (by decide)end Go.Proofs.Ytegffliopblajaa.P
end
section
namespace Go.Proofs.Ytegffliopblajaa.P
open Go.RowKit Go.Proofs.YtegffliopblajaaW.PrintWords Go.Proofs.YtegffliopblajaaW.PrintLast Go.Proofs.YtegffliopblajaaW.PrintMore
set_option linter.unusedVariables false
set_option linter.unusedSimpArgs false
def c52 (x : S47) : S52 := ⟨x.f0, x.f1⟩
def gS (l : List S47) : List S52 := l.map c52
theorem gS_len (l : List S47) : (gS l).length = l.length := by simp [gS]
theorem gS_get (l : List S47) (i : Int) : rd_T52 (gS l) i = ⟨(rd_T47 l i).f0, (rd_T47 l i).f1⟩ := by
  unfold rd_T52 rd_T47 gS
  rw [List.getD_eq_getElem?_getD, List.getD_eq_getElem?_getD, List.getElem?_map]
  cases h : l[i.toNat]? with
  | none => rfl
  | some x => rfl
theorem rd47_at {l : List S47} {i : Nat} (h : i < l.length) : rd_T47 l (i : Int) = l[i] := by
  unfold rd_T47
  rw [List.getD_eq_getElem?_getD, Int.toNat_natCast, List.getElem?_eq_getElem h]; rfl
theorem w_succ (i : Nat) (h : i ≤ 1000000000) : wrap64 ((i : Int) + 1) = ((i + 1 : Nat) : Int) := by unfold wrap64; omega
theorem is_f (a b c : Int) : pianolaref03_is.f a b c = some (btw b a c) := by
  unfold pianolaref03_is.f pianolaref01_Is.f btw
  by_cases h : a ≥ b
  · rw [if_pos h, decide_eq_true (show b ≤ a from h)]; rfl
  · rw [if_neg h, decide_eq_false (show ¬ b ≤ a from h)]; rfl
theorem slot_f (a b : Int) : pianolaref03_slot.f a b = some (good ⟨a, b⟩) := by
  unfold pianolaref03_slot.f good
  by_cases h : 0 ≤ a
  · by_cases h2 : a < b <;> simp [h, h2]
  · simp [h]
end Go.Proofs.Ytegffliopblajaa.P
end
section
namespace Go.Proofs.Ytegffliopblajaa.P
open Go.RowKit Go.Proofs.YtegffliopblajaaW.PrintWords Go.Proofs.YtegffliopblajaaW.PrintLast Go.Proofs.YtegffliopblajaaW.PrintMore
set_option linter.unusedVariables false
set_option linter.unusedSimpArgs false
theorem loop_ev {α : Type} {F : Nat → Int → Option α} {G : Nat → Option α} {bad : Nat → Bool} {n : Nat} {e r : α}
    (hs : ∀ k i, i < n → F (k + 1) (i : Nat) = if bad i = true then some e else F k ((i + 1 : Nat) : Int)) (hf : ∀ k, F (k + 1) (n : Nat) = G k) (hG : Ev G r) :
    ∀ (m i : Nat), i + m = n → Ev (fun k => F k (i : Nat)) (if (List.range' i m).any bad = true then e else r)
  | 0, i, h => by
    obtain rfl : i = n := by omega
    exact Ev.step hf hG
  | m + 1, i, h => by
    rw [List.range'_succ, List.any_cons]
    cases c : bad i with
    | true =>
      rw [Bool.true_or, if_pos rfl]
      exact Ev.step (f := fun _ => some e) (fun k => (hs k i (by omega)).trans (by rw [if_pos c])) (Ev.now _)
    | false =>
      rw [Bool.false_or]
      exact Ev.step (fun k => (hs k i (by omega)).trans (by rw [if_neg (by rw [c]; decide)])) (loop_ev hs hf hG m (i + 1) (by omega))
theorem holes_l0 (l : List S47) (hl : l.length ≤ 1000000) : ∀ (m i : Nat), i + m = l.length → Ev (fun k => pianolalaw03_holes.l0 k l (gS (l.take i)) i) (gS l)
  | 0, i, h => by
    refine Ev.step (f := fun _ => some (gS l)) (fun k => ?_) (Ev.now _)
    rw [pianolalaw03_holes.l0, if_neg (by omega), List.take_of_length_le (by omega)]
  | m + 1, i, h => by
    refine Ev.step (fun k => ?_) (holes_l0 l hl m (i + 1) (by omega))
    have hi : i < l.length := by omega
    rw [pianolalaw03_holes.l0, if_pos (by omega), if_pos (by omega), if_pos (by rw [gS_len, List.length_take]; omega), w_succ i (by omega), List.take_succ_eq_append_getElem hi, rd47_at hi]
    unfold gS
    rw [List.map_append]
    rfl
theorem holes_f (l : List S47) (hl : l.length ≤ 1000000) : Ev (fun k => pianolalaw03_holes.f k l) (gS l) := by
  have := holes_l0 l hl l.length 0 (by omega)
  simpa [pianolalaw03_holes.f, gS] using this
theorem paper_f (a b c d e : Int) : pianolaref03_paper.f a b c d e = some (if paperOk a b c d e = true then 0 else 3) := by
  unfold pianolaref03_paper.f paperOk
  simp only [is_f, Option.bind_some]
  by_cases h1 : 900 ≤ a
  · by_cases h2 : a ≤ b
    · have hb : btw 900 a b = true := by simp [btw, h1, h2]
      rw [if_pos hb]
      by_cases h3 : b ≤ 1100
      · rw [if_neg (by omega)]
        cases h4 : btw 1 c 1000 <;> cases h5 : btw 1 d 1000 <;> cases h6 : btw 1 e 1000 <;> simp [h1, h2, h3]
      · rw [if_pos (by omega)]
        simp [h3]
    · have hb : btw 900 a b = false := by simp [btw, h2]
      rw [hb]
      simp [h2]
  · have hb : btw 900 a b = false := by simp [btw, h1]
    rw [hb]
    simp [h1]
def badRule (a b c d e : Int) (l : List S47) (i : Nat) : Bool :=
  decide (wrap64 (wrap64 ((rd_T47 l (i : Nat)).f1 - (rd_T47 l (i : Nat)).f0) * b) > wrap64 (1000 * c)) ||
    (decide (0 < i) && (decide (wrap64 (wrap64 ((rd_T47 l (i : Nat)).f0 - (rd_T47 l (i - 1 : Nat)).f1) * a) < wrap64 (1000 * d)) || decide (wrap64 (wrap64 ((rd_T47 l (i : Nat)).f0 - (rd_T47 l (i - 1 : Nat)).f1) * b) ≥ wrap64 (1000 * e))))
def badGap (l : List S47) (i : Nat) : Bool := decide ((rd_T47 l (i + 1 : Nat)).f0 ≤ (rd_T47 l (i : Nat)).f1)
def holdsR (a b c d e x y : Int) (l : List S47) : Int :=
  if paperOk a b c d e = true ∧ good ⟨x, y⟩ = true then (if l.length > 200 then 5 else if l.length = 0 then 6 else
    if (List.range' 0 l.length).any (fun i => !good (rd_T47 l (i : Nat))) = true then 6 else
    if (rd_T47 l 0).f0 = x ∧ (rd_T47 l (l.length - 1 : Nat)).f1 = y then (if (List.range' 0 (l.length - 1)).any (badGap l) = true then 13 else if (List.range' 0 l.length).any (badRule a b c d e l) = true then 21 else 0) else 13) else 3
theorem w_pred (n : Nat) (h : 0 < n) (h2 : n ≤ 1000000) : wrap64 ((n : Int) - 1) = ((n - 1 : Nat) : Int) := by unfold wrap64; omega
theorem drop1_at (l : List S47) (i : Nat) : rd_T47 (l.drop 1) (i : Nat) = rd_T47 l (i + 1 : Nat) := by
  unfold rd_T47
  rw [List.getD_eq_getElem?_getD, List.getD_eq_getElem?_getD, List.getElem?_drop, Int.toNat_natCast, Int.toNat_natCast, Nat.add_comm]
theorem good_f' (x : S47) : punch_Slot_good.f x.f0 x.f1 = some (good x) := good_f x
theorem pholds_l2 (a b c d e : Int) (l : List S47) (hl : l.length ≤ 200) : Ev (fun k => punch_Holds.l2 k l l l.length 0 a b c d e) (if (List.range' 0 l.length).any (badRule a b c d e l) = true then 21 else 0) := by
  refine loop_ev (F := fun k i => punch_Holds.l2 k l l l.length i a b c d e) (n := l.length) (G := fun _ => some 0) (fun k i hi => ?_) (fun k => ?_) (Ev.now _) l.length 0 (by omega)
  · show punch_Holds.l2 (k + 1) l l l.length i a b c d e = _
    rw [punch_Holds.l2, if_pos (by omega), if_pos (by omega), if_pos (by omega), w_succ i (by omega)]
    unfold badRule
    by_cases h1 : wrap64 (wrap64 ((rd_T47 l (i : Nat)).f1 - (rd_T47 l (i : Nat)).f0) * b) > wrap64 (1000 * c)
    · rw [if_pos h1, decide_eq_true h1, Bool.true_or, if_pos rfl]
    · rw [if_neg h1, decide_eq_false h1, Bool.false_or]
      by_cases h2 : i = 0
      · rw [if_pos (by omega), decide_eq_false (show ¬ 0 < i by omega), Bool.false_and, if_neg (by decide)]
      · rw [if_neg (by omega), w_pred i (by omega) (by omega), if_pos (by omega), if_pos (by omega), decide_eq_true (show 0 < i by omega), Bool.true_and]
        by_cases h3 : wrap64 (wrap64 ((rd_T47 l (i : Nat)).f0 - (rd_T47 l (i - 1 : Nat)).f1) * a) < wrap64 (1000 * d)
        · rw [if_pos h3, decide_eq_true h3, Bool.true_or, if_pos rfl]
        · rw [if_neg h3, decide_eq_false h3, Bool.false_or]
          by_cases h4 : wrap64 (wrap64 ((rd_T47 l (i : Nat)).f0 - (rd_T47 l (i - 1 : Nat)).f1) * b) ≥ wrap64 (1000 * e)
          · rw [if_pos h4, decide_eq_true h4, if_pos rfl]
          · rw [if_neg h4, decide_eq_false h4, if_neg (by decide)]
  · show punch_Holds.l2 (k + 1) l l l.length l.length a b c d e = _
    rw [punch_Holds.l2, if_neg (by omega)]
theorem pholds_l1 (a b c d e : Int) (l : List S47) (hl : l.length ≤ 200) (h0 : 0 < l.length) : Ev (fun k => punch_Holds.l1 k l (l.drop 1) (l.drop 1).length 0 a b c d e) (if (List.range' 0 (l.length - 1)).any (badGap l) = true then 13 else if (List.range' 0 l.length).any (badRule a b c d e l) = true then 21 else 0) := by
  have hd : (l.drop 1).length = l.length - 1 := by rw [List.length_drop]
  refine loop_ev (F := fun k i => punch_Holds.l1 k l (l.drop 1) (l.drop 1).length i a b c d e) (n := l.length - 1) (G := fun k => punch_Holds.l2 k l l l.length 0 a b c d e) (fun k i hi => ?_) (fun k => ?_) (pholds_l2 a b c d e l hl) (l.length - 1) 0 (by omega)
  · show punch_Holds.l1 (k + 1) l (l.drop 1) (l.drop 1).length i a b c d e = _
    rw [punch_Holds.l1, if_pos (by omega), if_pos (by omega), if_pos (by omega), if_pos (by omega), w_succ i (by omega), drop1_at]
    unfold badGap
    by_cases h1 : (rd_T47 l (i + 1 : Nat)).f0 ≤ (rd_T47 l (i : Nat)).f1
    · rw [if_pos h1, decide_eq_true h1, if_pos rfl]
    · rw [if_neg h1, decide_eq_false h1, if_neg (by decide)]
  · show punch_Holds.l1 (k + 1) l (l.drop 1) (l.drop 1).length (l.length - 1 : Nat) a b c d e = _
    rw [punch_Holds.l1, if_neg (by omega)]
theorem pholds_l0 (a b c d e x y : Int) (l : List S47) (hl : l.length ≤ 200) (h0 : 0 < l.length) : Ev (fun k => punch_Holds.l0 k l l l.length 0 a b c d e x y) (if (List.range' 0 l.length).any (fun i => !good (rd_T47 l (i : Nat))) = true then 6 else
    if (rd_T47 l 0).f0 = x ∧ (rd_T47 l (l.length - 1 : Nat)).f1 = y then (if (List.range' 0 (l.length - 1)).any (badGap l) = true then 13 else if (List.range' 0 l.length).any (badRule a b c d e l) = true then 21 else 0) else 13) := by
  refine loop_ev (F := fun k i => punch_Holds.l0 k l l l.length i a b c d e x y) (n := l.length) (G := fun k => punch_Holds.j2 k l (!(decide ((rd_T47 l 0).f0 = x ∧ (rd_T47 l (l.length - 1 : Nat)).f1 = y))) a b c d e) (fun k i hi => ?_) (fun k => ?_) ?_ l.length 0 (by omega)
  · show punch_Holds.l0 (k + 1) l l l.length i a b c d e x y = _
    rw [punch_Holds.l0, if_pos (by omega), if_pos (by omega), if_pos (by omega), good_f', w_succ i (by omega)]
    show (if good (rd_T47 l (i : Nat)) = true then _ else _) = _
    cases good (rd_T47 l (i : Nat)) <;> rfl
  · show punch_Holds.l0 (k + 1) l l l.length l.length a b c d e x y = _
    rw [punch_Holds.l0, if_neg (by omega), if_pos (by omega)]
    by_cases c1 : (rd_T47 l 0).f0 = x
    · rw [if_pos c1, w_pred _ h0 (by omega), if_pos (by omega), if_pos (by omega)]
      congr 1
      by_cases c2 : (rd_T47 l (l.length - 1 : Nat)).f1 = y
      · rw [decide_eq_true ⟨c1, c2⟩]
        simpa using c2
      · rw [decide_eq_false (fun h => c2 h.2)]
        simpa using c2
    · rw [if_neg c1, decide_eq_false (fun h => c1 h.1)]
      rfl
  · by_cases c1 : (rd_T47 l 0).f0 = x ∧ (rd_T47 l (l.length - 1 : Nat)).f1 = y
    · rw [if_pos c1, decide_eq_true c1]
      refine Ev.step (fun k => ?_) (pholds_l1 a b c d e l hl h0)
      rw [punch_Holds.j2, if_neg (by decide), if_pos (by omega)]
      rfl
    · rw [if_neg c1, decide_eq_false c1]
      refine Ev.step (f := fun _ => some 13) (fun k => ?_) (Ev.now _)
      rw [punch_Holds.j2, if_pos (by decide)]
theorem Holds_f (a b c d e x y : Int) (l : List S47) (hl : l.length ≤ 1000000) : Ev (fun k => punch_Holds.f k a b c d e x y l) (holdsR a b c d e x y l) := by
  unfold punch_Holds.f holdsR
  simp only [paperOk_f, Option.bind_some]
  have bad : ∀ k, punch_Holds.j0 (k + 1) l true a b c d e x y = some 3 := fun k => by rw [punch_Holds.j0, if_pos rfl]
  by_cases c1 : paperOk a b c d e = true
  · simp only [if_pos c1, show punch_Slot_good.f x y = some (good ⟨x, y⟩) from good_f ⟨x, y⟩, Option.bind_some]
    cases c2 : good ⟨x, y⟩ with
    | true =>
      rw [if_pos ⟨c1, rfl⟩]
      simp only [Bool.not_true]
      have e1 : ∀ k, punch_Holds.j0 (k + 1) l false a b c d e x y = if l.length > 200 then some 5 else if l.length = 0 then some 6 else punch_Holds.l0 k l l l.length 0 a b c d e x y := fun k => by
        rw [punch_Holds.j0, if_neg (by decide)]
        by_cases c3 : l.length > 200
        · rw [if_pos (by omega), if_pos c3]
        · rw [if_neg (by omega), if_neg c3]
          by_cases c4 : l.length = 0
          · rw [if_pos (by omega), if_pos c4]
          · rw [if_neg (by omega), if_neg c4]
      refine Ev.step e1 ?_
      by_cases c3 : l.length > 200
      · simp only [if_pos c3]; exact Ev.now _
      · simp only [if_neg c3]
        by_cases c4 : l.length = 0
        · simp only [if_pos c4]; exact Ev.now _
        · simp only [if_neg c4]
          exact pholds_l0 a b c d e x y l (by omega) (by omega)
    | false =>
      rw [if_neg (fun h => by cases h.2)]
      exact Ev.step (f := fun _ => some 3) bad (Ev.now _)
  · simp only [if_neg c1]
    rw [if_neg (fun h => c1 h.1)]
    exact Ev.step (f := fun _ => some 3) bad (Ev.now _)
theorem hole_is (a b c d e n : Int) : pianolaref03_hole.f a b c d e n = some (!(decide (wrap64 (n * b) > wrap64 (1000 * c)))) := by
  unfold pianolaref03_hole.f
  by_cases h : wrap64 (n * b) ≤ wrap64 (1000 * c)
  · rw [decide_eq_true h, decide_eq_false (show ¬ wrap64 (n * b) > wrap64 (1000 * c) by omega)]; rfl
  · rw [decide_eq_false h, decide_eq_true (show wrap64 (n * b) > wrap64 (1000 * c) by omega)]; rfl
theorem bridge_is (a b c d e n : Int) : pianolaref03_bridge.f a b c d e n = some (!(decide (wrap64 (n * a) < wrap64 (1000 * d)) || decide (wrap64 (n * b) ≥ wrap64 (1000 * e)))) := by
  unfold pianolaref03_bridge.f
  by_cases h : wrap64 (n * a) ≥ wrap64 (1000 * d)
  · rw [if_pos h, decide_eq_false (show ¬ wrap64 (n * a) < wrap64 (1000 * d) by omega), Bool.false_or]
    by_cases h2 : wrap64 (n * b) < wrap64 (1000 * e)
    · rw [decide_eq_true h2, decide_eq_false (show ¬ wrap64 (n * b) ≥ wrap64 (1000 * e) by omega)]; rfl
    · rw [decide_eq_false h2, decide_eq_true (show wrap64 (n * b) ≥ wrap64 (1000 * e) by omega)]; rfl
  · rw [if_neg h, decide_eq_true (show wrap64 (n * a) < wrap64 (1000 * d) by omega), Bool.true_or]; rfl
theorem hole_bridge {a b c d e : Int} {l : List S47} {i : Nat} {α : Type} {A B : Option α} (h0 : 0 < i) :
    ((pianolaref03_hole.f a b c d e (wrap64 ((rd_T47 l (i : Nat)).f1 - (rd_T47 l (i : Nat)).f0))).bind fun t => if t = true then ((pianolaref03_bridge.f a b c d e (wrap64 ((rd_T47 l (i : Nat)).f0 - (rd_T47 l (i - 1 : Nat)).f1))).bind fun t => if t = true then A else B) else B) = if badRule a b c d e l i = true then B else A := by
  rw [hole_is, bridge_is]
  unfold badRule
  rw [decide_eq_true h0, Bool.true_and]
  generalize decide (wrap64 (wrap64 ((rd_T47 l (i : Nat)).f1 - (rd_T47 l (i : Nat)).f0) * b) > wrap64 (1000 * c)) = p
  generalize decide (wrap64 (wrap64 ((rd_T47 l (i : Nat)).f0 - (rd_T47 l (i - 1 : Nat)).f1) * a) < wrap64 (1000 * d)) = q
  generalize decide (wrap64 (wrap64 ((rd_T47 l (i : Nat)).f0 - (rd_T47 l (i - 1 : Nat)).f1) * b) ≥ wrap64 (1000 * e)) = r
  cases p <;> cases q <;> cases r <;> rfl
theorem rholds_l2 (a b c d e : Int) (l : List S47) (hl : l.length ≤ 200) : Ev (fun k => pianolaref03_Holds.l2 k (gS l) 0 a b c d e) (if (List.range' 0 l.length).any (badRule a b c d e l) = true then 21 else 0) := by
  refine loop_ev (F := fun k i => pianolaref03_Holds.l2 k (gS l) i a b c d e) (n := l.length) (G := fun _ => some 0) (fun k i hi => ?_) (fun k => ?_) (Ev.now _) l.length 0 (by omega)
  · show pianolaref03_Holds.l2 (k + 1) (gS l) i a b c d e = _
    rw [pianolaref03_Holds.l2, if_pos (by rw [gS_len]; omega), if_pos (by omega), w_succ i (by omega), gS_get]
    by_cases h0 : 0 < i
    · rw [w_pred i h0 (by omega), gS_get, ← hole_bridge (A := pianolaref03_Holds.l2 k (gS l) ((i + 1 : Nat) : Int) a b c d e) (B := some 21) h0]
      congr 1
      funext t
      by_cases ht : t = true
      · simp only [if_pos ht, if_pos (show (i : Int) > 0 by omega), if_pos (show (0 : Int) ≤ ((i - 1 : Nat) : Int) by omega), if_pos (show ((i - 1 : Nat) : Int) < ((gS l).length : Int) by rw [gS_len]; omega)]
      · simp only [if_neg ht]
    · obtain rfl : i = 0 := by omega
      rw [hole_is]
      unfold badRule
      rw [decide_eq_false (show ¬ (0 : Nat) < 0 by omega), Bool.false_and, Bool.or_false]
      generalize decide (wrap64 (wrap64 ((rd_T47 l ((0 : Nat) : Int)).f1 - (rd_T47 l ((0 : Nat) : Int)).f0) * b) > wrap64 (1000 * c)) = p
      cases p <;> rfl
  · show pianolaref03_Holds.l2 (k + 1) (gS l) l.length a b c d e = _
    rw [pianolaref03_Holds.l2, if_neg (by rw [gS_len]; omega)]
theorem rholds_l1 (a b c d e : Int) (l : List S47) (hl : l.length ≤ 200) (h0 : 0 < l.length) : Ev (fun k => pianolaref03_Holds.l1 k (gS l) 1 a b c d e) (if (List.range' 0 (l.length - 1)).any (badGap l) = true then 13 else if (List.range' 0 l.length).any (badRule a b c d e l) = true then 21 else 0) := by
  refine loop_ev (F := fun k i => pianolaref03_Holds.l1 k (gS l) (i + 1) a b c d e) (n := l.length - 1) (G := fun k => pianolaref03_Holds.l2 k (gS l) 0 a b c d e) (fun k i hi => ?_) (fun k => ?_) (rholds_l2 a b c d e l hl) (l.length - 1) 0 (by omega)
  · show pianolaref03_Holds.l1 (k + 1) (gS l) ((i : Int) + 1) a b c d e = _
    rw [show (i : Int) + 1 = ((i + 1 : Nat) : Int) by omega, pianolaref03_Holds.l1, if_pos (by rw [gS_len]; omega), if_pos (by omega), w_pred (i + 1) (by omega) (by omega), if_pos (by omega), if_pos (by rw [gS_len]; omega), w_succ (i + 1) (by omega), gS_get, gS_get, show i + 1 - 1 = i by omega]
    unfold badGap
    by_cases h1 : (rd_T47 l (i + 1 : Nat)).f0 ≤ (rd_T47 l (i : Nat)).f1
    · rw [if_pos h1, decide_eq_true h1, if_pos rfl]
    · rw [if_neg h1, decide_eq_false h1, if_neg (by decide)]
      rfl
  · show pianolaref03_Holds.l1 (k + 1) (gS l) (((l.length - 1 : Nat) : Int) + 1) a b c d e = _
    rw [pianolaref03_Holds.l1, if_neg (by rw [gS_len]; omega)]
theorem rholds_l0 (a b c d e x y : Int) (l : List S47) (hl : l.length ≤ 200) (h0 : 0 < l.length) : Ev (fun k => pianolaref03_Holds.l0 k (gS l) 0 a b c d e x y) (if (List.range' 0 l.length).any (fun i => !good (rd_T47 l (i : Nat))) = true then 6 else
    if (rd_T47 l 0).f0 = x ∧ (rd_T47 l (l.length - 1 : Nat)).f1 = y then (if (List.range' 0 (l.length - 1)).any (badGap l) = true then 13 else if (List.range' 0 l.length).any (badRule a b c d e l) = true then 21 else 0) else 13) := by
  refine loop_ev (F := fun k i => pianolaref03_Holds.l0 k (gS l) i a b c d e x y) (n := l.length) (G := fun k => pianolaref03_Holds.j1 k (gS l) (!(decide ((rd_T47 l 0).f0 = x ∧ (rd_T47 l (l.length - 1 : Nat)).f1 = y))) a b c d e) (fun k i hi => ?_) (fun k => ?_) ?_ l.length 0 (by omega)
  · show pianolaref03_Holds.l0 (k + 1) (gS l) i a b c d e x y = _
    rw [pianolaref03_Holds.l0, if_pos (by rw [gS_len]; omega), if_pos (by omega), gS_get, slot_f, w_succ i (by omega)]
    show (if good (rd_T47 l (i : Nat)) = true then _ else _) = _
    cases good (rd_T47 l (i : Nat)) <;> rfl
  · show pianolaref03_Holds.l0 (k + 1) (gS l) l.length a b c d e x y = _
    rw [pianolaref03_Holds.l0, if_neg (by rw [gS_len]; omega), if_pos (by rw [gS_len]; omega), gS_get, gS_len]
    by_cases c1 : (rd_T47 l 0).f0 = x
    · rw [if_pos c1, w_pred _ h0 (by omega), if_pos (by omega), if_pos (by omega), gS_get]
      congr 1
      by_cases c2 : (rd_T47 l (l.length - 1 : Nat)).f1 = y
      · rw [decide_eq_true ⟨c1, c2⟩]
        simpa using c2
      · rw [decide_eq_false (fun h => c2 h.2)]
        simpa using c2
    · rw [if_neg c1, decide_eq_false (fun h => c1 h.1)]
      rfl
  · by_cases c1 : (rd_T47 l 0).f0 = x ∧ (rd_T47 l (l.length - 1 : Nat)).f1 = y
    · rw [if_pos c1, decide_eq_true c1]
      refine Ev.step (fun k => ?_) (rholds_l1 a b c d e l hl h0)
      rw [pianolaref03_Holds.j1, if_neg (by decide)]
    · rw [if_neg c1, decide_eq_false c1]
      refine Ev.step (f := fun _ => some 13) (fun k => ?_) (Ev.now _)
      rw [pianolaref03_Holds.j1, if_pos (by decide)]
theorem rHolds_f (a b c d e x y : Int) (l : List S47) (hl : l.length ≤ 1000000) : Ev (fun k => pianolaref03_Holds.f k a b c d e x y (gS l)) (holdsR a b c d e x y l) := by
  unfold pianolaref03_Holds.f holdsR
  simp only [paper_f, Option.bind_some, slot_f, gS_len]
  by_cases c1 : paperOk a b c d e = true
  · simp only [if_pos c1, if_true]
    by_cases c2 : good ⟨x, y⟩ = true
    · simp only [if_pos c2]
      rw [if_pos ⟨c1, c2⟩]
      by_cases c3 : l.length > 200
      · simp only [if_pos c3, if_pos (show (l.length : Int) > 200 by omega)]; exact Ev.now _
      · simp only [if_neg c3, if_neg (show ¬ (l.length : Int) > 200 by omega)]
        by_cases c4 : l.length = 0
        · simp only [if_pos c4, if_pos (show (l.length : Int) = 0 by omega)]; exact Ev.now _
        · simp only [if_neg c4, if_neg (show ¬ (l.length : Int) = 0 by omega)]
          exact rholds_l0 a b c d e x y l (by omega) (by omega)
    · simp only [if_neg c2]
      rw [if_neg (fun h => c2 h.2)]
      exact Ev.now _
  · simp only [if_neg c1]
    rw [if_neg (fun h => c1 h.1)]
    exact Ev.now _
end Go.Proofs.Ytegffliopblajaa.P
end
section
namespace Go.Proofs.Ytegffliopblajaa.P
open Go.RowKit Go.Proofs.YtegffliopblajaaW.PrintWords Go.Proofs.YtegffliopblajaaW.PrintLast Go.Proofs.YtegffliopblajaaW.PrintMore
set_option linter.unusedSimpArgs false
theorem holdsLaw_ev (a b c d e x y : Int) (l : List S47) : Ev (fun k => pianolalaw03_PunchHolds.f k a b c d e x y l) true := by
  unfold pianolalaw03_PunchHolds.f
  by_cases h : (l.length : Int) > 400
  · simp only [if_pos h]
    exact Ev.now _
  · simp only [if_neg h]
    refine Ev.bind (Holds_f a b c d e x y l (by omega)) ?_
    refine Ev.bind (holes_f l (by omega)) ?_
    refine Ev.bind (rHolds_f a b c d e x y l (by omega)) ?_
    simp only [if_true]
    exact Ev.now _
end Go.Proofs.Ytegffliopblajaa.P
namespace Go.Proofs.Ytegffliopblajaa.Pure
open P Go.Proofs.YtegffliopblajaaW.PrintWords
theorem PunchHolds (a b c d e x y : Int) (l : List S47) (_ : (Lit.int .i64 x).wf = true) (_ : (Lit.int .i64 y).wf = true) (_ : ∀ s ∈ l, (Lit.int .i64 s.f0).wf = true ∧ (Lit.int .i64 s.f1).wf = true) : ∃ k, pianolalaw03_PunchHolds.f k a b c d e x y l = some true := (holdsLaw_ev a b c d e x y l).rounds
end Go.Proofs.Ytegffliopblajaa.Pure
end
