/- Words and contracts for a claim. -/
import Derived.Test.YthoeindopljmkaaPumpRows6

section
namespace Go.Proofs.Ythoeindopljmkaa.P
open Go.RowKit Go.Proofs.YthoeindopljmkaaW.PrintWords Go.Proofs.YthoeindopljmkaaW.PrintLast Go.Proofs.YthoeindopljmkaaW.PrintMore
attribute [local go_sem] max2_int min2_int max_two min_two max_three min_three max_four min_four
set_option linter.unusedVariables false
set_option linter.unusedSimpArgs false
mutual
def pianolaref04_Delay.l0 : Nat → Int → List Int → List Int → Int → Option (Int × Int)
  | 0, _, _, _, _ => none
  | k + 1, x1, x7, x8, x9 => if x9 ≤ 200 then (pianolaref04_Delay.l1 k x1 x7 x8 x9 true 0) else (some (0, 11))
def pianolaref04_Delay.l1 : Nat → Int → List Int → List Int → Int → Bool → Int → Option (Int × Int)
  | 0, _, _, _, _, _, _ => none
  | k + 1, x1, x7, x8, x9, x10, x11 => if x11 ≤ x1 then (if x10 = true then (if 0 ≤ (wrap64 (x11 + x9)) then (if (wrap64 (x11 + x9)) < (x8.length : Int) then (if 0 ≤ x11 then (if x11 < (x7.length : Int) then (pianolaref04_Delay.l1 k x1 x7 x8 x9 (decide ((rd x8 (wrap64 (x11 + x9))) ≥ (rd x7 x11))) (wrap64 (x11 + 1))) else (none)) else (none)) else (none)) else (none)) else (pianolaref04_Delay.l1 k x1 x7 x8 x9 false (wrap64 (x11 + 1)))) else (if x10 = true then (some (x9, 0)) else (pianolaref04_Delay.l0 k x1 x7 x8 (wrap64 (x9 + 1))))
end
def pianolaref04_Delay.f (k : Nat) (l0_0 : List (List (S90))) (l0_1 : List (List (S90))) (a1 : Int) : Option (Int × Int) := (pianolaref04_planned.f k l0_0 l0_1 a1).bind fun t304 => (if t304 = 0 then ((pianolaref04_demands.f k l0_0 l0_1 a1).bind fun t305 => ((pianolaref04_rows.f k l0_0 l0_1 (wrap64 (a1 + 200))).bind fun t308 => (pianolaref04_Delay.l0 k a1 t305 t308 0))) else (some (0, t304)))
def pianolaref04_Delay.T4 : Bool × List (List Nat × List Nat) := (true, [([], []), ([], []), ([0, 1], [0, 1]), ([], []), ([], []), ([4], [4]), ([3, 5, 2], [3, 5]), ([2, 6, 0, 1, 2], [2]), ([6, 7, 0, 1, 2, 3, 4, 5, 6, 7], [6])])
def pianolaref04_Delay.B4 : List Nat := [0, 0, 3, 0, 0, 16, 63, 127, 255]
theorem pianolaref04_Delay.tab4 : rtab .any (opsOf Try.f33 4) = pianolaref04_Delay.T4 := by kernel_rfl
theorem pianolaref04_Delay.bits4 : waitsOk pianolaref04_Delay.T4.2 pianolaref04_Delay.B4 = true := by kernel_rfl
def pianolaref04_Delay.T12 : Bool × List (List Nat × List Nat) := (true, [([], []), ([0], [0]), ([1], [1]), ([1], [1]), ([1], [1]), ([3, 4, 1], [1, 3, 4]), ([2, 5, 1], [1, 2, 5]), ([6, 1], [1, 6]), ([1], [1]), ([1], [1]), ([8, 9, 1], [1, 8, 9]), ([10, 1], [1, 10]), ([7, 11, 1], [1, 7, 11]), ([1, 12], [1, 12]), ([13, 1, 0, 1, 2, 3, 4, 5, 6, 7, 8, 9, 10, 11, 12, 13], [0, 13])])
def pianolaref04_Delay.B12 : List Nat := [0, 1, 3, 3, 3, 27, 63, 127, 3, 3, 771, 1795, 4095, 8191, 16383]
theorem pianolaref04_Delay.tab12 : rtab .any (opsOf Try.f33 12) = pianolaref04_Delay.T12 := by kernel_rfl
theorem pianolaref04_Delay.bits12 : waitsOk pianolaref04_Delay.T12.2 pianolaref04_Delay.B12 = true := by kernel_rfl
set_option maxHeartbeats 8000000 in
set_option maxRecDepth 100000 in
theorem pianolaref04_Delay.calls (k : Nat) (A0_0 : Option Addr) (c0_0 : Nat) (l0_0 : List (List (S90))) (A0_1 : Option Addr) (c0_1 : Nat) (l0_1 : List (List (S90))) (a1 : Int) (r1 : Int) (r2 : Int) (w : World) (hr0_0 : Kd.C (Kd.slice 90 k90) w A0_0 l0_0.length l0_0) (hc0_0 : l0_0.length ≤ c0_0) (hr0_1 : Kd.C (Kd.slice 90 k90) w A0_1 l0_1.length l0_1) (hc0_1 : l0_1.length ≤ c0_1) (h : pianolaref04_Delay.f k l0_0 l0_1 a1 = some (r1, r2)) :
  Calls Try.prog 33 #[.agg #[.slice A0_0 l0_0.length c0_0, .slice A0_1 l0_1.length c0_1], .int .i64 a1] w fun e w' => e = .returned (.tuple #[.int .i64 r1, .int .i64 r2]) ∧ Below w.heap.size w w' := by
 have hu44 := Try.underlying44
 have HR0_0 := Aside0.mk hr0_0
 have HC0_0 := Aside0.mk hc0_0
 clear hr0_0 hc0_0
 have HR0_1 := Aside0.mk hr0_1
 have HC0_1 := Aside0.mk hc0_1
 clear hr0_1 hc0_1
 have HB := Aside0.mk (Below.refl w.heap.size w)
 have H : ((pianolaref04_planned.f k l0_0 l0_1 a1).bind fun t304 => (if t304 = 0 then ((pianolaref04_demands.f k l0_0 l0_1 a1).bind fun t305 => ((pianolaref04_rows.f k l0_0 l0_1 (wrap64 (a1 + 200))).bind fun t308 => (pianolaref04_Delay.l0 k a1 t305 t308 0))) else (some (0, t304)))) = some (r1, r2) := h
 clear h
 replace H := Option.bind_eq_some_iff.mp H
 obtain ⟨t304, A30, H⟩ := H
 replace H : (if t304 = 0 then ((pianolaref04_demands.f k l0_0 l0_1 a1).bind fun t305 => ((pianolaref04_rows.f k l0_0 l0_1 (wrap64 (a1 + 200))).bind fun t308 => (pianolaref04_Delay.l0 k a1 t305 t308 0))) else (some (0, t304))) = some (r1, r2) := H
 have A3 := Aside0.mk A30
 clear A30
 by_cases c4 : t304 = 0
 ·
  rw [if_pos c4] at H
  have c4b0 : (t304 == 0) = true := beq_iff_eq.mpr c4
  have c4b1 : (t304 != 0) = false := bne_eq_false_iff_eq.mpr c4
  clear c4
  replace H := Option.bind_eq_some_iff.mp H
  obtain ⟨t305, A50, H⟩ := H
  replace H : ((pianolaref04_rows.f k l0_0 l0_1 (wrap64 (a1 + 200))).bind fun t308 => (pianolaref04_Delay.l0 k a1 t305 t308 0)) = some (r1, r2) := H
  have A5 := Aside0.mk A50
  clear A50
  replace H := Option.bind_eq_some_iff.mp H
  obtain ⟨t308, A60, H⟩ := H
  replace H : (pianolaref04_Delay.l0 k a1 t305 t308 0) = some (r1, r2) := H
  have A6 := Aside0.mk A60
  clear A60
  have H' := Aside0.mk H
  clear H
  go_enter Try.func33, Try.ntmps33
  try go_wp2_with (first | ((with_reducible refine gate_dst (N := 2) rfl ?_); refine box_event ?hg (N := 2) ?hd (cs := #[.slice A0_0 l0_0.length c0_0, .slice A0_1 l0_1.length c0_1]) (t := 44) ?hr ?_; (case hd => rfl); (case hg => rfl); (case hr => first | (go_simp; done) | (go_simp; rfl)); intro gb303 hg w7 hbox hb; have n0_ := Aside0.mk (below_step (zqA HB.out) hb); have n1_ := Aside0.mk (hbox); have n2_ := Aside0.mk ((by rw [hg]; exact (below_size (zqA HB.out)) : w.heap.size ≤ gb303)); have n3_ := Aside0.mk ((by rw [hg]; exact (below_size (zqA HB.out)) : w.heap.size ≤ gb303)); clear HB; have HB := n0_; have BK303 := n1_; have GW303 := n2_; have GE303 := n3_; clear n0_ n1_ n2_ n3_; clear hb hbox hg; have hcz8_0 : w7.cell? ⟨gb303, 0, none⟩ = some (.slice A0_0 l0_0.length c0_0) := (blk_cell BK303.out 0).trans rfl; have hcz8_1 : w7.cell? ⟨gb303, 1, none⟩ = some (.slice A0_1 l0_1.length c0_1) := (blk_cell BK303.out 1).trans rfl; have hfz8_0 := blk_frozen BK303.out 0; have hfz8_1 := blk_frozen BK303.out 1) | ((with_reducible refine gate_callee (f := 65) rfl ?_); refine goesL_ (some 14) rfl rfl Try.func65 (by kernel_rfl) rfl #[.agg #[.slice A0_0 l0_0.length c0_0, .slice A0_1 l0_1.length c0_1], .int .i64 a1] rfl zqE ?_; (with_reducible refine (pianolaref04_planned.calls k _ _ l0_0 _ _ l0_1 a1 t304 _ ?side1 ?side2 ?side3 ?side4 A3.out).mono ?_); (case side1 => repeat (first | exact (Kd.C_below HR0_0.out HB.out) | (with_reducible refine Kd.C_alloc ?_ _) | (with_reducible refine Kd.C_drewN ?_ _) | (with_reducible refine Kd.C_drew ?_))); (case side2 => exact HC0_0.out); (case side3 => repeat (first | exact (Kd.C_below HR0_1.out HB.out) | (with_reducible refine Kd.C_alloc ?_ _) | (with_reducible refine Kd.C_drewN ?_ _) | (with_reducible refine Kd.C_drew ?_))); (case side4 => exact HC0_1.out); rintro e w9 ⟨rfl, hb⟩; refine ⟨_, rfl, ?_⟩; have n0_ := Aside0.mk (blk_below (g := gb303) (o := .cells #[.slice A0_0 l0_0.length c0_0, .slice A0_1 l0_1.length c0_1] 44 (0, 0)) (zqB BK303.out) hb); have n1_ := Aside0.mk (below_step (zqG HB.out GE303.out) hb); clear BK303; clear HB; have BK303 := n0_; have HB := n1_; clear n0_ n1_; (try clear hb); (try clear hb2); (try clear hk); (try clear hi)))
  have n0_ := Aside0.mk (blk_drew BK303.out)
  have n1_ := Aside0.mk (below_drew1 HB.out)
  clear BK303
  clear HB
  have BK303 := n0_
  have HB := n1_
  clear n0_ n1_
  refine start_ (n := 9) (S := fun w' => w'.cell? ⟨gb303, 0, none⟩ = some (.slice A0_0 l0_0.length c0_0) ∧ w'.cell? ⟨gb303, 1, none⟩ = some (.slice A0_1 l0_1.length c0_1)) (ds := []) #[false, false, false, false, false, false, false, false, false] (by kernel_rfl) rfl rfl ⟨(blk_cell BK303.out 0).trans rfl, (blk_cell BK303.out 1).trans rfl⟩ (fun hHeld => ?_); refine with_tabW pianolaref04_Delay.tab4 pianolaref04_Delay.bits4 (fun HT_ HW_ => ?_)
  generalize w9.drew = w10 at BK303 HB hHeld ⊢
  refine pure_ (i := 1) (N := some 19) (v := ?_) (a' := ?_) #[false, true, false, false, false, false, false, false, false] rfl rfl (any_of HT_.out (by kernel_rfl)) (fun _ _ _ h => h) (Or.inl ⟨by rfl, ?_⟩) ?_ ?_
  rotate_left
  ·
   intro w'
   go_simp
   with_reducible rfl
  rotate_left
  ·
   simp only [Act.put, List.setIfInBounds_toArray, List.set_cons_zero, List.set_cons_succ, i64_w, i32_w]
   rfl
  refine pure_ (i := 4) (N := some 22) (v := ?_) (a' := ?_) #[false, true, false, false, true, false, false, false, false] rfl rfl (any_of HT_.out (by kernel_rfl)) (fun _ _ _ h => h) (Or.inl ⟨by rfl, ?_⟩) ?_ ?_
  rotate_left
  ·
   intro w'
   go_simp
   with_reducible rfl
  rotate_left
  ·
   simp only [Act.put, List.setIfInBounds_toArray, List.set_cons_zero, List.set_cons_succ, i64_w, i32_w]
   rfl
  refine pure_ (i := 5) (N := some 23) (v := ?_) (a' := ?_) #[false, true, false, false, true, true, false, false, false] rfl rfl (any_of HT_.out (by kernel_rfl)) (fun _ _ _ h => h) (Or.inl ⟨by rfl, ?_⟩) ?_ ?_
  rotate_left
  ·
   intro w'
   go_simp
   with_reducible rfl
  rotate_left
  ·
   simp only [Act.put, List.setIfInBounds_toArray, List.set_cons_zero, List.set_cons_succ, i64_w, i32_w]
   rfl
  refine take_ (i := 0) (N := some 18) (v := ?_) (a' := ?_) #[true, true, false, false, true, true, false, false, false] rfl rfl (take_ofW HT_.out HW_.out (by kernel_rfl)) (fun _ _ _ h => h) (Or.inl ⟨by rfl, ?_⟩) hHeld ?_ ?_
  rotate_left
  ·
   rintro w' ⟨s0, s1⟩
   go_simp
   with_reducible rfl
  rotate_left
  ·
   simp only [Act.put, List.setIfInBounds_toArray, List.set_cons_zero, List.set_cons_succ, i64_w, i32_w]
   rfl
  refine take_ (i := 3) (N := some 21) (v := ?_) (a' := ?_) #[true, true, false, true, true, true, false, false, false] rfl rfl (take_ofW HT_.out HW_.out (by kernel_rfl)) (fun _ _ _ h => h) (Or.inl ⟨by rfl, ?_⟩) hHeld ?_ ?_
  rotate_left
  ·
   rintro w' ⟨s0, s1⟩
   go_simp
   with_reducible rfl
  rotate_left
  ·
   simp only [Act.put, List.setIfInBounds_toArray, List.set_cons_zero, List.set_cons_succ, i64_w, i32_w]
   rfl
  refine one_ (i := 2) (N := some 20) #[true, true, true, true, true, true, false, false, false] rfl rfl (one_of HT_.out (by kernel_rfl)) (by decide) (fun K hK => ?_)
  refine goes_ Try.func68 (by kernel_rfl) rfl #[.agg #[.slice A0_0 l0_0.length c0_0, .slice A0_1 l0_1.length c0_1], .int .i64 a1] (by rfl) rfl rfl zqE ?_
  with_reducible refine (pianolaref04_demands.calls k _ _ l0_0 _ _ l0_1 a1 t305 _ ?side1 ?side2 ?side3 ?side4 A5.out).mono ?_
  (case side1 => repeat (first | exact (Kd.C_below HR0_0.out HB.out) | (with_reducible refine Kd.C_alloc ?_ _) | (with_reducible refine Kd.C_drewN ?_ _) | (with_reducible refine Kd.C_drew ?_)))
  (case side2 => exact HC0_0.out)
  (case side3 => repeat (first | exact (Kd.C_below HR0_1.out HB.out) | (with_reducible refine Kd.C_alloc ?_ _) | (with_reducible refine Kd.C_drewN ?_ _) | (with_reducible refine Kd.C_drew ?_)))
  (case side4 => exact HC0_1.out)
  rintro e w11 ⟨v306, rfl, ho0, hb⟩
  refine ⟨_, rfl, ?_⟩
  have n0_ := Aside0.mk (Kd.R_lower ho0 (below_size (zqG HB.out GE303.out)))
  have n1_ := Aside0.mk (blk_below (g := gb303) (o := .cells #[.slice A0_0 l0_0.length c0_0, .slice A0_1 l0_1.length c0_1] 44 (0, 0)) (zqB BK303.out) hb)
  have n2_ := Aside0.mk (below_step (zqG HB.out GE303.out) hb)
  clear BK303
  clear HB
  have HO307 := n0_
  have BK303 := n1_
  have HB := n2_
  clear n0_ n1_ n2_
  (try clear hb)
  (try clear hb2)
  (try clear hk)
  (try clear hi)
  (try clear ho0)
  refine hK.out _ _ ⟨(blk_cell BK303.out 0).trans rfl, (blk_cell BK303.out 1).trans rfl⟩ (fun hHeld => ?_)
  clear hK K
  refine norm_ (a' := ?_) ?_ ?_
  rotate_left
  ·
   show Act.put _ (some 20) _ = _
   simp only [Act.put, List.setIfInBounds_toArray, List.set_cons_zero, List.set_cons_succ, i64_w, i32_w]
   rfl
  refine one_ (i := 6) (N := some 24) #[true, true, true, true, true, true, true, false, false] rfl rfl (one_of HT_.out (by kernel_rfl)) (by decide) (fun K hK => ?_)
  refine goes_ Try.func66 (by kernel_rfl) rfl #[.agg #[.slice A0_0 l0_0.length c0_0, .slice A0_1 l0_1.length c0_1], .int .i64 (wrap64 (a1 + 200))] (by rfl) rfl rfl zqE ?_
  with_reducible refine (pianolaref04_rows.calls k _ _ l0_0 _ _ l0_1 (wrap64 (a1 + 200)) t308 _ ?side1 ?side2 ?side3 ?side4 A6.out).mono ?_
  (case side1 => repeat (first | exact (Kd.C_below HR0_0.out HB.out) | (with_reducible refine Kd.C_alloc ?_ _) | (with_reducible refine Kd.C_drewN ?_ _) | (with_reducible refine Kd.C_drew ?_)))
  (case side2 => exact HC0_0.out)
  (case side3 => repeat (first | exact (Kd.C_below HR0_1.out HB.out) | (with_reducible refine Kd.C_alloc ?_ _) | (with_reducible refine Kd.C_drewN ?_ _) | (with_reducible refine Kd.C_drew ?_)))
  (case side4 => exact HC0_1.out)
  rintro e w12 ⟨v309, rfl, ho0, hb⟩
  refine ⟨_, rfl, ?_⟩
  have n0_ := Aside0.mk (Kd.R_elder' (zqC HO307.out) (Kd.R_base ho0) hb)
  have n1_ := Aside0.mk (Kd.R_lower (Kd.R_new' ho0 (Kd.R_lt (zqC HO307.out))) (below_size (zqG HB.out GE303.out)))
  have n2_ := Aside0.mk (blk_below (g := gb303) (o := .cells #[.slice A0_0 l0_0.length c0_0, .slice A0_1 l0_1.length c0_1] 44 (0, 0)) (zqB BK303.out) hb)
  have n3_ := Aside0.mk (below_step (zqG HB.out GE303.out) hb)
  clear HO307
  clear BK303
  clear HB
  have HO307 := n0_
  have HO310 := n1_
  have BK303 := n2_
  have HB := n3_
  clear n0_ n1_ n2_ n3_
  (try clear hb)
  (try clear hb2)
  (try clear hk)
  (try clear hi)
  (try clear ho0)
  refine hK.out _ _ ⟨(blk_cell BK303.out 0).trans rfl, (blk_cell BK303.out 1).trans rfl⟩ (fun hHeld => ?_)
  clear hK K
  refine norm_ (a' := ?_) ?_ ?_
  rotate_left
  ·
   show Act.put _ (some 24) _ = _
   simp only [Act.put, List.setIfInBounds_toArray, List.set_cons_zero, List.set_cons_succ, i64_w, i32_w]
   rfl
  refine pure_ (i := 7) (N := some 7) (v := ?_) (a' := ?_) #[true, true, true, true, true, true, true, true, false] rfl rfl (any_of HT_.out (by kernel_rfl)) (fun _ _ _ h => h) (Or.inl ⟨by rfl, ?_⟩) ?_ ?_
  rotate_left
  ·
   intro w'
   go_simp
   with_reducible rfl
  rotate_left
  ·
   simp only [Act.put, List.setIfInBounds_toArray, List.set_cons_zero, List.set_cons_succ, i64_w, i32_w]
   rfl
  refine pure_ (i := 8) (N := some 8) (v := ?_) (a' := ?_) #[true, true, true, true, true, true, true, true, true] rfl rfl (any_of HT_.out (by kernel_rfl)) (fun _ _ _ h => h) (Or.inl ⟨by rfl, ?_⟩) ?_ ?_
  rotate_left
  ·
   intro w'
   go_simp
   with_reducible rfl
  rotate_left
  ·
   simp only [Act.put, List.setIfInBounds_toArray, List.set_cons_zero, List.set_cons_succ, i64_w, i32_w]
   rfl
  refine done_ (done_of HT_.out (by kernel_rfl)) ?_
  try go_wp2
  go_loopg [9] k (fun kq v9 w' => ∃ (x9_1 : Int), v9 = .int .i64 x9_1 ∧ Aside0 (pianolaref04_Delay.l0 kq a1 t305 t308 x9_1 = some (r1, r2)) ∧ Aside0 (kq ≤ k) ∧ Aside0 (Kd.R (Kd.int .i64) 3 w' w.heap.size (fun k_ => some k_ ≠ (v309 : Value).ownBlock) v306 t305) ∧ Aside0 (Kd.R (Kd.int .i64) 3 w' w.heap.size (fun k_ => some k_ ≠ (v306 : Value).ownBlock) v309 t308) ∧ Aside0 (w'.heap[gb303]? = some (.cells #[(.slice A0_0 l0_0.length c0_0), (.slice A0_1 l0_1.length c0_1)] 44 (0, 0))) ∧ Aside0 (Below w.heap.size w w'))
  case atStart => exact ⟨(0), (by first | rfl | (simp; done) | (simp [*]; done)), H', ⟨Nat.le_refl _⟩, ⟨by (with_reducible repeat (first | apply Kd.R_alloc | apply Kd.R_drewN | apply Kd.R_drew)); exact Kd.R_mono HO307.out (fun _ hk => hk.2)⟩, ⟨by (with_reducible repeat (first | apply Kd.R_alloc | apply Kd.R_drewN | apply Kd.R_drew)); exact Kd.R_mono HO310.out (fun _ hk => hk.2)⟩, ⟨zqB BK303.out⟩, ⟨zqG HB.out GE303.out⟩⟩
  case round =>
   clear H'
   try clear p2
   try clear c3
   try clear c4
   try clear c4b0
   try clear c4b1
   try clear c6
   try clear p6
   try clear hcz8_0
   try clear hcz8_1
   try clear hfz8_0
   try clear hfz8_1
   obtain ⟨x9_1, rfl, HA, HK1, HO_7, HO_8, BK303, HB⟩ := hrel
   cases gk with
   | zero => exact absurd HA.out (by simp [pianolaref04_Delay.l0])
   | succ k1 =>
    have H := HA.out
    clear HA
    simp only [pianolaref04_Delay.l0] at H
    by_cases c13 : x9_1 ≤ 200
    ·
     rw [if_pos c13] at H
     have c13b0 : decide (x9_1 ≤ 200) = true := decide_eq_true c13
     clear c13
     have H' := Aside0.mk H
     clear H
     go_wp2
     go_loopg [10, 11] k1 (fun kq v10 v11 w' => ∃ (x10_2 : Bool) (x11_2 : Int), v10 = .bool x10_2 ∧ v11 = .int .i64 x11_2 ∧ Aside0 (pianolaref04_Delay.l1 kq a1 t305 t308 x9_1 x10_2 x11_2 = some (r1, r2)) ∧ Aside0 (kq ≤ k1) ∧ Aside0 (Kd.R (Kd.int .i64) 3 w' w.heap.size (fun k_ => some k_ ≠ (v309 : Value).ownBlock) v306 t305) ∧ Aside0 (Kd.R (Kd.int .i64) 3 w' w.heap.size (fun k_ => some k_ ≠ (v306 : Value).ownBlock) v309 t308) ∧ Aside0 (w'.heap[gb303]? = some (.cells #[(.slice A0_0 l0_0.length c0_0), (.slice A0_1 l0_1.length c0_1)] 44 (0, 0))) ∧ Aside0 (Below w.heap.size w w'))
     case atStart => exact ⟨(true), (0), (by first | rfl | (simp; done) | (simp [*]; done)), (by first | rfl | (simp; done) | (simp [*]; done)), H', ⟨Nat.le_refl _⟩, ⟨zqC HO_7.out⟩, ⟨zqC HO_8.out⟩, ⟨zqB BK303.out⟩, ⟨zqG HB.out GE303.out⟩⟩
     case round =>
      clear H'
      try clear c1
      try clear p2
      try clear c3
      try clear c4
      try clear c4b0
      try clear c4b1
      try clear c6
      try clear p6
      try clear c13
      try clear c13b0
      try clear hcz8_0
      try clear hcz8_1
      try clear hfz8_0
      try clear hfz8_1
      try clear p2
      try clear p6
      obtain ⟨x10_2, x11_2, rfl, rfl, HA, HK2, HO_7, HO_8, BK303, HB⟩ := hrel
      cases gk with
      | zero => exact absurd HA.out (by simp [pianolaref04_Delay.l1])
      | succ k2 =>
       have H := HA.out
       clear HA
       simp only [pianolaref04_Delay.l1] at H
       by_cases c14 : x11_2 ≤ a1
       ·
        rw [if_pos c14] at H
        have c14b0 : decide (x11_2 ≤ a1) = true := decide_eq_true c14
        clear c14
        by_cases c15 : x10_2 = true
        ·
         subst c15
         have H1 : (if 0 ≤ (wrap64 (x11_2 + x9_1)) then (if (wrap64 (x11_2 + x9_1)) < (t308.length : Int) then (if 0 ≤ x11_2 then (if x11_2 < (t305.length : Int) then (pianolaref04_Delay.l1 k2 a1 t305 t308 x9_1 (decide ((rd t308 (wrap64 (x11_2 + x9_1))) ≥ (rd t305 x11_2))) (wrap64 (x11_2 + 1))) else (none)) else (none)) else (none)) else (none)) = some (r1, r2) := by rw [if_pos rfl] at H; exact H
         clear H
         have H := H1
         clear H1
         obtain ⟨ji16, hji16⟩ : ∃ j_ : Int, (wrap64 (x11_2 + x9_1)) = j_ := ⟨_, rfl⟩
         replace H : (if 0 ≤ (ji16) then (if (ji16) < (t308.length : Int) then (if 0 ≤ x11_2 then (if x11_2 < (t305.length : Int) then (pianolaref04_Delay.l1 k2 a1 t305 t308 x9_1 (decide ((rd t308 (ji16)) ≥ (rd t305 x11_2))) (wrap64 (x11_2 + 1))) else (none)) else (none)) else (none)) else (none)) = some (r1, r2) := by first | (rw [hji16] at H; exact H) | (simp only [hji16] at H ⊢; exact H)
         have hji16w : (IntKind.i64.wrap (x11_2 + x9_1)) = ji16 := (i64_w _).trans hji16
         by_cases c17 : 0 ≤ (ji16)
         ·
          rw [if_pos c17] at H
          have c17b0 : decide (0 ≤ (ji16)) = true := decide_eq_true c17
          clear c17
          by_cases c18 : (ji16) < (t308.length : Int)
          ·
           rw [if_pos c18] at H
           have c18b0 : decide ((ji16) < (t308.length : Int)) = true := decide_eq_true c18
           clear c18
           by_cases c19 : 0 ≤ x11_2
           ·
            rw [if_pos c19] at H
            have c19b0 : decide (0 ≤ x11_2) = true := decide_eq_true c19
            clear c19
            by_cases c20 : x11_2 < (t305.length : Int)
            ·
             rw [if_pos c20] at H
             have c20b0 : decide (x11_2 < (t305.length : Int)) = true := decide_eq_true c20
             clear c20
             have H' := Aside0.mk H
             clear H
             try go_wp2
             have n0_ := Aside0.mk (Kd.R_drew HO_7.out)
             have n1_ := Aside0.mk (Kd.R_drew HO_8.out)
             have n2_ := Aside0.mk (blk_drew BK303.out)
             have n3_ := Aside0.mk (below_drew1 HB.out)
             clear HO_7
             clear HO_8
             clear BK303
             clear HB
             have HO_7 := n0_
             have HO_8 := n1_
             have BK303 := n2_
             have HB := n3_
             clear n0_ n1_ n2_ n3_
             obtain ⟨Ao22, co22, eo22⟩ := Kd.R_slice HO_8.out
             (first | subst eo22 | (injection eo22 with f1_ f2_ f3_; have f4_ := f1_.symm; have f5_ := f3_.symm; clear f1_ f2_ f3_; subst f4_; subst f5_))
             have p311 : 0 ≤ ((ji16) : Int) := of_decide_eq_true (zqD)
             have q311 : (ji16) < (t308.length : Int) := of_decide_eq_true (zqD)
             obtain ⟨ad311, e311, hx311_0⟩ := Kd.at_int (Kd.R_reads' HO_8.out).2.2 (ji16) p311 q311
             cases e311
             replace p311 := eq_true p311
             replace q311 := eq_true q311
             obtain ⟨Ao23, co23, eo23⟩ := Kd.R_slice HO_7.out
             (first | subst eo23 | (injection eo23 with f1_ f2_ f3_; have f4_ := f1_.symm; have f5_ := f3_.symm; clear f1_ f2_ f3_; subst f4_; subst f5_))
             have p312 : 0 ≤ (x11_2 : Int) := of_decide_eq_true (zqD)
             have q312 : x11_2 < (t305.length : Int) := of_decide_eq_true (zqD)
             obtain ⟨ad312, e312, hx312_0⟩ := Kd.at_int (Kd.R_reads' HO_7.out).2.2 x11_2 p312 q312
             cases e312
             replace p312 := eq_true p312
             replace q312 := eq_true q312
             refine start_ (n := 15) (S := fun w' => w'.cell? (ad311.add ((ji16)).toNat) = some (.int .i64 (rd t308 (ji16))) ∧ w'.cell? (ad312.add (x11_2).toNat) = some (.int .i64 (rd t305 x11_2))) (ds := []) #[false, false, false, false, false, false, false, false, false, false, false, false, false, false, false] (by kernel_rfl) rfl rfl ⟨hx311_0, hx312_0⟩ (fun hHeld => ?_); refine with_tabW pianolaref04_Delay.tab12 pianolaref04_Delay.bits12 (fun HT_ HW_ => ?_)
             generalize wr.drew = w21 at HO_7 HO_8 BK303 HB hx311_0 hx312_0 hHeld ⊢
             refine pure_ (i := 0) (N := some 34) (v := ?_) (a' := ?_) #[true, false, false, false, false, false, false, false, false, false, false, false, false, false, false] rfl rfl (any_of HT_.out (by kernel_rfl)) (fun _ _ _ h => h) (Or.inl ⟨by rfl, ?_⟩) ?_ ?_
             rotate_left
             ·
              intro w'
              go_simp
              with_reducible rfl
             rotate_left
             ·
              simp only [Act.put, List.setIfInBounds_toArray, List.set_cons_zero, List.set_cons_succ, i64_w, i32_w]
              rfl
             refine pure_ (i := 1) (N := some 35) (v := ?_) (a' := ?_) #[true, true, false, false, false, false, false, false, false, false, false, false, false, false, false] rfl rfl (any_of HT_.out (by kernel_rfl)) (fun _ _ _ h => h) (Or.inl ⟨by rfl, ?_⟩) ?_ ?_
             rotate_left
             ·
              intro w'
              go_simp
              with_reducible rfl
             rotate_left
             ·
              simp only [Act.put, List.setIfInBounds_toArray, List.set_cons_zero, List.set_cons_succ, i64_w, i32_w]
              rfl
             refine pure_ (i := 2) (N := some 36) (v := ?_) (a' := ?_) #[true, true, true, false, false, false, false, false, false, false, false, false, false, false, false] rfl rfl (any_of HT_.out (by kernel_rfl)) (fun _ _ _ h => h) (Or.inl ⟨by rfl, ?_⟩) ?_ ?_
             rotate_left
             ·
              intro w'
              go_simp
              with_reducible rfl
             rotate_left
             ·
              simp only [Act.put, List.setIfInBounds_toArray, List.set_cons_zero, List.set_cons_succ, i64_w, i32_w]
              rfl
             refine pure_ (i := 3) (N := some 37) (v := ?_) (a' := ?_) #[true, true, true, true, false, false, false, false, false, false, false, false, false, false, false] rfl rfl (any_of HT_.out (by kernel_rfl)) (fun _ _ _ h => h) (Or.inl ⟨by rfl, ?_⟩) ?_ ?_
             rotate_left
             ·
              intro w'
              go_simp
              with_reducible rfl
             rotate_left
             ·
              simp only [Act.put, List.setIfInBounds_toArray, List.set_cons_zero, List.set_cons_succ, i64_w, i32_w]
              rfl
             refine pure_ (i := 4) (N := some 38) (v := ?_) (a' := ?_) #[true, true, true, true, true, false, false, false, false, false, false, false, false, false, false] rfl rfl (any_of HT_.out (by kernel_rfl)) (fun _ _ _ h => h) (Or.inl ⟨by rfl, ?_⟩) ?_ ?_
             rotate_left
             ·
              intro w'
              go_simp
              with_reducible rfl
             rotate_left
             ·
              simp only [Act.put, List.setIfInBounds_toArray, List.set_cons_zero, List.set_cons_succ, i64_w, i32_w]
              rfl
             refine pure_ (i := 5) (N := some 39) (v := ?_) (a' := ?_) #[true, true, true, true, true, true, false, false, false, false, false, false, false, false, false] rfl rfl (any_of HT_.out (by kernel_rfl)) (fun _ _ _ h => h) (Or.inl ⟨by rfl, ?_⟩) ?_ ?_
             rotate_left
             ·
              intro w'
              go_simp
              with_reducible rfl
             rotate_left
             ·
              simp only [Act.put, List.setIfInBounds_toArray, List.set_cons_zero, List.set_cons_succ, i64_w, i32_w]
              rfl
             refine pure_ (i := 6) (N := some 40) (v := ?_) (a' := ?_) #[true, true, true, true, true, true, true, false, false, false, false, false, false, false, false] rfl rfl (any_of HT_.out (by kernel_rfl)) (fun _ _ _ h => h) (Or.inl ⟨by rfl, ?_⟩) ?_ ?_
             rotate_left
             ·
              intro w'
              go_simp
              with_reducible rfl
             rotate_left
             ·
              simp only [Act.put, List.setIfInBounds_toArray, List.set_cons_zero, List.set_cons_succ, i64_w, i32_w]
              rfl
             refine pure_ (i := 8) (N := some 42) (v := ?_) (a' := ?_) #[true, true, true, true, true, true, true, false, true, false, false, false, false, false, false] rfl rfl (any_of HT_.out (by kernel_rfl)) (fun _ _ _ h => h) (Or.inl ⟨by rfl, ?_⟩) ?_ ?_
             rotate_left
             ·
              intro w'
              go_simp
              with_reducible rfl
             rotate_left
             ·
              simp only [Act.put, List.setIfInBounds_toArray, List.set_cons_zero, List.set_cons_succ, i64_w, i32_w]
              rfl
             refine pure_ (i := 9) (N := some 43) (v := ?_) (a' := ?_) #[true, true, true, true, true, true, true, false, true, true, false, false, false, false, false] rfl rfl (any_of HT_.out (by kernel_rfl)) (fun _ _ _ h => h) (Or.inl ⟨by rfl, ?_⟩) ?_ ?_
             rotate_left
             ·
              intro w'
              go_simp
              with_reducible rfl
             rotate_left
             ·
              simp only [Act.put, List.setIfInBounds_toArray, List.set_cons_zero, List.set_cons_succ, i64_w, i32_w]
              rfl
             refine pure_ (i := 10) (N := some 44) (v := ?_) (a' := ?_) #[true, true, true, true, true, true, true, false, true, true, true, false, false, false, false] rfl rfl (any_of HT_.out (by kernel_rfl)) (fun _ _ _ h => h) (Or.inl ⟨by rfl, ?_⟩) ?_ ?_
             rotate_left
             ·
              intro w'
              go_simp
              with_reducible rfl
             rotate_left
             ·
              simp only [Act.put, List.setIfInBounds_toArray, List.set_cons_zero, List.set_cons_succ, i64_w, i32_w]
              rfl
             refine take_ (i := 7) (N := some 41) (v := ?_) (a' := ?_) #[true, true, true, true, true, true, true, true, true, true, true, false, false, false, false] rfl rfl (take_ofW HT_.out HW_.out (by kernel_rfl)) (fun _ _ _ h => h) (Or.inl ⟨by rfl, ?_⟩) hHeld ?_ ?_
             rotate_left
             ·
              rintro w' ⟨s0, s1⟩
              go_simp
              with_reducible rfl
             rotate_left
             ·
              simp only [Act.put, List.setIfInBounds_toArray, List.set_cons_zero, List.set_cons_succ, i64_w, i32_w]
              rfl
             refine take_ (i := 11) (N := some 45) (v := ?_) (a' := ?_) #[true, true, true, true, true, true, true, true, true, true, true, true, false, false, false] rfl rfl (take_ofW HT_.out HW_.out (by kernel_rfl)) (fun _ _ _ h => h) (Or.inl ⟨by rfl, ?_⟩) hHeld ?_ ?_
             rotate_left
             ·
              rintro w' ⟨s0, s1⟩
              go_simp
              with_reducible rfl
             rotate_left
             ·
              simp only [Act.put, List.setIfInBounds_toArray, List.set_cons_zero, List.set_cons_succ, i64_w, i32_w]
              rfl
             refine pure_ (i := 12) (N := some 46) (v := ?_) (a' := ?_) #[true, true, true, true, true, true, true, true, true, true, true, true, true, false, false] rfl rfl (any_of HT_.out (by kernel_rfl)) (fun _ _ _ h => h) (Or.inl ⟨by rfl, ?_⟩) ?_ ?_
             rotate_left
             ·
              intro w'
              go_simp
              with_reducible rfl
             rotate_left
             ·
              simp only [Act.put, List.setIfInBounds_toArray, List.set_cons_zero, List.set_cons_succ, i64_w, i32_w]
              rfl
             refine pure_ (i := 13) (N := some 47) (v := ?_) (a' := ?_) #[true, true, true, true, true, true, true, true, true, true, true, true, true, true, false] rfl rfl (any_of HT_.out (by kernel_rfl)) (fun _ _ _ h => h) (Or.inl ⟨by rfl, ?_⟩) ?_ ?_
             rotate_left
             ·
              intro w'
              go_simp
              with_reducible rfl
             rotate_left
             ·
              simp only [Act.put, List.setIfInBounds_toArray, List.set_cons_zero, List.set_cons_succ, i64_w, i32_w]
              rfl
             refine pure_ (i := 14) (N := some 10) (v := ?_) (a' := ?_) #[true, true, true, true, true, true, true, true, true, true, true, true, true, true, true] rfl rfl (any_of HT_.out (by kernel_rfl)) (fun _ _ _ h => h) (Or.inl ⟨by rfl, ?_⟩) ?_ ?_
             rotate_left
             ·
              intro w'
              go_simp
              with_reducible rfl
             rotate_left
             ·
              simp only [Act.put, List.setIfInBounds_toArray, List.set_cons_zero, List.set_cons_succ, i64_w, i32_w]
              rfl
             refine done_ (done_of HT_.out (by kernel_rfl)) ?_
             try go_wp2
             go_roundg k2
             case measure => have := HK1.out; have := HK2.out; omega
             case rel => exact ⟨(decide ((rd t308 (ji16)) ≥ (rd t305 x11_2))), (wrap64 (x11_2 + 1)), (by first | rfl | (simp; done) | (simp only [← hji16] <;> (first | rfl | simp)) | (simp [*]; done)), (by first | rfl | (simp; done) | (simp [*]; done)), H', ⟨by have := HK1.out; have := HK2.out; omega⟩, ⟨zqC HO_7.out⟩, ⟨zqC HO_8.out⟩, ⟨zqB BK303.out⟩, ⟨zqG HB.out GE303.out⟩⟩
            ·
             rw [if_neg c20] at H
             exact absurd H (by simp)
           ·
            rw [if_neg c19] at H
            exact absurd H (by simp)
          ·
           rw [if_neg c18] at H
           exact absurd H (by simp)
         ·
          rw [if_neg c17] at H
          exact absurd H (by simp)
        ·
         replace c15 := Bool.eq_false_iff.mpr c15
         subst c15
         have H1 : (pianolaref04_Delay.l1 k2 a1 t305 t308 x9_1 false (wrap64 (x11_2 + 1))) = some (r1, r2) := by rw [if_neg (show ¬ (false = true) by decide)] at H; exact H
         clear H
         have H := H1
         clear H1
         have H' := Aside0.mk H
         clear H
         try go_wp2
         have n0_ := Aside0.mk (Kd.R_drew HO_7.out)
         have n1_ := Aside0.mk (Kd.R_drew HO_8.out)
         have n2_ := Aside0.mk (blk_drew BK303.out)
         have n3_ := Aside0.mk (below_drew1 HB.out)
         clear HO_7
         clear HO_8
         clear BK303
         clear HB
         have HO_7 := n0_
         have HO_8 := n1_
         have BK303 := n2_
         have HB := n3_
         clear n0_ n1_ n2_ n3_
         refine start_ (n := 15) (S := fun w' => True) (ds := []) #[false, false, false, false, false, false, false, false, false, false, false, false, false, false, false] (by kernel_rfl) rfl rfl trivial (fun hHeld => ?_); refine with_tabW pianolaref04_Delay.tab12 pianolaref04_Delay.bits12 (fun HT_ HW_ => ?_)
         generalize wr.drew = w24 at HO_7 HO_8 BK303 HB hHeld ⊢
         refine pure_ (i := 0) (N := some 34) (v := ?_) (a' := ?_) #[true, false, false, false, false, false, false, false, false, false, false, false, false, false, false] rfl rfl (any_of HT_.out (by kernel_rfl)) (fun _ _ _ h => h) (Or.inl ⟨by rfl, ?_⟩) ?_ ?_
         rotate_left
         ·
          intro w'
          go_simp
          with_reducible rfl
         rotate_left
         ·
          simp only [Act.put, List.setIfInBounds_toArray, List.set_cons_zero, List.set_cons_succ, i64_w, i32_w]
          rfl
         refine pure_ (i := 1) (N := some 35) (v := ?_) (a' := ?_) #[true, true, false, false, false, false, false, false, false, false, false, false, false, false, false] rfl rfl (any_of HT_.out (by kernel_rfl)) (fun _ _ _ h => h) (Or.inl ⟨by rfl, ?_⟩) ?_ ?_
         rotate_left
         ·
          intro w'
          go_simp
          with_reducible rfl
         rotate_left
         ·
          simp only [Act.put, List.setIfInBounds_toArray, List.set_cons_zero, List.set_cons_succ, i64_w, i32_w]
          rfl
         refine pure_ (i := 2) (N := some 36) (v := undef) (a' := ?_) #[true, true, true, false, false, false, false, false, false, false, false, false, false, false, false] rfl rfl (any_of HT_.out (by kernel_rfl)) (fun _ _ _ h => h) (Or.inr ⟨by rfl, rfl⟩) ?_ ?_
         rotate_left
         ·
          simp only [Act.put, List.setIfInBounds_toArray, List.set_cons_zero, List.set_cons_succ, i64_w, i32_w]
          rfl
         refine pure_ (i := 3) (N := some 37) (v := undef) (a' := ?_) #[true, true, true, true, false, false, false, false, false, false, false, false, false, false, false] rfl rfl (any_of HT_.out (by kernel_rfl)) (fun _ _ _ h => h) (Or.inr ⟨by rfl, rfl⟩) ?_ ?_
         rotate_left
         ·
          simp only [Act.put, List.setIfInBounds_toArray, List.set_cons_zero, List.set_cons_succ, i64_w, i32_w]
          rfl
         refine pure_ (i := 4) (N := some 38) (v := undef) (a' := ?_) #[true, true, true, true, true, false, false, false, false, false, false, false, false, false, false] rfl rfl (any_of HT_.out (by kernel_rfl)) (fun _ _ _ h => h) (Or.inr ⟨by rfl, rfl⟩) ?_ ?_
         rotate_left
         ·
          simp only [Act.put, List.setIfInBounds_toArray, List.set_cons_zero, List.set_cons_succ, i64_w, i32_w]
          rfl
         refine pure_ (i := 5) (N := some 39) (v := undef) (a' := ?_) #[true, true, true, true, true, true, false, false, false, false, false, false, false, false, false] rfl rfl (any_of HT_.out (by kernel_rfl)) (fun _ _ _ h => h) (Or.inr ⟨by rfl, rfl⟩) ?_ ?_
         rotate_left
         ·
          simp only [Act.put, List.setIfInBounds_toArray, List.set_cons_zero, List.set_cons_succ, i64_w, i32_w]
          rfl
         refine pure_ (i := 6) (N := some 40) (v := undef) (a' := ?_) #[true, true, true, true, true, true, true, false, false, false, false, false, false, false, false] rfl rfl (any_of HT_.out (by kernel_rfl)) (fun _ _ _ h => h) (Or.inr ⟨by rfl, rfl⟩) ?_ ?_
         rotate_left
         ·
          simp only [Act.put, List.setIfInBounds_toArray, List.set_cons_zero, List.set_cons_succ, i64_w, i32_w]
          rfl
         refine pure_ (i := 7) (N := some 41) (v := undef) (a' := ?_) #[true, true, true, true, true, true, true, true, false, false, false, false, false, false, false] rfl rfl (any_of HT_.out (by kernel_rfl)) (fun _ _ _ h => h) (Or.inr ⟨by rfl, rfl⟩) ?_ ?_
         rotate_left
         ·
          simp only [Act.put, List.setIfInBounds_toArray, List.set_cons_zero, List.set_cons_succ, i64_w, i32_w]
          rfl
         refine pure_ (i := 8) (N := some 42) (v := undef) (a' := ?_) #[true, true, true, true, true, true, true, true, true, false, false, false, false, false, false] rfl rfl (any_of HT_.out (by kernel_rfl)) (fun _ _ _ h => h) (Or.inr ⟨by rfl, rfl⟩) ?_ ?_
         rotate_left
         ·
          simp only [Act.put, List.setIfInBounds_toArray, List.set_cons_zero, List.set_cons_succ, i64_w, i32_w]
          rfl
         refine pure_ (i := 9) (N := some 43) (v := undef) (a' := ?_) #[true, true, true, true, true, true, true, true, true, true, false, false, false, false, false] rfl rfl (any_of HT_.out (by kernel_rfl)) (fun _ _ _ h => h) (Or.inr ⟨by rfl, rfl⟩) ?_ ?_
         rotate_left
         ·
          simp only [Act.put, List.setIfInBounds_toArray, List.set_cons_zero, List.set_cons_succ, i64_w, i32_w]
          rfl
         refine pure_ (i := 10) (N := some 44) (v := undef) (a' := ?_) #[true, true, true, true, true, true, true, true, true, true, true, false, false, false, false] rfl rfl (any_of HT_.out (by kernel_rfl)) (fun _ _ _ h => h) (Or.inr ⟨by rfl, rfl⟩) ?_ ?_
         rotate_left
         ·
          simp only [Act.put, List.setIfInBounds_toArray, List.set_cons_zero, List.set_cons_succ, i64_w, i32_w]
          rfl
         refine pure_ (i := 11) (N := some 45) (v := undef) (a' := ?_) #[true, true, true, true, true, true, true, true, true, true, true, true, false, false, false] rfl rfl (any_of HT_.out (by kernel_rfl)) (fun _ _ _ h => h) (Or.inr ⟨by rfl, rfl⟩) ?_ ?_
         rotate_left
         ·
          simp only [Act.put, List.setIfInBounds_toArray, List.set_cons_zero, List.set_cons_succ, i64_w, i32_w]
          rfl
         refine pure_ (i := 12) (N := some 46) (v := undef) (a' := ?_) #[true, true, true, true, true, true, true, true, true, true, true, true, true, false, false] rfl rfl (any_of HT_.out (by kernel_rfl)) (fun _ _ _ h => h) (Or.inr ⟨by rfl, rfl⟩) ?_ ?_
         rotate_left
         ·
          simp only [Act.put, List.setIfInBounds_toArray, List.set_cons_zero, List.set_cons_succ, i64_w, i32_w]
          rfl
         refine pure_ (i := 13) (N := some 47) (v := ?_) (a' := ?_) #[true, true, true, true, true, true, true, true, true, true, true, true, true, true, false] rfl rfl (any_of HT_.out (by kernel_rfl)) (fun _ _ _ h => h) (Or.inl ⟨by rfl, ?_⟩) ?_ ?_
         rotate_left
         ·
          intro w'
          go_simp
          with_reducible rfl
         rotate_left
         ·
          simp only [Act.put, List.setIfInBounds_toArray, List.set_cons_zero, List.set_cons_succ, i64_w, i32_w]
          rfl
         refine pure_ (i := 14) (N := some 10) (v := ?_) (a' := ?_) #[true, true, true, true, true, true, true, true, true, true, true, true, true, true, true] rfl rfl (any_of HT_.out (by kernel_rfl)) (fun _ _ _ h => h) (Or.inl ⟨by rfl, ?_⟩) ?_ ?_
         rotate_left
         ·
          intro w'
          go_simp
          with_reducible rfl
         rotate_left
         ·
          simp only [Act.put, List.setIfInBounds_toArray, List.set_cons_zero, List.set_cons_succ, i64_w, i32_w]
          rfl
         refine done_ (done_of HT_.out (by kernel_rfl)) ?_
         try go_wp2
         go_roundg k2
         case measure => have := HK1.out; have := HK2.out; omega
         case rel => exact ⟨(false), (wrap64 (x11_2 + 1)), (by first | rfl | (simp; done) | (simp [*]; done)), (by first | rfl | (simp; done) | (simp [*]; done)), H', ⟨by have := HK1.out; have := HK2.out; omega⟩, ⟨zqC HO_7.out⟩, ⟨zqC HO_8.out⟩, ⟨zqB BK303.out⟩, ⟨zqG HB.out GE303.out⟩⟩
       ·
        rw [if_neg c14] at H
        have c14b0 : decide (x11_2 ≤ a1) = false := decide_eq_false c14
        clear c14
        by_cases c25 : x10_2 = true
        ·
         subst c25
         have H1 : (some (x9_1, 0)) = some (r1, r2) := by rw [if_pos rfl] at H; exact H
         clear H
         have H := H1
         clear H1
         simp only [Option.some.injEq, Prod.mk.injEq] at H
         obtain ⟨rfl, rfl⟩ := H
         go_wp2
         go_ret2
         exact ⟨by first | rfl | (simp [errW_none, errW_some] <;> rfl) | (simp [*, errW_none, errW_some] <;> rfl), zqG HB.out GE303.out⟩
        ·
         replace c25 := Bool.eq_false_iff.mpr c25
         subst c25
         have H1 : (pianolaref04_Delay.l0 k2 a1 t305 t308 (wrap64 (x9_1 + 1))) = some (r1, r2) := by rw [if_neg (show ¬ (false = true) by decide)] at H; exact H
         clear H
         have H := H1
         clear H1
         have H' := Aside0.mk H
         clear H
         go_wp2
         go_roundg k2
         case measure => have := HK1.out; have := HK2.out; omega
         case rel => exact ⟨(wrap64 (x9_1 + 1)), (by first | rfl | (simp; done) | (simp [*]; done)), H', ⟨by have := HK1.out; have := HK2.out; omega⟩, ⟨zqC HO_7.out⟩, ⟨zqC HO_8.out⟩, ⟨zqB BK303.out⟩, ⟨zqG HB.out GE303.out⟩⟩
    ·
     rw [if_neg c13] at H
     have c13b0 : decide (x9_1 ≤ 200) = false := decide_eq_false c13
     clear c13
     simp only [Option.some.injEq, Prod.mk.injEq] at H
     obtain ⟨rfl, rfl⟩ := H
     go_wp2
     go_ret2
     exact ⟨by first | rfl | (simp [errW_none, errW_some] <;> rfl) | (simp [*, errW_none, errW_some] <;> rfl), zqG HB.out GE303.out⟩
 ·
  rw [if_neg c4] at H
  have c4b0 : (t304 == 0) = false := beq_eq_false_iff_ne.mpr c4
  have c4b1 : (t304 != 0) = true := bne_iff_ne.mpr c4
  simp only [Option.some.injEq, Prod.mk.injEq] at H
  obtain ⟨rfl, rfl⟩ := H
  go_enter Try.func33, Try.ntmps33
  go_wp2_with (first | ((with_reducible refine gate_dst (N := 2) rfl ?_); refine box_event ?hg (N := 2) ?hd (cs := #[.slice A0_0 l0_0.length c0_0, .slice A0_1 l0_1.length c0_1]) (t := 44) ?hr ?_; (case hd => rfl); (case hg => rfl); (case hr => first | (go_simp; done) | (go_simp; rfl)); intro gb303 hg w26 hbox hb; have n0_ := Aside0.mk (below_step (zqA HB.out) hb); have n1_ := Aside0.mk (hbox); have n2_ := Aside0.mk ((by rw [hg]; exact (below_size (zqA HB.out)) : w.heap.size ≤ gb303)); have n3_ := Aside0.mk ((by rw [hg]; exact (below_size (zqA HB.out)) : w.heap.size ≤ gb303)); clear HB; have HB := n0_; have BK303 := n1_; have GW303 := n2_; have GE303 := n3_; clear n0_ n1_ n2_ n3_; clear hb hbox hg; have hcz27_0 : w26.cell? ⟨gb303, 0, none⟩ = some (.slice A0_0 l0_0.length c0_0) := (blk_cell BK303.out 0).trans rfl; have hcz27_1 : w26.cell? ⟨gb303, 1, none⟩ = some (.slice A0_1 l0_1.length c0_1) := (blk_cell BK303.out 1).trans rfl; have hfz27_0 := blk_frozen BK303.out 0; have hfz27_1 := blk_frozen BK303.out 1) | ((with_reducible refine gate_callee (f := 65) rfl ?_); refine goesL_ (some 14) rfl rfl Try.func65 (by kernel_rfl) rfl #[.agg #[.slice A0_0 l0_0.length c0_0, .slice A0_1 l0_1.length c0_1], .int .i64 a1] rfl zqE ?_; (with_reducible refine (pianolaref04_planned.calls k _ _ l0_0 _ _ l0_1 a1 t304 _ ?side1 ?side2 ?side3 ?side4 A3.out).mono ?_); (case side1 => repeat (first | exact (Kd.C_below HR0_0.out HB.out) | (with_reducible refine Kd.C_alloc ?_ _) | (with_reducible refine Kd.C_drewN ?_ _) | (with_reducible refine Kd.C_drew ?_))); (case side2 => exact HC0_0.out); (case side3 => repeat (first | exact (Kd.C_below HR0_1.out HB.out) | (with_reducible refine Kd.C_alloc ?_ _) | (with_reducible refine Kd.C_drewN ?_ _) | (with_reducible refine Kd.C_drew ?_))); (case side4 => exact HC0_1.out); rintro e w28 ⟨rfl, hb⟩; refine ⟨_, rfl, ?_⟩; have n0_ := Aside0.mk (blk_below (g := gb303) (o := .cells #[.slice A0_0 l0_0.length c0_0, .slice A0_1 l0_1.length c0_1] 44 (0, 0)) (zqB BK303.out) hb); have n1_ := Aside0.mk (below_step (zqG HB.out GE303.out) hb); clear BK303; clear HB; have BK303 := n0_; have HB := n1_; clear n0_ n1_; (try clear hb); (try clear hb2); (try clear hk); (try clear hi)))
  go_ret2
  exact ⟨by first | rfl | (simp [errW_none, errW_some] <;> rfl) | (simp [*, errW_none, errW_some] <;> rfl), zqG HB.out GE303.out⟩
end Go.Proofs.Ythoeindopljmkaa.P
end
section
namespace Go.Proofs.Ythoeindopljmkaa.P
open Go.RowKit Go.Proofs.YthoeindopljmkaaW.PrintWords Go.Proofs.YthoeindopljmkaaW.PrintLast Go.Proofs.YthoeindopljmkaaW.PrintMore
attribute [local go_sem] max2_int min2_int max_two min_two max_three min_three max_four min_four
set_option linter.unusedVariables false
set_option linter.unusedSimpArgs false
def pianolalaw04_PumpRows.j0 : Nat → Int → Bool → List (List (S71)) → List (List (S71)) → Option (Bool)
  | 0, _, _, _, _ => none
  | k + 1, x1, x27, x314000, x314001 => if x27 = true then ((pianolalaw04_works.f).bind fun t316 => (some t316)) else ((pianolalaw04_plant.f k x314000 x314001).bind fun bt317 => ((pump_Row.f x314000 x314001 x1).bind fun bt324 => ((pianolaref04_Row.f k bt317.1 bt317.2 x1).bind fun bt326 => ((pump_Drop.f k x314000 x314001 x1).bind fun bt328 => ((pianolaref04_Drop.f k bt317.1 bt317.2 x1).bind fun bt331 => ((pump_Delay.f k x314000 x314001 x1).bind fun bt334 => ((pianolaref04_Delay.f k bt317.1 bt317.2 x1).bind fun bt336 => (if bt324.1 = bt326.1 then (if bt324.2 = bt326.2 then (if bt328.1 = bt331.1 then (if bt328.2.1 = bt331.2.1 then (if bt328.2.2 = bt331.2.2 then (if bt334.1 = bt336.1 then (if bt334.2 = bt336.2 then ((pump_Check.f x314000 x314001).bind fun t338 => ((pianolaref04_Check.f k bt317.1 bt317.2).bind fun t339 => (if t338 = t339 then ((pianolalaw04_works.f).bind fun t340 => (some t340)) else (some false)))) else (some false)) else (some false)) else (some false)) else (some false)) else (some false)) else (some false)) else (some false)))))))))
def pianolalaw04_PumpRows.f (k : Nat) (l0_0 : List (List (S71))) (l0_1 : List (List (S71))) (a1 : Int) : Option (Bool) := (pianolalaw04_long.f k l0_0).bind fun t314 => (if t314 = true then (pianolalaw04_PumpRows.j0 k a1 true l0_0 l0_1) else ((pianolalaw04_long.f k l0_1).bind fun t315 => (pianolalaw04_PumpRows.j0 k a1 t315 l0_0 l0_1)))
def pianolalaw04_PumpRows.T10 : Bool × List (List Nat × List Nat) := (true, [([], []), ([], []), ([0, 1], [0, 1]), ([2], [2]), ([3], [3]), ([3], [3]), ([4, 5, 3], [3, 4, 5]), ([3, 6], [3, 6]), ([7, 3], [7]), ([8], [8]), ([8], [8]), ([9, 10, 8], [8, 9, 10]), ([8, 11], [8, 11]), ([12, 8], [12]), ([13], [13]), ([13], [13]), ([14, 15, 13], [13, 14, 15]), ([13, 16], [13, 16]), ([17, 13], [17]), ([18], [18]), ([18], [18]), ([19, 20, 18], [18, 19, 20]), ([18, 21], [18, 21]), ([22, 18], [22]), ([23], [23]), ([23], [23]), ([24, 25, 23], [23, 24, 25]), ([23, 26], [23, 26]), ([27, 23], [27]), ([28], [28]), ([28], [28]), ([29, 30, 28], [28, 29, 30]), ([28, 31], [28, 31]), ([32, 28], [32]), ([33], [33]), ([34, 33, 33], [33, 34]), ([33], [33]), ([36, 35, 33], [33, 36]), ([35, 37, 33], [33, 35, 37]), ([33, 38], [33, 38]), ([39, 37], [39]), ([40, 40], [40]), ([40, 41], [40, 41]), ([42, 41, 0, 1, 2, 3, 4, 5, 6, 7, 8, 9, 10, 11, 12, 13, 14, 15, 16, 17, 18, 19, 20, 21, 22, 23, 24, 25, 26, 27, 28, 29, 30, 31, 32, 33, 34, 35, 36, 37, 38, 39, 40, 41, 42], [42])])
def pianolalaw04_PumpRows.B10 : List Nat := [0, 0, 3, 7, 15, 15, 63, 127, 255, 511, 511, 2047, 4095, 8191, 16383, 16383, 65535, 131071, 262143, 524287, 524287, 2097151, 4194303, 8388607, 16777215, 16777215, 67108863, 134217727, 268435455, 536870911, 536870911, 2147483647, 4294967295, 8589934591, 17179869183, 34359738367, 17179869183, 137438953471, 274877906943, 549755813887, 1099511627775, 2199023255551, 4398046511103, 8796093022207]
theorem pianolalaw04_PumpRows.tab10 : rtab .any (opsOf Try.f4 10) = pianolalaw04_PumpRows.T10 := by kernel_rfl
theorem pianolalaw04_PumpRows.bits10 : waitsOk pianolalaw04_PumpRows.T10.2 pianolalaw04_PumpRows.B10 = true := by kernel_rfl
set_option maxHeartbeats 8000000 in
set_option maxRecDepth 100000 in
theorem pianolalaw04_PumpRows.calls (k : Nat) (A0_0 : Option Addr) (c0_0 : Nat) (l0_0 : List (List (S71))) (A0_1 : Option Addr) (c0_1 : Nat) (l0_1 : List (List (S71))) (a1 : Int) (r : Bool) (hrt : r = true) (w : World) (hr0_0 : Kd.C (Kd.slice 71 k71) w A0_0 l0_0.length l0_0) (hc0_0 : l0_0.length ≤ c0_0) (hr0_1 : Kd.C (Kd.slice 71 k71) w A0_1 l0_1.length l0_1) (hc0_1 : l0_1.length ≤ c0_1) (h : pianolalaw04_PumpRows.f k l0_0 l0_1 a1 = some r) :
  Calls Try.prog 4 #[.agg #[.slice A0_0 l0_0.length c0_0, .slice A0_1 l0_1.length c0_1], .int .i64 a1] w fun e w' => e = .returned (.bool r) ∧ Below w.heap.size w w' := by
 have HRT := Aside0.mk hrt
 clear hrt
 have hu40 := Try.underlying40
 have hu44 := Try.underlying44
 have HR0_0 := Aside0.mk hr0_0
 have HC0_0 := Aside0.mk hc0_0
 clear hr0_0 hc0_0
 have HR0_1 := Aside0.mk hr0_1
 have HC0_1 := Aside0.mk hc0_1
 clear hr0_1 hc0_1
 have HB := Aside0.mk (Below.refl w.heap.size w)
 have H : ((pianolalaw04_long.f k l0_0).bind fun t314 => (if t314 = true then (pianolalaw04_PumpRows.j0 k a1 true l0_0 l0_1) else ((pianolalaw04_long.f k l0_1).bind fun t315 => (pianolalaw04_PumpRows.j0 k a1 t315 l0_0 l0_1)))) = some r := h
 clear h
 have HC3 := Aside0.mk H
 clear H
 go_enter Try.func4, Try.ntmps4
 go_upto_region 1 with (first | ((with_reducible refine gate_dst (N := 2) rfl ?_); refine box_event ?hg (N := 2) ?hd (cs := #[.slice A0_0 l0_0.length c0_0, .slice A0_1 l0_1.length c0_1]) (t := 40) ?hr ?_; (case hd => rfl); (case hg => rfl); (case hr => first | (go_simp; done) | (go_simp; rfl)); intro gb313 hg w4 hbox hb; have n0_ := Aside0.mk (below_step (zqA HB.out) hb); have n1_ := Aside0.mk (hbox); have n2_ := Aside0.mk ((by rw [hg]; exact (below_size (zqA HB.out)) : w.heap.size ≤ gb313)); have n3_ := Aside0.mk ((by rw [hg]; exact (below_size (zqA HB.out)) : w.heap.size ≤ gb313)); clear HB; have HB := n0_; have BK313 := n1_; have GW313 := n2_; have GE313 := n3_; clear n0_ n1_ n2_ n3_; clear hb hbox hg))
 (try simp only [Act.put, List.setIfInBounds_toArray, List.set_cons_zero, List.set_cons_succ])
 go_cut [27] (fun v27 wc => ∃ (kq : Nat) (x27_2 : Bool), v27 = .bool x27_2 ∧ Aside0 (pianolalaw04_PumpRows.j0 kq a1 x27_2 l0_0 l0_1 = some r) ∧ Aside0 (kq ≤ k) ∧ Aside0 (wc.heap[gb313]? = some (.cells #[(.slice A0_0 l0_0.length c0_0), (.slice A0_1 l0_1.length c0_1)] 40 (0, 0))) ∧ Aside0 (Below w.heap.size w wc))
 case first =>
  have H := HC3.out
  clear HC3
  replace H := Option.bind_eq_some_iff.mp H
  obtain ⟨t314, A50, H⟩ := H
  replace H : (if t314 = true then (pianolalaw04_PumpRows.j0 k a1 true l0_0 l0_1) else ((pianolalaw04_long.f k l0_1).bind fun t315 => (pianolalaw04_PumpRows.j0 k a1 t315 l0_0 l0_1))) = some r := H
  have A5 := Aside0.mk A50
  clear A50
  by_cases c6 : t314 = true
  ·
   subst c6
   have H1 : (pianolalaw04_PumpRows.j0 k a1 true l0_0 l0_1) = some r := by rw [if_pos rfl] at H; exact H
   clear H
   have H := H1
   clear H1
   have H' := Aside0.mk H
   clear H
   have hcz7_0 : w4.cell? ⟨gb313, 0, none⟩ = some (.slice A0_0 l0_0.length c0_0) := (blk_cell BK313.out 0).trans rfl
   have hcz7_1 : w4.cell? ⟨gb313, 1, none⟩ = some (.slice A0_1 l0_1.length c0_1) := (blk_cell BK313.out 1).trans rfl
   have hfz7_0 := blk_frozen BK313.out 0
   have hfz7_1 := blk_frozen BK313.out 1
   go_wp2_with (first | ((with_reducible refine gate_callee (f := 26) rfl ?_); refine goesL_ (some 22) rfl rfl Try.func26 (by kernel_rfl) rfl #[.slice A0_0 l0_0.length c0_0] rfl zqE ?_; (with_reducible refine (pianolalaw04_long.calls k _ _ l0_0 true _ ?side1 ?side2 A5.out).mono ?_); (case side1 => repeat (first | exact (Kd.C_below HR0_0.out HB.out) | (with_reducible refine Kd.C_alloc ?_ _) | (with_reducible refine Kd.C_drewN ?_ _) | (with_reducible refine Kd.C_drew ?_))); (case side2 => exact HC0_0.out); rintro e w' ⟨rfl, ⟨nd, rfl⟩⟩; refine ⟨_, rfl, ?_⟩))
   go_meet
   case rel => exact ⟨_, (true), (by first | rfl | (simp; done) | (simp [*]; done)), H', ⟨by first | omega | exact Nat.le_refl _⟩, ⟨zqB BK313.out⟩, ⟨zqG HB.out GE313.out⟩⟩
  ·
   replace c6 := Bool.eq_false_iff.mpr c6
   subst c6
   have H1 : ((pianolalaw04_long.f k l0_1).bind fun t315 => (pianolalaw04_PumpRows.j0 k a1 t315 l0_0 l0_1)) = some r := by rw [if_neg (show ¬ (false = true) by decide)] at H; exact H
   clear H
   have H := H1
   clear H1
   replace H := Option.bind_eq_some_iff.mp H
   obtain ⟨t315, A80, H⟩ := H
   replace H : (pianolalaw04_PumpRows.j0 k a1 t315 l0_0 l0_1) = some r := H
   have A8 := Aside0.mk A80
   clear A80
   have H' := Aside0.mk H
   clear H
   have hcz9_0 : w4.cell? ⟨gb313, 0, none⟩ = some (.slice A0_0 l0_0.length c0_0) := (blk_cell BK313.out 0).trans rfl
   have hcz9_1 : w4.cell? ⟨gb313, 1, none⟩ = some (.slice A0_1 l0_1.length c0_1) := (blk_cell BK313.out 1).trans rfl
   have hfz9_0 := blk_frozen BK313.out 0
   have hfz9_1 := blk_frozen BK313.out 1
   go_wp2_with (first | ((with_reducible refine gate_callee (f := 26) rfl ?_); refine goesL_ (some 22) rfl rfl Try.func26 (by kernel_rfl) rfl #[.slice A0_0 l0_0.length c0_0] rfl zqE ?_; (with_reducible refine (pianolalaw04_long.calls k _ _ l0_0 false _ ?side1 ?side2 A5.out).mono ?_); (case side1 => repeat (first | exact (Kd.C_below HR0_0.out HB.out) | (with_reducible refine Kd.C_alloc ?_ _) | (with_reducible refine Kd.C_drewN ?_ _) | (with_reducible refine Kd.C_drew ?_))); (case side2 => exact HC0_0.out); rintro e w' ⟨rfl, ⟨nd, rfl⟩⟩; refine ⟨_, rfl, ?_⟩) | (go_at_call 26; (with_reducible refine (pianolalaw04_long.calls k _ _ l0_1 t315 _ ?side1 ?side2 A8.out).mono ?_); (case side1 => repeat (first | exact (Kd.C_below HR0_1.out (zqG HB.out GE313.out)) | (with_reducible refine Kd.C_alloc ?_ _) | (with_reducible refine Kd.C_drewN ?_ _) | (with_reducible refine Kd.C_drew ?_))); (case side2 => exact HC0_1.out); rintro e w' ⟨rfl, ⟨nd, rfl⟩⟩))
   go_meet
   case rel => exact ⟨_, (t315), (by first | rfl | (simp; done) | (simp [*]; done)), H', ⟨by first | omega | exact Nat.le_refl _⟩, ⟨zqB BK313.out⟩, ⟨zqG HB.out GE313.out⟩⟩
 case rest =>
  clear HC3
  try clear c2
  try clear p2
  try clear c4
  try clear c6
  try clear hcz7_0
  try clear hcz7_1
  try clear hcz9_0
  try clear hcz9_1
  try clear hfz7_0
  try clear hfz7_1
  try clear hfz9_0
  try clear hfz9_1
  obtain ⟨kq, x27_2, rfl, HA, HJ2, BK313, HB⟩ := hcut
  cases kq with
  | zero => exact absurd HA.out (by simp [pianolalaw04_PumpRows.j0])
  | succ kj2 =>
   have H := HA.out
   clear HA
   simp only [pianolalaw04_PumpRows.j0] at H
   by_cases c10 : x27_2 = true
   ·
    subst c10
    have H1 : ((pianolalaw04_works.f).bind fun t316 => (some t316)) = some r := by rw [if_pos rfl] at H; exact H
    clear H
    have H := H1
    clear H1
    replace H := Option.bind_eq_some_iff.mp H
    obtain ⟨t316, A110, H⟩ := H
    replace H : (some t316) = some r := H
    have A11 := Aside0.mk A110
    clear A110
    obtain rfl := Option.some.inj H
    go_wp2_with (first | ((with_reducible refine gate_callee (f := 15) rfl ?_); refine goesL_ (some 28) rfl rfl Try.func15 (by kernel_rfl) rfl #[] rfl zqE ?_; (with_reducible refine (pianolalaw04_works.calls  t316 _ A11.out).mono ?_); rintro e w12 ⟨rfl, hb⟩; refine ⟨_, rfl, ?_⟩; have n0_ := Aside0.mk (blk_below (g := gb313) (o := .cells #[.slice A0_0 l0_0.length c0_0, .slice A0_1 l0_1.length c0_1] 40 (0, 0)) (zqB BK313.out) hb); have n1_ := Aside0.mk (below_step (zqG HB.out GE313.out) hb); clear BK313; clear HB; have BK313 := n0_; have HB := n1_; clear n0_ n1_; (try clear hb); (try clear hb2); (try clear hk); (try clear hi)))
    go_ret
    exact ⟨by first | rfl | (simp [errW_none, errW_some] <;> rfl) | (simp [*, errW_none, errW_some] <;> rfl), zqG HB.out GE313.out⟩
   ·
    replace c10 := Bool.eq_false_iff.mpr c10
    subst c10
    have H1 : ((pianolalaw04_plant.f kj2 l0_0 l0_1).bind fun bt317 => ((pump_Row.f l0_0 l0_1 a1).bind fun bt324 => ((pianolaref04_Row.f kj2 bt317.1 bt317.2 a1).bind fun bt326 => ((pump_Drop.f kj2 l0_0 l0_1 a1).bind fun bt328 => ((pianolaref04_Drop.f kj2 bt317.1 bt317.2 a1).bind fun bt331 => ((pump_Delay.f kj2 l0_0 l0_1 a1).bind fun bt334 => ((pianolaref04_Delay.f kj2 bt317.1 bt317.2 a1).bind fun bt336 => (if bt324.1 = bt326.1 then (if bt324.2 = bt326.2 then (if bt328.1 = bt331.1 then (if bt328.2.1 = bt331.2.1 then (if bt328.2.2 = bt331.2.2 then (if bt334.1 = bt336.1 then (if bt334.2 = bt336.2 then ((pump_Check.f l0_0 l0_1).bind fun t338 => ((pianolaref04_Check.f kj2 bt317.1 bt317.2).bind fun t339 => (if t338 = t339 then ((pianolalaw04_works.f).bind fun t340 => (some t340)) else (some false)))) else (some false)) else (some false)) else (some false)) else (some false)) else (some false)) else (some false)) else (some false))))))))) = some r := by rw [if_neg (show ¬ (false = true) by decide)] at H; exact H
    clear H
    have H := H1
    clear H1
    replace H := Option.bind_eq_some_iff.mp H
    obtain ⟨⟨t317, t320⟩, A130, H⟩ := H
    replace H : ((pump_Row.f l0_0 l0_1 a1).bind fun bt324 => ((pianolaref04_Row.f kj2 t317 t320 a1).bind fun bt326 => ((pump_Drop.f kj2 l0_0 l0_1 a1).bind fun bt328 => ((pianolaref04_Drop.f kj2 t317 t320 a1).bind fun bt331 => ((pump_Delay.f kj2 l0_0 l0_1 a1).bind fun bt334 => ((pianolaref04_Delay.f kj2 t317 t320 a1).bind fun bt336 => (if bt324.1 = bt326.1 then (if bt324.2 = bt326.2 then (if bt328.1 = bt331.1 then (if bt328.2.1 = bt331.2.1 then (if bt328.2.2 = bt331.2.2 then (if bt334.1 = bt336.1 then (if bt334.2 = bt336.2 then ((pump_Check.f l0_0 l0_1).bind fun t338 => ((pianolaref04_Check.f kj2 t317 t320).bind fun t339 => (if t338 = t339 then ((pianolalaw04_works.f).bind fun t340 => (some t340)) else (some false)))) else (some false)) else (some false)) else (some false)) else (some false)) else (some false)) else (some false)) else (some false)))))))) = some r := H
    have A13 := Aside0.mk A130
    clear A130
    replace H := Option.bind_eq_some_iff.mp H
    obtain ⟨⟨t324, t325⟩, A140, H⟩ := H
    replace H : ((pianolaref04_Row.f kj2 t317 t320 a1).bind fun bt326 => ((pump_Drop.f kj2 l0_0 l0_1 a1).bind fun bt328 => ((pianolaref04_Drop.f kj2 t317 t320 a1).bind fun bt331 => ((pump_Delay.f kj2 l0_0 l0_1 a1).bind fun bt334 => ((pianolaref04_Delay.f kj2 t317 t320 a1).bind fun bt336 => (if t324 = bt326.1 then (if t325 = bt326.2 then (if bt328.1 = bt331.1 then (if bt328.2.1 = bt331.2.1 then (if bt328.2.2 = bt331.2.2 then (if bt334.1 = bt336.1 then (if bt334.2 = bt336.2 then ((pump_Check.f l0_0 l0_1).bind fun t338 => ((pianolaref04_Check.f kj2 t317 t320).bind fun t339 => (if t338 = t339 then ((pianolalaw04_works.f).bind fun t340 => (some t340)) else (some false)))) else (some false)) else (some false)) else (some false)) else (some false)) else (some false)) else (some false)) else (some false))))))) = some r := H
    have A14 := Aside0.mk A140
    clear A140
    replace H := Option.bind_eq_some_iff.mp H
    obtain ⟨⟨t326, t327⟩, A150, H⟩ := H
    replace H : ((pump_Drop.f kj2 l0_0 l0_1 a1).bind fun bt328 => ((pianolaref04_Drop.f kj2 t317 t320 a1).bind fun bt331 => ((pump_Delay.f kj2 l0_0 l0_1 a1).bind fun bt334 => ((pianolaref04_Delay.f kj2 t317 t320 a1).bind fun bt336 => (if t324 = t326 then (if t325 = t327 then (if bt328.1 = bt331.1 then (if bt328.2.1 = bt331.2.1 then (if bt328.2.2 = bt331.2.2 then (if bt334.1 = bt336.1 then (if bt334.2 = bt336.2 then ((pump_Check.f l0_0 l0_1).bind fun t338 => ((pianolaref04_Check.f kj2 t317 t320).bind fun t339 => (if t338 = t339 then ((pianolalaw04_works.f).bind fun t340 => (some t340)) else (some false)))) else (some false)) else (some false)) else (some false)) else (some false)) else (some false)) else (some false)) else (some false)))))) = some r := H
    have A15 := Aside0.mk A150
    clear A150
    replace H := Option.bind_eq_some_iff.mp H
    obtain ⟨⟨t328, t329, t330⟩, A160, H⟩ := H
    replace H : ((pianolaref04_Drop.f kj2 t317 t320 a1).bind fun bt331 => ((pump_Delay.f kj2 l0_0 l0_1 a1).bind fun bt334 => ((pianolaref04_Delay.f kj2 t317 t320 a1).bind fun bt336 => (if t324 = t326 then (if t325 = t327 then (if t328 = bt331.1 then (if t329 = bt331.2.1 then (if t330 = bt331.2.2 then (if bt334.1 = bt336.1 then (if bt334.2 = bt336.2 then ((pump_Check.f l0_0 l0_1).bind fun t338 => ((pianolaref04_Check.f kj2 t317 t320).bind fun t339 => (if t338 = t339 then ((pianolalaw04_works.f).bind fun t340 => (some t340)) else (some false)))) else (some false)) else (some false)) else (some false)) else (some false)) else (some false)) else (some false)) else (some false))))) = some r := H
    have A16 := Aside0.mk A160
    clear A160
    replace H := Option.bind_eq_some_iff.mp H
    obtain ⟨⟨t331, t332, t333⟩, A170, H⟩ := H
    replace H : ((pump_Delay.f kj2 l0_0 l0_1 a1).bind fun bt334 => ((pianolaref04_Delay.f kj2 t317 t320 a1).bind fun bt336 => (if t324 = t326 then (if t325 = t327 then (if t328 = t331 then (if t329 = t332 then (if t330 = t333 then (if bt334.1 = bt336.1 then (if bt334.2 = bt336.2 then ((pump_Check.f l0_0 l0_1).bind fun t338 => ((pianolaref04_Check.f kj2 t317 t320).bind fun t339 => (if t338 = t339 then ((pianolalaw04_works.f).bind fun t340 => (some t340)) else (some false)))) else (some false)) else (some false)) else (some false)) else (some false)) else (some false)) else (some false)) else (some false)))) = some r := H
    have A17 := Aside0.mk A170
    clear A170
    replace H := Option.bind_eq_some_iff.mp H
    obtain ⟨⟨t334, t335⟩, A180, H⟩ := H
    replace H : ((pianolaref04_Delay.f kj2 t317 t320 a1).bind fun bt336 => (if t324 = t326 then (if t325 = t327 then (if t328 = t331 then (if t329 = t332 then (if t330 = t333 then (if t334 = bt336.1 then (if t335 = bt336.2 then ((pump_Check.f l0_0 l0_1).bind fun t338 => ((pianolaref04_Check.f kj2 t317 t320).bind fun t339 => (if t338 = t339 then ((pianolalaw04_works.f).bind fun t340 => (some t340)) else (some false)))) else (some false)) else (some false)) else (some false)) else (some false)) else (some false)) else (some false)) else (some false))) = some r := H
    have A18 := Aside0.mk A180
    clear A180
    replace H := Option.bind_eq_some_iff.mp H
    obtain ⟨⟨t336, t337⟩, A190, H⟩ := H
    replace H : (if t324 = t326 then (if t325 = t327 then (if t328 = t331 then (if t329 = t332 then (if t330 = t333 then (if t334 = t336 then (if t335 = t337 then ((pump_Check.f l0_0 l0_1).bind fun t338 => ((pianolaref04_Check.f kj2 t317 t320).bind fun t339 => (if t338 = t339 then ((pianolalaw04_works.f).bind fun t340 => (some t340)) else (some false)))) else (some false)) else (some false)) else (some false)) else (some false)) else (some false)) else (some false)) else (some false)) = some r := H
    have A19 := Aside0.mk A190
    clear A190
    by_cases c20 : t324 = t326
    ·
     rw [if_pos c20] at H
     have c20b0 : (t324 == t326) = true := beq_iff_eq.mpr c20
     have c20b1 : (t324 != t326) = false := bne_eq_false_iff_eq.mpr c20
     clear c20
     by_cases c21 : t325 = t327
     ·
      rw [if_pos c21] at H
      have c21b0 : (t325 == t327) = true := beq_iff_eq.mpr c21
      have c21b1 : (t325 != t327) = false := bne_eq_false_iff_eq.mpr c21
      clear c21
      by_cases c22 : t328 = t331
      ·
       rw [if_pos c22] at H
       have c22b0 : (t328 == t331) = true := beq_iff_eq.mpr c22
       have c22b1 : (t328 != t331) = false := bne_eq_false_iff_eq.mpr c22
       clear c22
       by_cases c23 : t329 = t332
       ·
        rw [if_pos c23] at H
        have c23b0 : (t329 == t332) = true := beq_iff_eq.mpr c23
        have c23b1 : (t329 != t332) = false := bne_eq_false_iff_eq.mpr c23
        clear c23
        by_cases c24 : t330 = t333
        ·
         rw [if_pos c24] at H
         have c24b0 : (t330 == t333) = true := beq_iff_eq.mpr c24
         have c24b1 : (t330 != t333) = false := bne_eq_false_iff_eq.mpr c24
         clear c24
         by_cases c25 : t334 = t336
         ·
          rw [if_pos c25] at H
          have c25b0 : (t334 == t336) = true := beq_iff_eq.mpr c25
          have c25b1 : (t334 != t336) = false := bne_eq_false_iff_eq.mpr c25
          clear c25
          by_cases c26 : t335 = t337
          ·
           rw [if_pos c26] at H
           have c26b0 : (t335 == t337) = true := beq_iff_eq.mpr c26
           have c26b1 : (t335 != t337) = false := bne_eq_false_iff_eq.mpr c26
           clear c26
           replace H := Option.bind_eq_some_iff.mp H
           obtain ⟨t338, A270, H⟩ := H
           replace H : ((pianolaref04_Check.f kj2 t317 t320).bind fun t339 => (if t338 = t339 then ((pianolalaw04_works.f).bind fun t340 => (some t340)) else (some false))) = some r := H
           have A27 := Aside0.mk A270
           clear A270
           replace H := Option.bind_eq_some_iff.mp H
           obtain ⟨t339, A280, H⟩ := H
           replace H : (if t338 = t339 then ((pianolalaw04_works.f).bind fun t340 => (some t340)) else (some false)) = some r := H
           have A28 := Aside0.mk A280
           clear A280
           by_cases c29 : t338 = t339
           ·
            rw [if_pos c29] at H
            have c29b0 : (t338 == t339) = true := beq_iff_eq.mpr c29
            have c29b1 : (t338 != t339) = false := bne_eq_false_iff_eq.mpr c29
            clear c29
            replace H := Option.bind_eq_some_iff.mp H
            obtain ⟨t340, A300, H⟩ := H
            replace H : (some t340) = some r := H
            have A30 := Aside0.mk A300
            clear A300
            obtain rfl := Option.some.inj H
            have hcz31_0 : wc.cell? ⟨gb313, 0, none⟩ = some (.slice A0_0 l0_0.length c0_0) := (blk_cell BK313.out 0).trans rfl
            have hcz31_1 : wc.cell? ⟨gb313, 1, none⟩ = some (.slice A0_1 l0_1.length c0_1) := (blk_cell BK313.out 1).trans rfl
            have hfz31_0 := blk_frozen BK313.out 0
            have hfz31_1 := blk_frozen BK313.out 1
            try go_wp2_with (first | ((with_reducible refine gate_callee (f := 27) rfl ?_); refine goesL_ (some 30) rfl rfl Try.func27 (by kernel_rfl) rfl #[.agg #[.slice A0_0 l0_0.length c0_0, .slice A0_1 l0_1.length c0_1]] rfl zqE ?_; (with_reducible refine (pianolalaw04_plant.calls kj2 _ _ l0_0 _ _ l0_1 t317 t320 _ ?side1 ?side2 ?side3 ?side4 A13.out).mono ?_); (case side1 => repeat (first | exact (Kd.C_below HR0_0.out HB.out) | (with_reducible refine Kd.C_alloc ?_ _) | (with_reducible refine Kd.C_drewN ?_ _) | (with_reducible refine Kd.C_drew ?_))); (case side2 => exact HC0_0.out); (case side3 => repeat (first | exact (Kd.C_below HR0_1.out HB.out) | (with_reducible refine Kd.C_alloc ?_ _) | (with_reducible refine Kd.C_drewN ?_ _) | (with_reducible refine Kd.C_drew ?_))); (case side4 => exact HC0_1.out); rintro e w32 ⟨v318, v321, rfl, ho0, ho1, hb⟩; refine ⟨_, rfl, ?_⟩; have n0_ := Aside0.mk (Kd.S_lower ho0 (below_size (zqG HB.out GE313.out))); have n1_ := Aside0.mk (Kd.S_lower ho1 (below_size (zqG HB.out GE313.out))); have n2_ := Aside0.mk (blk_below (g := gb313) (o := .cells #[.slice A0_0 l0_0.length c0_0, .slice A0_1 l0_1.length c0_1] 40 (0, 0)) (zqB BK313.out) hb); have n3_ := Aside0.mk (below_step (zqG HB.out GE313.out) hb); clear BK313; clear HB; have HO319 := n0_; have HO322 := n1_; have BK313 := n2_; have HB := n3_; clear n0_ n1_ n2_ n3_; (try clear hb); (try clear hb2); (try clear hk); (try clear hi); (try clear ho0); (try clear ho1)) | ((with_reducible refine gate_dst (N := 5) rfl ?_); refine box_event ?hg (N := 5) ?hd (cs := #[.slice none 0 0, .slice none 0 0]) (t := 44) ?hr ?_; (case hd => rfl); (case hg => rfl); (case hr => first | (go_simp; done) | (go_simp; rfl)); intro gb323 hg w33 hbox hb; have n0_ := Aside0.mk (Kd.S_below (by (with_reducible repeat (first | apply Kd.S_alloc | apply Kd.S_drewN | apply Kd.S_drew)); exact HO319.out) hb); have n1_ := Aside0.mk (Kd.S_below (by (with_reducible repeat (first | apply Kd.S_alloc | apply Kd.S_drewN | apply Kd.S_drew)); exact HO322.out) hb); have n2_ := Aside0.mk (blk_below (g := gb313) (o := .cells #[.slice A0_0 l0_0.length c0_0, .slice A0_1 l0_1.length c0_1] 40 (0, 0)) (zqB BK313.out) hb); have n3_ := Aside0.mk (below_step (zqG HB.out GE313.out) hb); have n4_ := Aside0.mk (hbox); have n5_ := Aside0.mk ((by rw [hg]; exact (below_size (zqG HB.out GE313.out)) : w.heap.size ≤ gb323)); have n6_ := Aside0.mk ((by rw [hg]; exact (below_size (zqG HB.out GE313.out)) : w.heap.size ≤ gb323)); have n7_ := Aside0.mk ((by rw [hg]; exact Nat.ne_of_lt (blk_lt (g := gb313) (o := .cells #[.slice A0_0 l0_0.length c0_0, .slice A0_1 l0_1.length c0_1] 40 (0, 0)) (zqB BK313.out)) : gb313 ≠ gb323)); have n8_ := Aside0.mk ((by rw [hg]; exact Nat.ne_of_gt (blk_lt (g := gb313) (o := .cells #[.slice A0_0 l0_0.length c0_0, .slice A0_1 l0_1.length c0_1] 40 (0, 0)) (zqB BK313.out)) : gb323 ≠ gb313)); clear HO319; clear HO322; clear BK313; clear HB; have HO319 := n0_; have HO322 := n1_; have BK313 := n2_; have HB := n3_; have BK323 := n4_; have GW323 := n5_; have GE323 := n6_; have NB313_323 := n7_; have NB323_313 := n8_; clear n0_ n1_ n2_ n3_ n4_ n5_ n6_ n7_ n8_; clear hb hbox hg; obtain ⟨Ao34, co34, eo34⟩ := Kd.S_slice HO319.out; subst eo34; have hnb35 := NB323_313.out; have hnc35 := NB313_323.out; have hcz36_0 : w33.cell? ⟨gb323, 0, none⟩ = some (.slice none 0 0) := (blk_cell BK323.out 0).trans rfl; have hcz36_1 : w33.cell? ⟨gb323, 1, none⟩ = some (.slice none 0 0) := (blk_cell BK323.out 1).trans rfl; have hfz36_0 := blk_frozen BK323.out 0; have hfz36_1 := blk_frozen BK323.out 1; obtain ⟨Ao37, co37, eo37⟩ := Kd.S_slice HO322.out; subst eo37; have hcz38_0 : w33.cell? ⟨gb313, 0, none⟩ = some (.slice A0_0 l0_0.length c0_0) := (blk_cell BK313.out 0).trans rfl; have hcz38_1 : w33.cell? ⟨gb313, 1, none⟩ = some (.slice A0_1 l0_1.length c0_1) := (blk_cell BK313.out 1).trans rfl; have hfz38_0 := blk_frozen BK313.out 0; have hfz38_1 := blk_frozen BK313.out 1) | ((with_reducible refine gate_callee (f := 28) rfl ?_); refine goesL_ (some 34) rfl rfl Try.func28 (by kernel_rfl) rfl #[.agg #[.slice A0_0 l0_0.length c0_0, .slice A0_1 l0_1.length c0_1], .int .i64 a1] rfl zqE ?_; (with_reducible refine (pump_Row.calls _ _ l0_0 _ _ l0_1 a1 t324 t325 _ ?side1 ?side2 ?side3 ?side4 A14.out).mono ?_); (case side1 => exact Kd.C_below HR0_0.out (zqH HB.out GE313.out GE323.out)); (case side2 => exact HC0_0.out); (case side3 => exact Kd.C_below HR0_1.out (zqH HB.out GE313.out GE323.out)); (case side4 => exact HC0_1.out); rintro e w39 ⟨rfl, hb⟩; refine ⟨_, rfl, ?_⟩; have n0_ := Aside0.mk (Kd.S_below (by (with_reducible repeat (first | apply Kd.S_alloc | apply Kd.S_drewN | apply Kd.S_drew)); exact (Kd.S_mono (Kd.S_far (p := ⟨gb323, 1, none⟩) (Kd.S_far (p := ⟨gb323, 0, none⟩) (Kd.S_types HO319.out BK323.out (by decide)) (fun _ hk => hk.2) (.slice Ao34 t317.length co34)) (fun _ hk => hk.2) (.slice Ao37 t320.length co37)) (fun _ h_ => h_.1))) hb); have n1_ := Aside0.mk (Kd.S_below (by (with_reducible repeat (first | apply Kd.S_alloc | apply Kd.S_drewN | apply Kd.S_drew)); exact (Kd.S_mono (Kd.S_far (p := ⟨gb323, 1, none⟩) (Kd.S_far (p := ⟨gb323, 0, none⟩) (Kd.S_types HO322.out BK323.out (by decide)) (fun _ hk => hk.2) (.slice Ao34 t317.length co34)) (fun _ hk => hk.2) (.slice Ao37 t320.length co37)) (fun _ h_ => h_.1))) hb); have n2_ := Aside0.mk (blk_below (g := gb313) (o := .cells #[.slice A0_0 l0_0.length c0_0, .slice A0_1 l0_1.length c0_1] 40 (0, 0)) (by (with_reducible repeat (first | refine blk_drewN ?_ _ | refine blk_drew ?_ | refine blk_alloc ?_ _)); refine blk_far ?_ NB313_323.out _; (with_reducible repeat (first | refine blk_drewN ?_ _ | refine blk_drew ?_ | refine blk_alloc ?_ _)); refine blk_far ?_ NB313_323.out _; (with_reducible repeat (first | refine blk_drewN ?_ _ | refine blk_drew ?_ | refine blk_alloc ?_ _)); exact BK313.out) hb); have n3_ := Aside0.mk (blk_below (g := gb323) (o := .cells #[.slice Ao34 t317.length co34, .slice Ao37 t320.length co37] 44 (0, 0)) (by (with_reducible repeat (first | refine blk_drewN ?_ _ | refine blk_drew ?_ | refine blk_alloc ?_ _)); refine blk_put (cs := #[.slice Ao34 t317.length co34, .slice none 0 0]) ?_ 1 _ rfl; (with_reducible repeat (first | refine blk_drewN ?_ _ | refine blk_drew ?_ | refine blk_alloc ?_ _)); refine blk_put (cs := #[.slice none 0 0, .slice none 0 0]) ?_ 0 _ rfl; (with_reducible repeat (first | refine blk_drewN ?_ _ | refine blk_drew ?_ | refine blk_alloc ?_ _)); exact BK323.out) hb); have n4_ := Aside0.mk (below_step (zqH HB.out GE313.out GE323.out) hb); clear HO319; clear HO322; clear BK313; clear BK323; clear HB; have HO319 := n0_; have HO322 := n1_; have BK313 := n2_; have BK323 := n3_; have HB := n4_; clear n0_ n1_ n2_ n3_ n4_; (try clear hb); (try clear hb2); (try clear hk); (try clear hi); have hcz40_0 : w39.cell? ⟨gb323, 0, none⟩ = some (.slice Ao34 t317.length co34) := (blk_cell BK323.out 0).trans rfl; have hcz40_1 : w39.cell? ⟨gb323, 1, none⟩ = some (.slice Ao37 t320.length co37) := (blk_cell BK323.out 1).trans rfl; have hfz40_0 := blk_frozen BK323.out 0; have hfz40_1 := blk_frozen BK323.out 1) | ((with_reducible refine gate_callee (f := 29) rfl ?_); refine goesL_ (some 40) rfl rfl Try.func29 (by kernel_rfl) rfl #[.agg #[.slice Ao34 t317.length co34, .slice Ao37 t320.length co37], .int .i64 a1] rfl zqE ?_; (with_reducible refine (pianolaref04_Row.calls kj2 _ _ t317 _ _ t320 a1 t326 t327 _ ?side1 ?side2 ?side3 ?side4 A15.out).mono ?_); (case side1 => repeat (first | exact (Kd.S_reads' HO319.out).2.2 | (with_reducible refine Kd.C_alloc ?_ _) | (with_reducible refine Kd.C_drewN ?_ _) | (with_reducible refine Kd.C_drew ?_))); (case side2 => exact (Kd.S_reads' HO319.out).2.1); (case side3 => repeat (first | exact (Kd.S_reads' HO322.out).2.2 | (with_reducible refine Kd.C_alloc ?_ _) | (with_reducible refine Kd.C_drewN ?_ _) | (with_reducible refine Kd.C_drew ?_))); (case side4 => exact (Kd.S_reads' HO322.out).2.1); rintro e w41 ⟨rfl, hb⟩; refine ⟨_, rfl, ?_⟩; have n0_ := Aside0.mk (Kd.S_below (by (with_reducible repeat (first | apply Kd.S_alloc | apply Kd.S_drewN | apply Kd.S_drew)); exact HO319.out) hb); have n1_ := Aside0.mk (Kd.S_below (by (with_reducible repeat (first | apply Kd.S_alloc | apply Kd.S_drewN | apply Kd.S_drew)); exact HO322.out) hb); have n2_ := Aside0.mk (blk_below (g := gb313) (o := .cells #[.slice A0_0 l0_0.length c0_0, .slice A0_1 l0_1.length c0_1] 40 (0, 0)) (zqB BK313.out) hb); have n3_ := Aside0.mk (blk_below (g := gb323) (o := .cells #[.slice Ao34 t317.length co34, .slice Ao37 t320.length co37] 44 (0, 0)) (zqB BK323.out) hb); have n4_ := Aside0.mk (below_step (zqH HB.out GE313.out GE323.out) hb); clear HO319; clear HO322; clear BK313; clear BK323; clear HB; have HO319 := n0_; have HO322 := n1_; have BK313 := n2_; have BK323 := n3_; have HB := n4_; clear n0_ n1_ n2_ n3_ n4_; (try clear hb); (try clear hb2); (try clear hk); (try clear hi); have hcz42_0 : w41.cell? ⟨gb313, 0, none⟩ = some (.slice A0_0 l0_0.length c0_0) := (blk_cell BK313.out 0).trans rfl; have hcz42_1 : w41.cell? ⟨gb313, 1, none⟩ = some (.slice A0_1 l0_1.length c0_1) := (blk_cell BK313.out 1).trans rfl; have hfz42_0 := blk_frozen BK313.out 0; have hfz42_1 := blk_frozen BK313.out 1) | ((with_reducible refine gate_callee (f := 30) rfl ?_); refine goesL_ (some 46) rfl rfl Try.func30 (by kernel_rfl) rfl #[.agg #[.slice A0_0 l0_0.length c0_0, .slice A0_1 l0_1.length c0_1], .int .i64 a1] rfl zqE ?_; (with_reducible refine (pump_Drop.calls kj2 _ _ l0_0 _ _ l0_1 a1 t328 t329 t330 _ ?side1 ?side2 ?side3 ?side4 A16.out).mono ?_); (case side1 => repeat (first | exact (Kd.C_below HR0_0.out HB.out) | (with_reducible refine Kd.C_alloc ?_ _) | (with_reducible refine Kd.C_drewN ?_ _) | (with_reducible refine Kd.C_drew ?_))); (case side2 => exact HC0_0.out); (case side3 => repeat (first | exact (Kd.C_below HR0_1.out HB.out) | (with_reducible refine Kd.C_alloc ?_ _) | (with_reducible refine Kd.C_drewN ?_ _) | (with_reducible refine Kd.C_drew ?_))); (case side4 => exact HC0_1.out); rintro e w43 ⟨rfl, hb⟩; refine ⟨_, rfl, ?_⟩; have n0_ := Aside0.mk (Kd.S_below (by (with_reducible repeat (first | apply Kd.S_alloc | apply Kd.S_drewN | apply Kd.S_drew)); exact HO319.out) hb); have n1_ := Aside0.mk (Kd.S_below (by (with_reducible repeat (first | apply Kd.S_alloc | apply Kd.S_drewN | apply Kd.S_drew)); exact HO322.out) hb); have n2_ := Aside0.mk (blk_below (g := gb313) (o := .cells #[.slice A0_0 l0_0.length c0_0, .slice A0_1 l0_1.length c0_1] 40 (0, 0)) (zqB BK313.out) hb); have n3_ := Aside0.mk (blk_below (g := gb323) (o := .cells #[.slice Ao34 t317.length co34, .slice Ao37 t320.length co37] 44 (0, 0)) (zqB BK323.out) hb); have n4_ := Aside0.mk (below_step (zqH HB.out GE313.out GE323.out) hb); clear HO319; clear HO322; clear BK313; clear BK323; clear HB; have HO319 := n0_; have HO322 := n1_; have BK313 := n2_; have BK323 := n3_; have HB := n4_; clear n0_ n1_ n2_ n3_ n4_; (try clear hb); (try clear hb2); (try clear hk); (try clear hi); have hcz44_0 : w43.cell? ⟨gb323, 0, none⟩ = some (.slice Ao34 t317.length co34) := (blk_cell BK323.out 0).trans rfl; have hcz44_1 : w43.cell? ⟨gb323, 1, none⟩ = some (.slice Ao37 t320.length co37) := (blk_cell BK323.out 1).trans rfl; have hfz44_0 := blk_frozen BK323.out 0; have hfz44_1 := blk_frozen BK323.out 1) | ((with_reducible refine gate_callee (f := 31) rfl ?_); refine goesL_ (some 53) rfl rfl Try.func31 (by kernel_rfl) rfl #[.agg #[.slice Ao34 t317.length co34, .slice Ao37 t320.length co37], .int .i64 a1] rfl zqE ?_; (with_reducible refine (pianolaref04_Drop.calls kj2 _ _ t317 _ _ t320 a1 t331 t332 t333 _ ?side1 ?side2 ?side3 ?side4 A17.out).mono ?_); (case side1 => repeat (first | exact (Kd.S_reads' HO319.out).2.2 | (with_reducible refine Kd.C_alloc ?_ _) | (with_reducible refine Kd.C_drewN ?_ _) | (with_reducible refine Kd.C_drew ?_))); (case side2 => exact (Kd.S_reads' HO319.out).2.1); (case side3 => repeat (first | exact (Kd.S_reads' HO322.out).2.2 | (with_reducible refine Kd.C_alloc ?_ _) | (with_reducible refine Kd.C_drewN ?_ _) | (with_reducible refine Kd.C_drew ?_))); (case side4 => exact (Kd.S_reads' HO322.out).2.1); rintro e w45 ⟨rfl, hb⟩; refine ⟨_, rfl, ?_⟩; have n0_ := Aside0.mk (Kd.S_below (by (with_reducible repeat (first | apply Kd.S_alloc | apply Kd.S_drewN | apply Kd.S_drew)); exact HO319.out) hb); have n1_ := Aside0.mk (Kd.S_below (by (with_reducible repeat (first | apply Kd.S_alloc | apply Kd.S_drewN | apply Kd.S_drew)); exact HO322.out) hb); have n2_ := Aside0.mk (blk_below (g := gb313) (o := .cells #[.slice A0_0 l0_0.length c0_0, .slice A0_1 l0_1.length c0_1] 40 (0, 0)) (zqB BK313.out) hb); have n3_ := Aside0.mk (blk_below (g := gb323) (o := .cells #[.slice Ao34 t317.length co34, .slice Ao37 t320.length co37] 44 (0, 0)) (zqB BK323.out) hb); have n4_ := Aside0.mk (below_step (zqH HB.out GE313.out GE323.out) hb); clear HO319; clear HO322; clear BK313; clear BK323; clear HB; have HO319 := n0_; have HO322 := n1_; have BK313 := n2_; have BK323 := n3_; have HB := n4_; clear n0_ n1_ n2_ n3_ n4_; (try clear hb); (try clear hb2); (try clear hk); (try clear hi); have hcz46_0 : w45.cell? ⟨gb313, 0, none⟩ = some (.slice A0_0 l0_0.length c0_0) := (blk_cell BK313.out 0).trans rfl; have hcz46_1 : w45.cell? ⟨gb313, 1, none⟩ = some (.slice A0_1 l0_1.length c0_1) := (blk_cell BK313.out 1).trans rfl; have hfz46_0 := blk_frozen BK313.out 0; have hfz46_1 := blk_frozen BK313.out 1) | ((with_reducible refine gate_callee (f := 32) rfl ?_); refine goesL_ (some 60) rfl rfl Try.func32 (by kernel_rfl) rfl #[.agg #[.slice A0_0 l0_0.length c0_0, .slice A0_1 l0_1.length c0_1], .int .i64 a1] rfl zqE ?_; (with_reducible refine (pump_Delay.calls kj2 _ _ l0_0 _ _ l0_1 a1 t334 t335 _ ?side1 ?side2 ?side3 ?side4 A18.out).mono ?_); (case side1 => repeat (first | exact (Kd.C_below HR0_0.out HB.out) | (with_reducible refine Kd.C_alloc ?_ _) | (with_reducible refine Kd.C_drewN ?_ _) | (with_reducible refine Kd.C_drew ?_))); (case side2 => exact HC0_0.out); (case side3 => repeat (first | exact (Kd.C_below HR0_1.out HB.out) | (with_reducible refine Kd.C_alloc ?_ _) | (with_reducible refine Kd.C_drewN ?_ _) | (with_reducible refine Kd.C_drew ?_))); (case side4 => exact HC0_1.out); rintro e w47 ⟨rfl, hb⟩; refine ⟨_, rfl, ?_⟩; have n0_ := Aside0.mk (Kd.S_below (by (with_reducible repeat (first | apply Kd.S_alloc | apply Kd.S_drewN | apply Kd.S_drew)); exact HO319.out) hb); have n1_ := Aside0.mk (Kd.S_below (by (with_reducible repeat (first | apply Kd.S_alloc | apply Kd.S_drewN | apply Kd.S_drew)); exact HO322.out) hb); have n2_ := Aside0.mk (blk_below (g := gb313) (o := .cells #[.slice A0_0 l0_0.length c0_0, .slice A0_1 l0_1.length c0_1] 40 (0, 0)) (zqB BK313.out) hb); have n3_ := Aside0.mk (blk_below (g := gb323) (o := .cells #[.slice Ao34 t317.length co34, .slice Ao37 t320.length co37] 44 (0, 0)) (zqB BK323.out) hb); have n4_ := Aside0.mk (below_step (zqH HB.out GE313.out GE323.out) hb); clear HO319; clear HO322; clear BK313; clear BK323; clear HB; have HO319 := n0_; have HO322 := n1_; have BK313 := n2_; have BK323 := n3_; have HB := n4_; clear n0_ n1_ n2_ n3_ n4_; (try clear hb); (try clear hb2); (try clear hk); (try clear hi); have hcz48_0 : w47.cell? ⟨gb323, 0, none⟩ = some (.slice Ao34 t317.length co34) := (blk_cell BK323.out 0).trans rfl; have hcz48_1 : w47.cell? ⟨gb323, 1, none⟩ = some (.slice Ao37 t320.length co37) := (blk_cell BK323.out 1).trans rfl; have hfz48_0 := blk_frozen BK323.out 0; have hfz48_1 := blk_frozen BK323.out 1) | ((with_reducible refine gate_callee (f := 33) rfl ?_); refine goesL_ (some 66) rfl rfl Try.func33 (by kernel_rfl) rfl #[.agg #[.slice Ao34 t317.length co34, .slice Ao37 t320.length co37], .int .i64 a1] rfl zqE ?_; (with_reducible refine (pianolaref04_Delay.calls kj2 _ _ t317 _ _ t320 a1 t336 t337 _ ?side1 ?side2 ?side3 ?side4 A19.out).mono ?_); (case side1 => repeat (first | exact (Kd.S_reads' HO319.out).2.2 | (with_reducible refine Kd.C_alloc ?_ _) | (with_reducible refine Kd.C_drewN ?_ _) | (with_reducible refine Kd.C_drew ?_))); (case side2 => exact (Kd.S_reads' HO319.out).2.1); (case side3 => repeat (first | exact (Kd.S_reads' HO322.out).2.2 | (with_reducible refine Kd.C_alloc ?_ _) | (with_reducible refine Kd.C_drewN ?_ _) | (with_reducible refine Kd.C_drew ?_))); (case side4 => exact (Kd.S_reads' HO322.out).2.1); rintro e w49 ⟨rfl, hb⟩; refine ⟨_, rfl, ?_⟩; have n0_ := Aside0.mk (Kd.S_below (by (with_reducible repeat (first | apply Kd.S_alloc | apply Kd.S_drewN | apply Kd.S_drew)); exact HO319.out) hb); have n1_ := Aside0.mk (Kd.S_below (by (with_reducible repeat (first | apply Kd.S_alloc | apply Kd.S_drewN | apply Kd.S_drew)); exact HO322.out) hb); have n2_ := Aside0.mk (blk_below (g := gb313) (o := .cells #[.slice A0_0 l0_0.length c0_0, .slice A0_1 l0_1.length c0_1] 40 (0, 0)) (zqB BK313.out) hb); have n3_ := Aside0.mk (blk_below (g := gb323) (o := .cells #[.slice Ao34 t317.length co34, .slice Ao37 t320.length co37] 44 (0, 0)) (zqB BK323.out) hb); have n4_ := Aside0.mk (below_step (zqH HB.out GE313.out GE323.out) hb); clear HO319; clear HO322; clear BK313; clear BK323; clear HB; have HO319 := n0_; have HO322 := n1_; have BK313 := n2_; have BK323 := n3_; have HB := n4_; clear n0_ n1_ n2_ n3_ n4_; (try clear hb); (try clear hb2); (try clear hk); (try clear hi)))
            have n0_ := Aside0.mk (Kd.S_drew HO319.out)
            have n1_ := Aside0.mk (Kd.S_drew HO322.out)
            have n2_ := Aside0.mk (blk_drew BK313.out)
            have n3_ := Aside0.mk (blk_drew BK323.out)
            have n4_ := Aside0.mk (below_drew1 HB.out)
            clear HO319
            clear HO322
            clear BK313
            clear BK323
            clear HB
            have HO319 := n0_
            have HO322 := n1_
            have BK313 := n2_
            have BK323 := n3_
            have HB := n4_
            clear n0_ n1_ n2_ n3_ n4_
            refine start_ (n := 44) (S := fun w' => w'.cell? ⟨gb313, 0, none⟩ = some (.slice A0_0 l0_0.length c0_0) ∧ w'.cell? ⟨gb313, 1, none⟩ = some (.slice A0_1 l0_1.length c0_1) ∧ w'.cell? ⟨gb323, 0, none⟩ = some (.slice Ao34 t317.length co34) ∧ w'.cell? ⟨gb323, 1, none⟩ = some (.slice Ao37 t320.length co37)) (ds := []) #[false, false, false, false, false, false, false, false, false, false, false, false, false, false, false, false, false, false, false, false, false, false, false, false, false, false, false, false, false, false, false, false, false, false, false, false, false, false, false, false, false, false, false, false] (by kernel_rfl) rfl rfl ⟨(blk_cell BK313.out 0).trans rfl, (blk_cell BK313.out 1).trans rfl, (blk_cell BK323.out 0).trans rfl, (blk_cell BK323.out 1).trans rfl⟩ (fun hHeld => ?_); refine with_tabW pianolalaw04_PumpRows.tab10 pianolalaw04_PumpRows.bits10 (fun HT_ HW_ => ?_)
            generalize w49.drew = w50 at HO319 HO322 BK313 BK323 HB hHeld ⊢
            refine pure_ (i := 0) (N := some 69) (v := ?_) (a' := ?_) #[true, false, false, false, false, false, false, false, false, false, false, false, false, false, false, false, false, false, false, false, false, false, false, false, false, false, false, false, false, false, false, false, false, false, false, false, false, false, false, false, false, false, false, false] rfl rfl (any_of HT_.out (by kernel_rfl)) (fun _ _ _ h => h) (Or.inl ⟨by rfl, ?_⟩) ?_ ?_
            rotate_left
            ·
             intro w'
             go_simp
             with_reducible rfl
            rotate_left
            ·
             simp only [Act.put, List.setIfInBounds_toArray, List.set_cons_zero, List.set_cons_succ, i64_w, i32_w]
             rfl
            refine pure_ (i := 1) (N := some 70) (v := ?_) (a' := ?_) #[true, true, false, false, false, false, false, false, false, false, false, false, false, false, false, false, false, false, false, false, false, false, false, false, false, false, false, false, false, false, false, false, false, false, false, false, false, false, false, false, false, false, false, false] rfl rfl (any_of HT_.out (by kernel_rfl)) (fun _ _ _ h => h) (Or.inl ⟨by rfl, ?_⟩) ?_ ?_
            rotate_left
            ·
             intro w'
             go_simp
             with_reducible rfl
            rotate_left
            ·
             simp only [Act.put, List.setIfInBounds_toArray, List.set_cons_zero, List.set_cons_succ, i64_w, i32_w]
             rfl
            refine pure_ (i := 2) (N := some 71) (v := ?_) (a' := ?_) #[true, true, true, false, false, false, false, false, false, false, false, false, false, false, false, false, false, false, false, false, false, false, false, false, false, false, false, false, false, false, false, false, false, false, false, false, false, false, false, false, false, false, false, false] rfl rfl (any_of HT_.out (by kernel_rfl)) (fun _ _ _ h => h) (Or.inl ⟨by rfl, ?_⟩) ?_ ?_
            rotate_left
            ·
             intro w'
             go_simp
             with_reducible rfl
            rotate_left
            ·
             simp only [Act.put, List.setIfInBounds_toArray, List.set_cons_zero, List.set_cons_succ, i64_w, i32_w]
             rfl
            refine pure_ (i := 3) (N := some 72) (v := ?_) (a' := ?_) #[true, true, true, true, false, false, false, false, false, false, false, false, false, false, false, false, false, false, false, false, false, false, false, false, false, false, false, false, false, false, false, false, false, false, false, false, false, false, false, false, false, false, false, false] rfl rfl (any_of HT_.out (by kernel_rfl)) (fun _ _ _ h => h) (Or.inl ⟨by rfl, ?_⟩) ?_ ?_
            rotate_left
            ·
             intro w'
             go_simp
             with_reducible rfl
            rotate_left
            ·
             simp only [Act.put, List.setIfInBounds_toArray, List.set_cons_zero, List.set_cons_succ, i64_w, i32_w]
             rfl
            refine pure_ (i := 4) (N := some 73) (v := ?_) (a' := ?_) #[true, true, true, true, true, false, false, false, false, false, false, false, false, false, false, false, false, false, false, false, false, false, false, false, false, false, false, false, false, false, false, false, false, false, false, false, false, false, false, false, false, false, false, false] rfl rfl (any_of HT_.out (by kernel_rfl)) (fun _ _ _ h => h) (Or.inl ⟨by rfl, ?_⟩) ?_ ?_
            rotate_left
            ·
             intro w'
             go_simp
             with_reducible rfl
            rotate_left
            ·
             simp only [Act.put, List.setIfInBounds_toArray, List.set_cons_zero, List.set_cons_succ, i64_w, i32_w]
             rfl
            refine pure_ (i := 5) (N := some 74) (v := ?_) (a' := ?_) #[true, true, true, true, true, true, false, false, false, false, false, false, false, false, false, false, false, false, false, false, false, false, false, false, false, false, false, false, false, false, false, false, false, false, false, false, false, false, false, false, false, false, false, false] rfl rfl (any_of HT_.out (by kernel_rfl)) (fun _ _ _ h => h) (Or.inl ⟨by rfl, ?_⟩) ?_ ?_
            rotate_left
            ·
             intro w'
             go_simp
             with_reducible rfl
            rotate_left
            ·
             simp only [Act.put, List.setIfInBounds_toArray, List.set_cons_zero, List.set_cons_succ, i64_w, i32_w]
             rfl
            refine pure_ (i := 6) (N := some 75) (v := ?_) (a' := ?_) #[true, true, true, true, true, true, true, false, false, false, false, false, false, false, false, false, false, false, false, false, false, false, false, false, false, false, false, false, false, false, false, false, false, false, false, false, false, false, false, false, false, false, false, false] rfl rfl (any_of HT_.out (by kernel_rfl)) (fun _ _ _ h => h) (Or.inl ⟨by rfl, ?_⟩) ?_ ?_
            rotate_left
            ·
             intro w'
             go_simp
             with_reducible rfl
            rotate_left
            ·
             simp only [Act.put, List.setIfInBounds_toArray, List.set_cons_zero, List.set_cons_succ, i64_w, i32_w]
             rfl
            refine pure_ (i := 7) (N := some 76) (v := ?_) (a' := ?_) #[true, true, true, true, true, true, true, true, false, false, false, false, false, false, false, false, false, false, false, false, false, false, false, false, false, false, false, false, false, false, false, false, false, false, false, false, false, false, false, false, false, false, false, false] rfl rfl (any_of HT_.out (by kernel_rfl)) (fun _ _ _ h => h) (Or.inl ⟨by rfl, ?_⟩) ?_ ?_
            rotate_left
            ·
             intro w'
             go_simp
             with_reducible rfl
            rotate_left
            ·
             simp only [Act.put, List.setIfInBounds_toArray, List.set_cons_zero, List.set_cons_succ, i64_w, i32_w]
             rfl
            refine pure_ (i := 8) (N := some 77) (v := ?_) (a' := ?_) #[true, true, true, true, true, true, true, true, true, false, false, false, false, false, false, false, false, false, false, false, false, false, false, false, false, false, false, false, false, false, false, false, false, false, false, false, false, false, false, false, false, false, false, false] rfl rfl (any_of HT_.out (by kernel_rfl)) (fun _ _ _ h => h) (Or.inl ⟨by rfl, ?_⟩) ?_ ?_
            rotate_left
            ·
             intro w'
             go_simp
             with_reducible rfl
            rotate_left
            ·
             simp only [Act.put, List.setIfInBounds_toArray, List.set_cons_zero, List.set_cons_succ, i64_w, i32_w]
             rfl
            refine pure_ (i := 9) (N := some 78) (v := ?_) (a' := ?_) #[true, true, true, true, true, true, true, true, true, true, false, false, false, false, false, false, false, false, false, false, false, false, false, false, false, false, false, false, false, false, false, false, false, false, false, false, false, false, false, false, false, false, false, false] rfl rfl (any_of HT_.out (by kernel_rfl)) (fun _ _ _ h => h) (Or.inl ⟨by rfl, ?_⟩) ?_ ?_
            rotate_left
            ·
             intro w'
             go_simp
             with_reducible rfl
            rotate_left
            ·
             simp only [Act.put, List.setIfInBounds_toArray, List.set_cons_zero, List.set_cons_succ, i64_w, i32_w]
             rfl
            refine pure_ (i := 10) (N := some 79) (v := ?_) (a' := ?_) #[true, true, true, true, true, true, true, true, true, true, true, false, false, false, false, false, false, false, false, false, false, false, false, false, false, false, false, false, false, false, false, false, false, false, false, false, false, false, false, false, false, false, false, false] rfl rfl (any_of HT_.out (by kernel_rfl)) (fun _ _ _ h => h) (Or.inl ⟨by rfl, ?_⟩) ?_ ?_
            rotate_left
            ·
             intro w'
             go_simp
             with_reducible rfl
            rotate_left
            ·
             simp only [Act.put, List.setIfInBounds_toArray, List.set_cons_zero, List.set_cons_succ, i64_w, i32_w]
             rfl
            refine pure_ (i := 11) (N := some 80) (v := ?_) (a' := ?_) #[true, true, true, true, true, true, true, true, true, true, true, true, false, false, false, false, false, false, false, false, false, false, false, false, false, false, false, false, false, false, false, false, false, false, false, false, false, false, false, false, false, false, false, false] rfl rfl (any_of HT_.out (by kernel_rfl)) (fun _ _ _ h => h) (Or.inl ⟨by rfl, ?_⟩) ?_ ?_
            rotate_left
            ·
             intro w'
             go_simp
             with_reducible rfl
            rotate_left
            ·
             simp only [Act.put, List.setIfInBounds_toArray, List.set_cons_zero, List.set_cons_succ, i64_w, i32_w]
             rfl
            refine pure_ (i := 12) (N := some 81) (v := ?_) (a' := ?_) #[true, true, true, true, true, true, true, true, true, true, true, true, true, false, false, false, false, false, false, false, false, false, false, false, false, false, false, false, false, false, false, false, false, false, false, false, false, false, false, false, false, false, false, false] rfl rfl (any_of HT_.out (by kernel_rfl)) (fun _ _ _ h => h) (Or.inl ⟨by rfl, ?_⟩) ?_ ?_
            rotate_left
            ·
             intro w'
             go_simp
             with_reducible rfl
            rotate_left
            ·
             simp only [Act.put, List.setIfInBounds_toArray, List.set_cons_zero, List.set_cons_succ, i64_w, i32_w]
             rfl
            refine pure_ (i := 13) (N := some 82) (v := ?_) (a' := ?_) #[true, true, true, true, true, true, true, true, true, true, true, true, true, true, false, false, false, false, false, false, false, false, false, false, false, false, false, false, false, false, false, false, false, false, false, false, false, false, false, false, false, false, false, false] rfl rfl (any_of HT_.out (by kernel_rfl)) (fun _ _ _ h => h) (Or.inl ⟨by rfl, ?_⟩) ?_ ?_
            rotate_left
            ·
             intro w'
             go_simp
             with_reducible rfl
            rotate_left
            ·
             simp only [Act.put, List.setIfInBounds_toArray, List.set_cons_zero, List.set_cons_succ, i64_w, i32_w]
             rfl
            refine pure_ (i := 14) (N := some 83) (v := ?_) (a' := ?_) #[true, true, true, true, true, true, true, true, true, true, true, true, true, true, true, false, false, false, false, false, false, false, false, false, false, false, false, false, false, false, false, false, false, false, false, false, false, false, false, false, false, false, false, false] rfl rfl (any_of HT_.out (by kernel_rfl)) (fun _ _ _ h => h) (Or.inl ⟨by rfl, ?_⟩) ?_ ?_
            rotate_left
            ·
             intro w'
             go_simp
             with_reducible rfl
            rotate_left
            ·
             simp only [Act.put, List.setIfInBounds_toArray, List.set_cons_zero, List.set_cons_succ, i64_w, i32_w]
             rfl
            refine pure_ (i := 15) (N := some 84) (v := ?_) (a' := ?_) #[true, true, true, true, true, true, true, true, true, true, true, true, true, true, true, true, false, false, false, false, false, false, false, false, false, false, false, false, false, false, false, false, false, false, false, false, false, false, false, false, false, false, false, false] rfl rfl (any_of HT_.out (by kernel_rfl)) (fun _ _ _ h => h) (Or.inl ⟨by rfl, ?_⟩) ?_ ?_
            rotate_left
            ·
             intro w'
             go_simp
             with_reducible rfl
            rotate_left
            ·
             simp only [Act.put, List.setIfInBounds_toArray, List.set_cons_zero, List.set_cons_succ, i64_w, i32_w]
             rfl
            refine pure_ (i := 16) (N := some 85) (v := ?_) (a' := ?_) #[true, true, true, true, true, true, true, true, true, true, true, true, true, true, true, true, true, false, false, false, false, false, false, false, false, false, false, false, false, false, false, false, false, false, false, false, false, false, false, false, false, false, false, false] rfl rfl (any_of HT_.out (by kernel_rfl)) (fun _ _ _ h => h) (Or.inl ⟨by rfl, ?_⟩) ?_ ?_
            rotate_left
            ·
             intro w'
             go_simp
             with_reducible rfl
            rotate_left
            ·
             simp only [Act.put, List.setIfInBounds_toArray, List.set_cons_zero, List.set_cons_succ, i64_w, i32_w]
             rfl
            refine pure_ (i := 17) (N := some 86) (v := ?_) (a' := ?_) #[true, true, true, true, true, true, true, true, true, true, true, true, true, true, true, true, true, true, false, false, false, false, false, false, false, false, false, false, false, false, false, false, false, false, false, false, false, false, false, false, false, false, false, false] rfl rfl (any_of HT_.out (by kernel_rfl)) (fun _ _ _ h => h) (Or.inl ⟨by rfl, ?_⟩) ?_ ?_
            rotate_left
            ·
             intro w'
             go_simp
             with_reducible rfl
            rotate_left
            ·
             simp only [Act.put, List.setIfInBounds_toArray, List.set_cons_zero, List.set_cons_succ, i64_w, i32_w]
             rfl
            refine pure_ (i := 18) (N := some 87) (v := ?_) (a' := ?_) #[true, true, true, true, true, true, true, true, true, true, true, true, true, true, true, true, true, true, true, false, false, false, false, false, false, false, false, false, false, false, false, false, false, false, false, false, false, false, false, false, false, false, false, false] rfl rfl (any_of HT_.out (by kernel_rfl)) (fun _ _ _ h => h) (Or.inl ⟨by rfl, ?_⟩) ?_ ?_
            rotate_left
            ·
             intro w'
             go_simp
             with_reducible rfl
            rotate_left
            ·
             simp only [Act.put, List.setIfInBounds_toArray, List.set_cons_zero, List.set_cons_succ, i64_w, i32_w]
             rfl
            refine pure_ (i := 19) (N := some 88) (v := ?_) (a' := ?_) #[true, true, true, true, true, true, true, true, true, true, true, true, true, true, true, true, true, true, true, true, false, false, false, false, false, false, false, false, false, false, false, false, false, false, false, false, false, false, false, false, false, false, false, false] rfl rfl (any_of HT_.out (by kernel_rfl)) (fun _ _ _ h => h) (Or.inl ⟨by rfl, ?_⟩) ?_ ?_
            rotate_left
            ·
             intro w'
             go_simp
             with_reducible rfl
            rotate_left
            ·
             simp only [Act.put, List.setIfInBounds_toArray, List.set_cons_zero, List.set_cons_succ, i64_w, i32_w]
             rfl
            refine pure_ (i := 20) (N := some 89) (v := ?_) (a' := ?_) #[true, true, true, true, true, true, true, true, true, true, true, true, true, true, true, true, true, true, true, true, true, false, false, false, false, false, false, false, false, false, false, false, false, false, false, false, false, false, false, false, false, false, false, false] rfl rfl (any_of HT_.out (by kernel_rfl)) (fun _ _ _ h => h) (Or.inl ⟨by rfl, ?_⟩) ?_ ?_
            rotate_left
            ·
             intro w'
             go_simp
             with_reducible rfl
            rotate_left
            ·
             simp only [Act.put, List.setIfInBounds_toArray, List.set_cons_zero, List.set_cons_succ, i64_w, i32_w]
             rfl
            refine pure_ (i := 21) (N := some 90) (v := ?_) (a' := ?_) #[true, true, true, true, true, true, true, true, true, true, true, true, true, true, true, true, true, true, true, true, true, true, false, false, false, false, false, false, false, false, false, false, false, false, false, false, false, false, false, false, false, false, false, false] rfl rfl (any_of HT_.out (by kernel_rfl)) (fun _ _ _ h => h) (Or.inl ⟨by rfl, ?_⟩) ?_ ?_
            rotate_left
            ·
             intro w'
             go_simp
             with_reducible rfl
            rotate_left
            ·
             simp only [Act.put, List.setIfInBounds_toArray, List.set_cons_zero, List.set_cons_succ, i64_w, i32_w]
             rfl
            refine pure_ (i := 22) (N := some 91) (v := ?_) (a' := ?_) #[true, true, true, true, true, true, true, true, true, true, true, true, true, true, true, true, true, true, true, true, true, true, true, false, false, false, false, false, false, false, false, false, false, false, false, false, false, false, false, false, false, false, false, false] rfl rfl (any_of HT_.out (by kernel_rfl)) (fun _ _ _ h => h) (Or.inl ⟨by rfl, ?_⟩) ?_ ?_
            rotate_left
            ·
             intro w'
             go_simp
             with_reducible rfl
            rotate_left
            ·
             simp only [Act.put, List.setIfInBounds_toArray, List.set_cons_zero, List.set_cons_succ, i64_w, i32_w]
             rfl
            refine pure_ (i := 23) (N := some 92) (v := ?_) (a' := ?_) #[true, true, true, true, true, true, true, true, true, true, true, true, true, true, true, true, true, true, true, true, true, true, true, true, false, false, false, false, false, false, false, false, false, false, false, false, false, false, false, false, false, false, false, false] rfl rfl (any_of HT_.out (by kernel_rfl)) (fun _ _ _ h => h) (Or.inl ⟨by rfl, ?_⟩) ?_ ?_
            rotate_left
            ·
             intro w'
             go_simp
             with_reducible rfl
            rotate_left
            ·
             simp only [Act.put, List.setIfInBounds_toArray, List.set_cons_zero, List.set_cons_succ, i64_w, i32_w]
             rfl
            refine pure_ (i := 24) (N := some 93) (v := ?_) (a' := ?_) #[true, true, true, true, true, true, true, true, true, true, true, true, true, true, true, true, true, true, true, true, true, true, true, true, true, false, false, false, false, false, false, false, false, false, false, false, false, false, false, false, false, false, false, false] rfl rfl (any_of HT_.out (by kernel_rfl)) (fun _ _ _ h => h) (Or.inl ⟨by rfl, ?_⟩) ?_ ?_
            rotate_left
            ·
             intro w'
             go_simp
             with_reducible rfl
            rotate_left
            ·
             simp only [Act.put, List.setIfInBounds_toArray, List.set_cons_zero, List.set_cons_succ, i64_w, i32_w]
             rfl
            refine pure_ (i := 25) (N := some 94) (v := ?_) (a' := ?_) #[true, true, true, true, true, true, true, true, true, true, true, true, true, true, true, true, true, true, true, true, true, true, true, true, true, true, false, false, false, false, false, false, false, false, false, false, false, false, false, false, false, false, false, false] rfl rfl (any_of HT_.out (by kernel_rfl)) (fun _ _ _ h => h) (Or.inl ⟨by rfl, ?_⟩) ?_ ?_
            rotate_left
            ·
             intro w'
             go_simp
             with_reducible rfl
            rotate_left
            ·
             simp only [Act.put, List.setIfInBounds_toArray, List.set_cons_zero, List.set_cons_succ, i64_w, i32_w]
             rfl
            refine pure_ (i := 26) (N := some 95) (v := ?_) (a' := ?_) #[true, true, true, true, true, true, true, true, true, true, true, true, true, true, true, true, true, true, true, true, true, true, true, true, true, true, true, false, false, false, false, false, false, false, false, false, false, false, false, false, false, false, false, false] rfl rfl (any_of HT_.out (by kernel_rfl)) (fun _ _ _ h => h) (Or.inl ⟨by rfl, ?_⟩) ?_ ?_
            rotate_left
            ·
             intro w'
             go_simp
             with_reducible rfl
            rotate_left
            ·
             simp only [Act.put, List.setIfInBounds_toArray, List.set_cons_zero, List.set_cons_succ, i64_w, i32_w]
             rfl
            refine pure_ (i := 27) (N := some 96) (v := ?_) (a' := ?_) #[true, true, true, true, true, true, true, true, true, true, true, true, true, true, true, true, true, true, true, true, true, true, true, true, true, true, true, true, false, false, false, false, false, false, false, false, false, false, false, false, false, false, false, false] rfl rfl (any_of HT_.out (by kernel_rfl)) (fun _ _ _ h => h) (Or.inl ⟨by rfl, ?_⟩) ?_ ?_
            rotate_left
            ·
             intro w'
             go_simp
             with_reducible rfl
            rotate_left
            ·
             simp only [Act.put, List.setIfInBounds_toArray, List.set_cons_zero, List.set_cons_succ, i64_w, i32_w]
             rfl
            refine pure_ (i := 28) (N := some 97) (v := ?_) (a' := ?_) #[true, true, true, true, true, true, true, true, true, true, true, true, true, true, true, true, true, true, true, true, true, true, true, true, true, true, true, true, true, false, false, false, false, false, false, false, false, false, false, false, false, false, false, false] rfl rfl (any_of HT_.out (by kernel_rfl)) (fun _ _ _ h => h) (Or.inl ⟨by rfl, ?_⟩) ?_ ?_
            rotate_left
            ·
             intro w'
             go_simp
             with_reducible rfl
            rotate_left
            ·
             simp only [Act.put, List.setIfInBounds_toArray, List.set_cons_zero, List.set_cons_succ, i64_w, i32_w]
             rfl
            refine pure_ (i := 29) (N := some 98) (v := ?_) (a' := ?_) #[true, true, true, true, true, true, true, true, true, true, true, true, true, true, true, true, true, true, true, true, true, true, true, true, true, true, true, true, true, true, false, false, false, false, false, false, false, false, false, false, false, false, false, false] rfl rfl (any_of HT_.out (by kernel_rfl)) (fun _ _ _ h => h) (Or.inl ⟨by rfl, ?_⟩) ?_ ?_
            rotate_left
            ·
             intro w'
             go_simp
             with_reducible rfl
            rotate_left
            ·
             simp only [Act.put, List.setIfInBounds_toArray, List.set_cons_zero, List.set_cons_succ, i64_w, i32_w]
             rfl
            refine pure_ (i := 30) (N := some 99) (v := ?_) (a' := ?_) #[true, true, true, true, true, true, true, true, true, true, true, true, true, true, true, true, true, true, true, true, true, true, true, true, true, true, true, true, true, true, true, false, false, false, false, false, false, false, false, false, false, false, false, false] rfl rfl (any_of HT_.out (by kernel_rfl)) (fun _ _ _ h => h) (Or.inl ⟨by rfl, ?_⟩) ?_ ?_
            rotate_left
            ·
             intro w'
             go_simp
             with_reducible rfl
            rotate_left
            ·
             simp only [Act.put, List.setIfInBounds_toArray, List.set_cons_zero, List.set_cons_succ, i64_w, i32_w]
             rfl
            refine pure_ (i := 31) (N := some 100) (v := ?_) (a' := ?_) #[true, true, true, true, true, true, true, true, true, true, true, true, true, true, true, true, true, true, true, true, true, true, true, true, true, true, true, true, true, true, true, true, false, false, false, false, false, false, false, false, false, false, false, false] rfl rfl (any_of HT_.out (by kernel_rfl)) (fun _ _ _ h => h) (Or.inl ⟨by rfl, ?_⟩) ?_ ?_
            rotate_left
            ·
             intro w'
             go_simp
             with_reducible rfl
            rotate_left
            ·
             simp only [Act.put, List.setIfInBounds_toArray, List.set_cons_zero, List.set_cons_succ, i64_w, i32_w]
             rfl
            refine pure_ (i := 32) (N := some 101) (v := ?_) (a' := ?_) #[true, true, true, true, true, true, true, true, true, true, true, true, true, true, true, true, true, true, true, true, true, true, true, true, true, true, true, true, true, true, true, true, true, false, false, false, false, false, false, false, false, false, false, false] rfl rfl (any_of HT_.out (by kernel_rfl)) (fun _ _ _ h => h) (Or.inl ⟨by rfl, ?_⟩) ?_ ?_
            rotate_left
            ·
             intro w'
             go_simp
             with_reducible rfl
            rotate_left
            ·
             simp only [Act.put, List.setIfInBounds_toArray, List.set_cons_zero, List.set_cons_succ, i64_w, i32_w]
             rfl
            refine pure_ (i := 33) (N := some 102) (v := ?_) (a' := ?_) #[true, true, true, true, true, true, true, true, true, true, true, true, true, true, true, true, true, true, true, true, true, true, true, true, true, true, true, true, true, true, true, true, true, true, false, false, false, false, false, false, false, false, false, false] rfl rfl (any_of HT_.out (by kernel_rfl)) (fun _ _ _ h => h) (Or.inl ⟨by rfl, ?_⟩) ?_ ?_
            rotate_left
            ·
             intro w'
             go_simp
             with_reducible rfl
            rotate_left
            ·
             simp only [Act.put, List.setIfInBounds_toArray, List.set_cons_zero, List.set_cons_succ, i64_w, i32_w]
             rfl
            refine take_ (i := 34) (N := some 103) (v := ?_) (a' := ?_) #[true, true, true, true, true, true, true, true, true, true, true, true, true, true, true, true, true, true, true, true, true, true, true, true, true, true, true, true, true, true, true, true, true, true, true, false, false, false, false, false, false, false, false, false] rfl rfl (take_ofW HT_.out HW_.out (by kernel_rfl)) (fun _ _ _ h => h) (Or.inl ⟨by rfl, ?_⟩) hHeld ?_ ?_
            rotate_left
            ·
             rintro w' ⟨s0, s1, s2, s3⟩
             go_simp
             with_reducible rfl
            rotate_left
            ·
             simp only [Act.put, List.setIfInBounds_toArray, List.set_cons_zero, List.set_cons_succ, i64_w, i32_w]
             rfl
            refine take_ (i := 36) (N := some 105) (v := ?_) (a' := ?_) #[true, true, true, true, true, true, true, true, true, true, true, true, true, true, true, true, true, true, true, true, true, true, true, true, true, true, true, true, true, true, true, true, true, true, true, false, true, false, false, false, false, false, false, false] rfl rfl (take_ofW HT_.out HW_.out (by kernel_rfl)) (fun _ _ _ h => h) (Or.inl ⟨by rfl, ?_⟩) hHeld ?_ ?_
            rotate_left
            ·
             rintro w' ⟨s0, s1, s2, s3⟩
             go_simp
             with_reducible rfl
            rotate_left
            ·
             simp only [Act.put, List.setIfInBounds_toArray, List.set_cons_zero, List.set_cons_succ, i64_w, i32_w]
             rfl
            refine one_ (i := 35) (N := some 104) #[true, true, true, true, true, true, true, true, true, true, true, true, true, true, true, true, true, true, true, true, true, true, true, true, true, true, true, true, true, true, true, true, true, true, true, true, true, false, false, false, false, false, false, false] rfl rfl (one_of HT_.out (by kernel_rfl)) (by decide) (fun K hK => ?_)
            refine goes_ Try.func34 (by kernel_rfl) rfl #[.agg #[.slice A0_0 l0_0.length c0_0, .slice A0_1 l0_1.length c0_1]] (by rfl) rfl rfl zqE ?_
            with_reducible refine (pump_Check.calls _ _ l0_0 _ _ l0_1 t338 _ ?side1 ?side2 ?side3 ?side4 A27.out).mono ?_
            (case side1 => repeat (first | exact (Kd.C_below HR0_0.out HB.out) | (with_reducible refine Kd.C_alloc ?_ _) | (with_reducible refine Kd.C_drewN ?_ _) | (with_reducible refine Kd.C_drew ?_)))
            (case side2 => exact HC0_0.out)
            (case side3 => repeat (first | exact (Kd.C_below HR0_1.out HB.out) | (with_reducible refine Kd.C_alloc ?_ _) | (with_reducible refine Kd.C_drewN ?_ _) | (with_reducible refine Kd.C_drew ?_)))
            (case side4 => exact HC0_1.out)
            rintro e w51 ⟨rfl, hb⟩
            refine ⟨_, rfl, ?_⟩
            have n0_ := Aside0.mk (Kd.S_below (by (with_reducible repeat (first | apply Kd.S_alloc | apply Kd.S_drewN | apply Kd.S_drew)); exact HO319.out) hb)
            have n1_ := Aside0.mk (Kd.S_below (by (with_reducible repeat (first | apply Kd.S_alloc | apply Kd.S_drewN | apply Kd.S_drew)); exact HO322.out) hb)
            have n2_ := Aside0.mk (blk_below (g := gb313) (o := .cells #[.slice A0_0 l0_0.length c0_0, .slice A0_1 l0_1.length c0_1] 40 (0, 0)) (zqB BK313.out) hb)
            have n3_ := Aside0.mk (blk_below (g := gb323) (o := .cells #[.slice Ao34 t317.length co34, .slice Ao37 t320.length co37] 44 (0, 0)) (zqB BK323.out) hb)
            have n4_ := Aside0.mk (below_step (zqH HB.out GE313.out GE323.out) hb)
            clear HO319
            clear HO322
            clear BK313
            clear BK323
            clear HB
            have HO319 := n0_
            have HO322 := n1_
            have BK313 := n2_
            have BK323 := n3_
            have HB := n4_
            clear n0_ n1_ n2_ n3_ n4_
            (try clear hb)
            (try clear hb2)
            (try clear hk)
            (try clear hi)
            refine hK.out _ _ ⟨(blk_cell BK313.out 0).trans rfl, (blk_cell BK313.out 1).trans rfl, (blk_cell BK323.out 0).trans rfl, (blk_cell BK323.out 1).trans rfl⟩ (fun hHeld => ?_)
            clear hK K
            refine norm_ (a' := ?_) ?_ ?_
            rotate_left
            ·
             show Act.put _ (some 104) _ = _
             simp only [Act.put, List.setIfInBounds_toArray, List.set_cons_zero, List.set_cons_succ, i64_w, i32_w]
             rfl
            refine one_ (i := 37) (N := some 106) #[true, true, true, true, true, true, true, true, true, true, true, true, true, true, true, true, true, true, true, true, true, true, true, true, true, true, true, true, true, true, true, true, true, true, true, true, true, true, false, false, false, false, false, false] rfl rfl (one_of HT_.out (by kernel_rfl)) (by decide) (fun K hK => ?_)
            refine goes_ Try.func35 (by kernel_rfl) rfl #[.agg #[.slice Ao34 t317.length co34, .slice Ao37 t320.length co37]] (by rfl) rfl rfl zqE ?_
            with_reducible refine (pianolaref04_Check.calls kj2 _ _ t317 _ _ t320 t339 _ ?side1 ?side2 ?side3 ?side4 A28.out).mono ?_
            (case side1 => repeat (first | exact (Kd.S_reads' HO319.out).2.2 | (with_reducible refine Kd.C_alloc ?_ _) | (with_reducible refine Kd.C_drewN ?_ _) | (with_reducible refine Kd.C_drew ?_)))
            (case side2 => exact (Kd.S_reads' HO319.out).2.1)
            (case side3 => repeat (first | exact (Kd.S_reads' HO322.out).2.2 | (with_reducible refine Kd.C_alloc ?_ _) | (with_reducible refine Kd.C_drewN ?_ _) | (with_reducible refine Kd.C_drew ?_)))
            (case side4 => exact (Kd.S_reads' HO322.out).2.1)
            rintro e w52 ⟨rfl, hb⟩
            refine ⟨_, rfl, ?_⟩
            have n0_ := Aside0.mk (Kd.S_below (by (with_reducible repeat (first | apply Kd.S_alloc | apply Kd.S_drewN | apply Kd.S_drew)); exact HO319.out) hb)
            have n1_ := Aside0.mk (Kd.S_below (by (with_reducible repeat (first | apply Kd.S_alloc | apply Kd.S_drewN | apply Kd.S_drew)); exact HO322.out) hb)
            have n2_ := Aside0.mk (blk_below (g := gb313) (o := .cells #[.slice A0_0 l0_0.length c0_0, .slice A0_1 l0_1.length c0_1] 40 (0, 0)) (zqB BK313.out) hb)
            have n3_ := Aside0.mk (blk_below (g := gb323) (o := .cells #[.slice Ao34 t317.length co34, .slice Ao37 t320.length co37] 44 (0, 0)) (zqB BK323.out) hb)
            have n4_ := Aside0.mk (below_step (zqH HB.out GE313.out GE323.out) hb)
            clear HO319
            clear HO322
            clear BK313
            clear BK323
            clear HB
            have HO319 := n0_
            have HO322 := n1_
            have BK313 := n2_
            have BK323 := n3_
            have HB := n4_
            clear n0_ n1_ n2_ n3_ n4_
            (try clear hb)
            (try clear hb2)
            (try clear hk)
            (try clear hi)
            refine hK.out _ _ ⟨(blk_cell BK313.out 0).trans rfl, (blk_cell BK313.out 1).trans rfl, (blk_cell BK323.out 0).trans rfl, (blk_cell BK323.out 1).trans rfl⟩ (fun hHeld => ?_)
            clear hK K
            refine norm_ (a' := ?_) ?_ ?_
            rotate_left
            ·
             show Act.put _ (some 106) _ = _
             simp only [Act.put, List.setIfInBounds_toArray, List.set_cons_zero, List.set_cons_succ, i64_w, i32_w]
             rfl
            refine pure_ (i := 38) (N := some 107) (v := ?_) (a' := ?_) #[true, true, true, true, true, true, true, true, true, true, true, true, true, true, true, true, true, true, true, true, true, true, true, true, true, true, true, true, true, true, true, true, true, true, true, true, true, true, true, false, false, false, false, false] rfl rfl (any_of HT_.out (by kernel_rfl)) (fun _ _ _ h => h) (Or.inl ⟨by rfl, ?_⟩) ?_ ?_
            rotate_left
            ·
             intro w'
             go_simp
             with_reducible rfl
            rotate_left
            ·
             simp only [Act.put, List.setIfInBounds_toArray, List.set_cons_zero, List.set_cons_succ, i64_w, i32_w]
             rfl
            refine pure_ (i := 39) (N := some 108) (v := ?_) (a' := ?_) #[true, true, true, true, true, true, true, true, true, true, true, true, true, true, true, true, true, true, true, true, true, true, true, true, true, true, true, true, true, true, true, true, true, true, true, true, true, true, true, true, false, false, false, false] rfl rfl (any_of HT_.out (by kernel_rfl)) (fun _ _ _ h => h) (Or.inl ⟨by rfl, ?_⟩) ?_ ?_
            rotate_left
            ·
             intro w'
             go_simp
             with_reducible rfl
            rotate_left
            ·
             simp only [Act.put, List.setIfInBounds_toArray, List.set_cons_zero, List.set_cons_succ, i64_w, i32_w]
             rfl
            refine pure_ (i := 40) (N := some 109) (v := ?_) (a' := ?_) #[true, true, true, true, true, true, true, true, true, true, true, true, true, true, true, true, true, true, true, true, true, true, true, true, true, true, true, true, true, true, true, true, true, true, true, true, true, true, true, true, true, false, false, false] rfl rfl (any_of HT_.out (by kernel_rfl)) (fun _ _ _ h => h) (Or.inl ⟨by rfl, ?_⟩) ?_ ?_
            rotate_left
            ·
             intro w'
             go_simp
             with_reducible rfl
            rotate_left
            ·
             simp only [Act.put, List.setIfInBounds_toArray, List.set_cons_zero, List.set_cons_succ, i64_w, i32_w]
             rfl
            refine one_ (i := 41) (N := some 110) #[true, true, true, true, true, true, true, true, true, true, true, true, true, true, true, true, true, true, true, true, true, true, true, true, true, true, true, true, true, true, true, true, true, true, true, true, true, true, true, true, true, true, false, false] rfl rfl (one_of HT_.out (by kernel_rfl)) (by decide) (fun K hK => ?_)
            refine goes_ Try.func15 (by kernel_rfl) rfl #[] (by rfl) rfl rfl zqE ?_
            with_reducible refine (pianolalaw04_works.calls  t340 _ A30.out).mono ?_
            rintro e w53 ⟨rfl, hb⟩
            refine ⟨_, rfl, ?_⟩
            have n0_ := Aside0.mk (Kd.S_below (by (with_reducible repeat (first | apply Kd.S_alloc | apply Kd.S_drewN | apply Kd.S_drew)); exact HO319.out) hb)
            have n1_ := Aside0.mk (Kd.S_below (by (with_reducible repeat (first | apply Kd.S_alloc | apply Kd.S_drewN | apply Kd.S_drew)); exact HO322.out) hb)
            have n2_ := Aside0.mk (blk_below (g := gb313) (o := .cells #[.slice A0_0 l0_0.length c0_0, .slice A0_1 l0_1.length c0_1] 40 (0, 0)) (zqB BK313.out) hb)
            have n3_ := Aside0.mk (blk_below (g := gb323) (o := .cells #[.slice Ao34 t317.length co34, .slice Ao37 t320.length co37] 44 (0, 0)) (zqB BK323.out) hb)
            have n4_ := Aside0.mk (below_step (zqH HB.out GE313.out GE323.out) hb)
            clear HO319
            clear HO322
            clear BK313
            clear BK323
            clear HB
            have HO319 := n0_
            have HO322 := n1_
            have BK313 := n2_
            have BK323 := n3_
            have HB := n4_
            clear n0_ n1_ n2_ n3_ n4_
            (try clear hb)
            (try clear hb2)
            (try clear hk)
            (try clear hi)
            refine hK.out _ _ ⟨(blk_cell BK313.out 0).trans rfl, (blk_cell BK313.out 1).trans rfl, (blk_cell BK323.out 0).trans rfl, (blk_cell BK323.out 1).trans rfl⟩ (fun hHeld => ?_)
            clear hK K
            refine norm_ (a' := ?_) ?_ ?_
            rotate_left
            ·
             show Act.put _ (some 110) _ = _
             simp only [Act.put, List.setIfInBounds_toArray, List.set_cons_zero, List.set_cons_succ, i64_w, i32_w]
             rfl
            refine pure_ (i := 42) (N := some 111) (v := ?_) (a' := ?_) #[true, true, true, true, true, true, true, true, true, true, true, true, true, true, true, true, true, true, true, true, true, true, true, true, true, true, true, true, true, true, true, true, true, true, true, true, true, true, true, true, true, true, true, false] rfl rfl (any_of HT_.out (by kernel_rfl)) (fun _ _ _ h => h) (Or.inl ⟨by rfl, ?_⟩) ?_ ?_
            rotate_left
            ·
             intro w'
             go_simp
             with_reducible rfl
            rotate_left
            ·
             simp only [Act.put, List.setIfInBounds_toArray, List.set_cons_zero, List.set_cons_succ, i64_w, i32_w]
             rfl
            refine pure_ (i := 43) (N := some 4) (v := ?_) (a' := ?_) #[true, true, true, true, true, true, true, true, true, true, true, true, true, true, true, true, true, true, true, true, true, true, true, true, true, true, true, true, true, true, true, true, true, true, true, true, true, true, true, true, true, true, true, true] rfl rfl (any_of HT_.out (by kernel_rfl)) (fun _ _ _ h => h) (Or.inl ⟨by rfl, ?_⟩) ?_ ?_
            rotate_left
            ·
             intro w'
             go_simp
             with_reducible rfl
            rotate_left
            ·
             simp only [Act.put, List.setIfInBounds_toArray, List.set_cons_zero, List.set_cons_succ, i64_w, i32_w]
             rfl
            refine done_ (done_of HT_.out (by kernel_rfl)) ?_
            try go_wp2
            go_ret
            exact ⟨by first | rfl | (simp [errW_none, errW_some] <;> rfl) | (simp [*, errW_none, errW_some] <;> rfl), zqH HB.out GE313.out GE323.out⟩
           ·
            rw [if_neg c29] at H
            exact absurd ((Option.some.inj H).trans HRT.out) (by decide)
          ·
           rw [if_neg c26] at H
           exact absurd ((Option.some.inj H).trans HRT.out) (by decide)
         ·
          rw [if_neg c25] at H
          exact absurd ((Option.some.inj H).trans HRT.out) (by decide)
        ·
         rw [if_neg c24] at H
         exact absurd ((Option.some.inj H).trans HRT.out) (by decide)
       ·
        rw [if_neg c23] at H
        exact absurd ((Option.some.inj H).trans HRT.out) (by decide)
      ·
       rw [if_neg c22] at H
       exact absurd ((Option.some.inj H).trans HRT.out) (by decide)
     ·
      rw [if_neg c21] at H
      exact absurd ((Option.some.inj H).trans HRT.out) (by decide)
    ·
     rw [if_neg c20] at H
     exact absurd ((Option.some.inj H).trans HRT.out) (by decide)end Go.Proofs.Ythoeindopljmkaa.P
end
section
namespace Pm
abbrev B2 := Int × Int
structure Bds (L : List B2) : Prop where
  ne : L ≠ []
  t : ∀ b ∈ L, 1 ≤ b.1 ∧ b.1 ≤ 100
  a : ∀ b ∈ L, 0 ≤ b.2 ∧ b.2 ≤ 1000000
def minFrom (f : B2 → Int) : List B2 → Int → Int → Int → Int × Int
  | [], _, s, k => (s, k)
  | b :: l, i, s, k => if i = 0 ∨ f b < s then minFrom f l (i + 1) (f b) i else minFrom f l (i + 1) s k
def maxFrom (n : Int) (f : B2 → Int) : List B2 → Int → Int → Int → Int × Int
  | [], _, s, k => (s, k)
  | b :: l, i, s, k => if b.1 ≤ n ∧ f b > s then maxFrom n f l (i + 1) (f b) i else maxFrom n f l (i + 1) s k
theorem minFrom_le (f : B2 → Int) : ∀ (l : List B2) (i s k : Int), 0 < i → (minFrom f l i s k).1 ≤ s ∧ ∀ b ∈ l, (minFrom f l i s k).1 ≤ f b
  | [], _, s, k, _ => ⟨Int.le_refl _, fun _ h => by cases h⟩
  | b :: l, i, s, k, hi => by
    unfold minFrom
    by_cases c : i = 0 ∨ f b < s
    · rw [if_pos c]
      obtain ⟨h1, h2⟩ := minFrom_le f l (i + 1) (f b) i (by omega)
      refine ⟨by omega, fun x hx => ?_⟩
      cases hx with
      | head => exact h1
      | tail _ hx => exact h2 x hx
    · rw [if_neg c]
      obtain ⟨h1, h2⟩ := minFrom_le f l (i + 1) s k (by omega)
      refine ⟨h1, fun x hx => ?_⟩
      cases hx with
      | head => omega
      | tail _ hx => exact h2 x hx
theorem minFrom_at (f : B2 → Int) : ∀ (l pre : List B2) (s k : Int), (k = -1 ∧ pre = [] ∨ ∃ j : Nat, k = j ∧ ∃ b, (pre ++ l)[j]? = some b ∧ j < pre.length ∧ f b = s) →
    (minFrom f l (pre.length : Int) s k = (s, k) ∧ l = [] ∧ pre = []) ∨ ∃ j : Nat, (minFrom f l (pre.length : Int) s k).2 = j ∧ ∃ b, (pre ++ l)[j]? = some b ∧ f b = (minFrom f l (pre.length : Int) s k).1
  | [], pre, s, k, h => by
    rcases h with ⟨h1, h2⟩ | ⟨j, hj, b, hb, _, hf⟩
    · exact .inl ⟨rfl, rfl, h2⟩
    · exact .inr ⟨j, hj, b, hb, hf⟩
  | b :: l, pre, s, k, h => by
    have e : pre ++ b :: l = (pre ++ [b]) ++ l := by simp
    have el : ((pre ++ [b]).length : Int) = (pre.length : Int) + 1 := by simp
    unfold minFrom
    by_cases c : (pre.length : Int) = 0 ∨ f b < s
    · rw [if_pos c, ← el, e]
      rcases minFrom_at f l (pre ++ [b]) (f b) pre.length (.inr ⟨pre.length, rfl, b, by simp, by simp, rfl⟩) with ⟨_, _, h3⟩ | h
      · simp at h3
      · exact .inr h
    · rw [if_neg c, ← el, e]
      rcases h with ⟨h1, h2⟩ | ⟨j, hj, x, hx, hlt, hf⟩
      · exact absurd (.inl (by rw [h2]; rfl)) c
      · rcases minFrom_at f l (pre ++ [b]) s k (.inr ⟨j, hj, x, by rw [← e]; exact hx, by simp; omega, hf⟩) with ⟨_, _, h3⟩ | h
        · simp at h3
        · exact .inr h
theorem maxFrom_le (n : Int) (f : B2 → Int) : ∀ (l : List B2) (i s k : Int), s ≤ (maxFrom n f l i s k).1 ∧ ∀ b ∈ l, b.1 ≤ n → f b ≤ (maxFrom n f l i s k).1
  | [], _, s, k => ⟨Int.le_refl _, fun _ h => by cases h⟩
  | b :: l, i, s, k => by
    unfold maxFrom
    by_cases c : b.1 ≤ n ∧ f b > s
    · rw [if_pos c]
      obtain ⟨h1, h2⟩ := maxFrom_le n f l (i + 1) (f b) i
      refine ⟨by omega, fun x hx hn => ?_⟩
      cases hx with
      | head => exact h1
      | tail _ hx => exact h2 x hx hn
    · rw [if_neg c]
      obtain ⟨h1, h2⟩ := maxFrom_le n f l (i + 1) s k
      refine ⟨h1, fun x hx hn => ?_⟩
      cases hx with
      | head => omega
      | tail _ hx => exact h2 x hx hn
theorem maxFrom_at (n : Int) (f : B2 → Int) : ∀ (l pre : List B2) (s0 s k : Int), (k = -1 ∧ s = s0 ∨ ∃ j : Nat, k = j ∧ ∃ b, (pre ++ l)[j]? = some b ∧ f b = s ∧ b.1 ≤ n) →
    ((maxFrom n f l (pre.length : Int) s k).2 = -1 ∧ (maxFrom n f l (pre.length : Int) s k).1 = s0) ∨ ∃ j : Nat, (maxFrom n f l (pre.length : Int) s k).2 = j ∧ ∃ b, (pre ++ l)[j]? = some b ∧ f b = (maxFrom n f l (pre.length : Int) s k).1 ∧ b.1 ≤ n
  | [], pre, s0, s, k, h => by
    rcases h with ⟨h1, h2⟩ | ⟨j, hj, b, hb, hf, hn⟩
    · exact .inl ⟨h1, h2⟩
    · exact .inr ⟨j, hj, b, hb, hf, hn⟩
  | b :: l, pre, s0, s, k, h => by
    have e : pre ++ b :: l = (pre ++ [b]) ++ l := by simp
    have el : ((pre ++ [b]).length : Int) = (pre.length : Int) + 1 := by simp
    unfold maxFrom
    by_cases c : b.1 ≤ n ∧ f b > s
    · rw [if_pos c, ← el, e]
      exact maxFrom_at n f l (pre ++ [b]) s0 (f b) pre.length (.inr ⟨pre.length, rfl, b, by simp, rfl, c.1⟩)
    · rw [if_neg c, ← el, e]
      exact maxFrom_at n f l (pre ++ [b]) s0 s k (by rw [← e]; exact h)
def stepM (L : List B2) (s : List Int) : Int × Int := minFrom (fun b => s.getD (max 0 ((s.length : Int) - b.1)).toNat 0 + b.2) L 0 0 0
def stepL (L : List B2) (s : List Int) : Int × Int := maxFrom (s.length : Int) (fun b => s.getD ((s.length : Int) - b.1).toNat 0 + b.2) L 0 (s.getD (s.length - 1) 0) (-1)
def tabF (R : List Int → Int × Int) : Nat → List Int × List Int
  | 0 => ([0], [-1])
  | n + 1 => ((tabF R n).1 ++ [(R (tabF R n).1).1], (tabF R n).2 ++ [(R (tabF R n).1).2])
theorem tabF_len (R : List Int → Int × Int) : ∀ n, (tabF R n).1.length = n + 1 ∧ (tabF R n).2.length = n + 1
  | 0 => ⟨rfl, rfl⟩
  | n + 1 => by
    obtain ⟨h1, h2⟩ := tabF_len R n
    simp [tabF, h1, h2]
def valF (R : List Int → Int × Int) (n : Nat) : Int := (tabF R n).1.getD n 0
def lastF (R : List Int → Int × Int) (n : Nat) : Int := (tabF R n).2.getD n 0
theorem tabF_get (R : List Int → Int × Int) : ∀ (n m : Nat), m ≤ n → (tabF R n).1.getD m 0 = valF R m ∧ (tabF R n).2.getD m 0 = lastF R m
  | 0, m, h => by
    have : m = 0 := by omega
    subst this
    exact ⟨rfl, rfl⟩
  | n + 1, m, h => by
    by_cases c : m = n + 1
    · subst c; exact ⟨rfl, rfl⟩
    · obtain ⟨h1, h2⟩ := tabF_get R n m (by omega)
      obtain ⟨l1, l2⟩ := tabF_len R n
      simp only [tabF]
      rw [List.getD_eq_getElem?_getD, List.getElem?_append_left (by omega), ← List.getD_eq_getElem?_getD, h1, List.getD_eq_getElem?_getD, List.getElem?_append_left (by omega), ← List.getD_eq_getElem?_getD, h2]
      exact ⟨rfl, rfl⟩
theorem valF_succ (R : List Int → Int × Int) (n : Nat) : valF R (n + 1) = (R (tabF R n).1).1 ∧ lastF R (n + 1) = (R (tabF R n).1).2 := by
  obtain ⟨l1, l2⟩ := tabF_len R n
  unfold valF lastF
  simp only [tabF]
  rw [List.getD_eq_getElem?_getD, List.getElem?_append_right (by omega), List.getD_eq_getElem?_getD, List.getElem?_append_right (by omega), l1, l2]
  simp
def mst (L : List B2) : Nat → Int := valF (stepM L)
def lst (L : List B2) : Nat → Int := valF (stepL L)
section
variable {L : List B2} (h : Bds L)
include h
theorem mst_spec (n : Nat) : (∀ b ∈ L, mst L (n + 1) ≤ mst L (n + 1 - b.1.toNat) + b.2) ∧ ∃ j : Nat, lastF (stepM L) (n + 1) = j ∧ ∃ b, L[j]? = some b ∧ mst L (n + 1) = mst L (n + 1 - b.1.toNat) + b.2 := by
  obtain ⟨l1, _⟩ := tabF_len (stepM L) n
  have hg : ∀ b ∈ L, (tabF (stepM L) n).1.getD (max 0 (((tabF (stepM L) n).1.length : Int) - b.1)).toNat 0 = mst L (n + 1 - b.1.toNat) := by
    intro b hb
    have := h.t b hb
    rw [show (max 0 (((tabF (stepM L) n).1.length : Int) - b.1)).toNat = n + 1 - b.1.toNat by omega]
    exact (tabF_get (stepM L) n _ (by omega)).1
  have hv := valF_succ (stepM L) n
  have hne := h.ne
  constructor
  · intro b hb
    show valF (stepM L) (n + 1) ≤ _
    rw [hv.1, ← hg b hb]
    unfold stepM
    cases L with
    | nil => exact absurd rfl hne
    | cons c l =>
      unfold minFrom
      rw [if_pos (.inl rfl)]
      obtain ⟨m1, m2⟩ := minFrom_le (fun b => (tabF (stepM (c :: l)) n).1.getD (max 0 (((tabF (stepM (c :: l)) n).1.length : Int) - b.1)).toNat 0 + b.2) l (0 + 1) ((tabF (stepM (c :: l)) n).1.getD (max 0 (((tabF (stepM (c :: l)) n).1.length : Int) - c.1)).toNat 0 + c.2) 0 (by omega)
      cases hb with
      | head => exact m1
      | tail _ hb => exact m2 b hb
  · rw [hv.2]
    show ∃ j : Nat, _ ∧ ∃ b, _ ∧ valF (stepM L) (n + 1) = _
    rw [hv.1]
    have := minFrom_at (fun b => (tabF (stepM L) n).1.getD (max 0 (((tabF (stepM L) n).1.length : Int) - b.1)).toNat 0 + b.2) L [] 0 0
    unfold stepM
    cases L with
    | nil => exact absurd rfl hne
    | cons c l =>
      unfold minFrom
      rw [if_pos (.inl rfl)]
      rcases minFrom_at (fun b => (tabF (stepM (c :: l)) n).1.getD (max 0 (((tabF (stepM (c :: l)) n).1.length : Int) - b.1)).toNat 0 + b.2) l [c] ((tabF (stepM (c :: l)) n).1.getD (max 0 (((tabF (stepM (c :: l)) n).1.length : Int) - c.1)).toNat 0 + c.2) 0 (.inr ⟨0, rfl, c, rfl, by simp, rfl⟩) with ⟨_, _, h3⟩ | ⟨j, hj, b, hb, hf⟩
      · simp at h3
      · refine ⟨j, hj, b, hb, ?_⟩
        rw [← hg b (List.mem_of_getElem? hb)]
        exact hf.symm
theorem lst_spec (n : Nat) : lst L n ≤ lst L (n + 1) ∧ (∀ b ∈ L, b.1 ≤ (n : Int) + 1 → lst L (n + 1 - b.1.toNat) + b.2 ≤ lst L (n + 1)) ∧
    ((lastF (stepL L) (n + 1) = -1 ∧ lst L (n + 1) = lst L n) ∨ ∃ j : Nat, lastF (stepL L) (n + 1) = j ∧ ∃ b, L[j]? = some b ∧ b.1 ≤ (n : Int) + 1 ∧ lst L (n + 1) = lst L (n + 1 - b.1.toNat) + b.2) := by
  obtain ⟨l1, _⟩ := tabF_len (stepL L) n
  have hg : ∀ b ∈ L, b.1 ≤ (n : Int) + 1 → (tabF (stepL L) n).1.getD (((tabF (stepL L) n).1.length : Int) - b.1).toNat 0 = lst L (n + 1 - b.1.toNat) := by
    intro b hb hn
    have := h.t b hb
    rw [show (((tabF (stepL L) n).1.length : Int) - b.1).toNat = n + 1 - b.1.toNat by omega]
    exact (tabF_get (stepL L) n _ (by omega)).1
  have h0 : (tabF (stepL L) n).1.getD ((tabF (stepL L) n).1.length - 1) 0 = lst L n := by
    rw [l1]
    exact (tabF_get (stepL L) n n (by omega)).1
  have hv := valF_succ (stepL L) n
  have hm := maxFrom_le ((tabF (stepL L) n).1.length : Int) (fun b => (tabF (stepL L) n).1.getD (((tabF (stepL L) n).1.length : Int) - b.1).toNat 0 + b.2) L 0 ((tabF (stepL L) n).1.getD ((tabF (stepL L) n).1.length - 1) 0) (-1)
  have ha := maxFrom_at ((tabF (stepL L) n).1.length : Int) (fun b => (tabF (stepL L) n).1.getD (((tabF (stepL L) n).1.length : Int) - b.1).toNat 0 + b.2) L [] ((tabF (stepL L) n).1.getD ((tabF (stepL L) n).1.length - 1) 0) ((tabF (stepL L) n).1.getD ((tabF (stepL L) n).1.length - 1) 0) (-1) (.inl ⟨rfl, rfl⟩)
  have ev : lst L (n + 1) = (stepL L (tabF (stepL L) n).1).1 := hv.1
  have el : lastF (stepL L) (n + 1) = (stepL L (tabF (stepL L) n).1).2 := hv.2
  have es : stepL L (tabF (stepL L) n).1 = maxFrom ((tabF (stepL L) n).1.length : Int) (fun b => (tabF (stepL L) n).1.getD (((tabF (stepL L) n).1.length : Int) - b.1).toNat 0 + b.2) L 0 ((tabF (stepL L) n).1.getD ((tabF (stepL L) n).1.length - 1) 0) (-1) := rfl
  rw [es] at ev el
  simp only [List.length_nil] at ha
  rw [show ((0 : Nat) : Int) = 0 from rfl, ← ev, ← el] at ha
  rw [← ev] at hm
  rw [h0] at hm ha
  refine ⟨hm.1, fun b hb hn => ?_, ?_⟩
  · have := hm.2 b hb (by rw [l1]; omega)
    rw [hg b hb hn] at this
    exact this
  · rcases ha with ⟨h1, h2⟩ | ⟨j, hj, b, hb, hf, hn⟩
    · exact .inl ⟨h1, h2⟩
    · have hb' : L[j]? = some b := hb
      have hn' : b.1 ≤ (n : Int) + 1 := by rw [l1] at hn; omega
      refine .inr ⟨j, hj, b, hb', hn', ?_⟩
      rw [← hf]
      rw [hg b (List.mem_of_getElem? hb') hn']
theorem mst_nonneg : ∀ n, 0 ≤ mst L n := by
  intro n
  induction n using Nat.strongRecOn with
  | _ n ih =>
    cases n with
    | zero => exact Int.le_refl _
    | succ n =>
      obtain ⟨_, j, _, b, hb, e⟩ := mst_spec h n
      have hbm := List.mem_of_getElem? hb
      have := h.t b hbm
      have := h.a b hbm
      have := ih (n + 1 - b.1.toNat) (by omega)
      omega
theorem mst_step : ∀ n, mst L n ≤ mst L (n + 1) := by
  intro n
  induction n using Nat.strongRecOn with
  | _ n ih =>
    obtain ⟨_, j, _, b, hb, e⟩ := mst_spec h n
    have hbm := List.mem_of_getElem? hb
    have ht := h.t b hbm
    have ha := h.a b hbm
    cases n with
    | zero =>
      have := mst_nonneg h 1
      exact this
    | succ n =>
      have h1 := (mst_spec h n).1 b hbm
      by_cases c : (b.1.toNat) ≤ n + 1
      · have h2 := ih (n + 1 - b.1.toNat) (by omega)
        rw [show n + 1 - b.1.toNat + 1 = n + 1 + 1 - b.1.toNat by omega] at h2
        omega
      · rw [show n + 1 - b.1.toNat = n + 1 + 1 - b.1.toNat by omega] at h1
        omega
theorem mst_mono {m n : Nat} (hmn : m ≤ n) : mst L m ≤ mst L n := by
  induction n with
  | zero =>
    have : m = 0 := by omega
    subst this; exact Int.le_refl _
  | succ n ih =>
    by_cases c : m = n + 1
    · subst c; exact Int.le_refl _
    · exact Int.le_trans (ih (by omega)) (mst_step h n)
theorem mst_bd : ∀ n : Nat, mst L n ≤ 1000000 * n := by
  intro n
  induction n with
  | zero => exact Int.le_refl _
  | succ n ih =>
    obtain ⟨c, l, e⟩ := List.exists_cons_of_ne_nil h.ne
    have hc : c ∈ L := by rw [e]; exact List.mem_cons_self ..
    have h1 := (mst_spec h n).1 c hc
    have ha := h.a c hc
    have ht := h.t c hc
    have h2 := mst_mono h (show n + 1 - c.1.toNat ≤ n by omega)
    omega
theorem lst_mono {m n : Nat} (hmn : m ≤ n) : lst L m ≤ lst L n := by
  induction n with
  | zero =>
    have : m = 0 := by omega
    subst this; exact Int.le_refl _
  | succ n ih =>
    by_cases c : m = n + 1
    · subst c; exact Int.le_refl _
    · exact Int.le_trans (ih (by omega)) (lst_spec h n).1
theorem lst_nonneg (n : Nat) : 0 ≤ lst L n := lst_mono h (Nat.zero_le n)
theorem lst_bd : ∀ n : Nat, lst L n ≤ 1000000 * n := by
  intro n
  induction n using Nat.strongRecOn with
  | _ n ih =>
    cases n with
    | zero => exact Int.le_refl _
    | succ n =>
      rcases (lst_spec h n).2.2 with ⟨_, e⟩ | ⟨j, _, b, hb, hn, e⟩
      · have := ih n (by omega)
        omega
      · have hbm := List.mem_of_getElem? hb
        have ht := h.t b hbm
        have ha := h.a b hbm
        have := ih (n + 1 - b.1.toNat) (by omega)
        omega
end
end Pm
end
section
namespace Go.Proofs.Ythoeindopljmkaa.P
open Go.RowKit Go.Proofs.YthoeindopljmkaaW.PrintWords Go.Proofs.YthoeindopljmkaaW.PrintLast Go.Proofs.YthoeindopljmkaaW.PrintMore
open Pm
def bs (l : List S71) : List B2 := l.map fun b => (b.f0, b.f1)
theorem bs_drop (l : List S71) {i : Nat} (h : i < l.length) : (bs l).drop i = ((rd_T71 l i).f0, (rd_T71 l i).f1) :: (bs l).drop (i + 1) := by
  have hl : i < (bs l).length := by simpa [bs] using h
  rw [List.drop_eq_getElem_cons hl]
  congr 1
  unfold rd_T71
  rw [List.getD_eq_getElem?_getD, Int.toNat_natCast, List.getElem?_eq_getElem h]
  simp [bs]
theorem mx_max (a b : Int) : mx a b = max a b := by unfold mx; omega
def Small (s : List Int) : Prop := ∀ n, 0 ≤ s.getD n 0 ∧ s.getD n 0 ≤ 1000000000
theorem most_l0 {l : List S71} (hb : Bds (bs l)) (hl : l.length ≤ 1000) (s t : List Int) (hs : Small s) (hn : 0 < s.length) (hn2 : s.length ≤ 1000) : ∀ (k : Nat) (i : Nat) (x4 x5 : Int), i ≤ l.length → l.length - i < k →
    pump_bounds_most.l0 k x4 x5 s.length l l.length i s t = some (minFrom (fun b => s.getD (max 0 ((s.length : Int) - b.1)).toNat 0 + b.2) ((bs l).drop i) i x4 x5)
  | 0, i, x4, x5, hi, hk => by omega
  | k + 1, i, x4, x5, hi, hk => by
    unfold pump_bounds_most.l0
    by_cases c : i < l.length
    · have hm : ((rd_T71 l i).f0, (rd_T71 l i).f1) ∈ bs l := List.mem_of_mem_drop (i := i) (by rw [bs_drop l c]; exact List.mem_cons_self)
      have ht := hb.t _ hm
      have ha := hb.a _ hm
      dsimp only at ht ha
      have e1 : wrap64 ((s.length : Int) - (rd_T71 l i).f0) = (s.length : Int) - (rd_T71 l i).f0 := by unfold wrap64; omega
      have e2 : wrap64 ((i : Int) + 1) = ((i + 1 : Nat) : Int) := by unfold wrap64; omega
      have hj := hs (max 0 ((s.length : Int) - (rd_T71 l i).f0)).toNat
      have e3 : wrap64 (rd s (mx 0 (wrap64 ((s.length : Int) - (rd_T71 l i).f0))) + (rd_T71 l i).f1) = s.getD (max 0 ((s.length : Int) - (rd_T71 l i).f0)).toNat 0 + (rd_T71 l i).f1 := by
        rw [e1, mx_max]
        show wrap64 (s.getD _ 0 + _) = _
        unfold wrap64; omega
      rw [if_pos (by omega), if_pos (by omega), if_pos (by omega), if_pos (by rw [e1, mx_max]; omega), if_pos (by rw [e1, mx_max]; omega), e3, e2, bs_drop l c]
      have ih := fun a b => most_l0 hb hl s t hs hn hn2 k (i + 1) a b (by omega) (by omega)
      unfold minFrom
      by_cases c0 : i = 0
      · rw [if_pos (by omega), ih, if_pos (.inl (by omega))]
        rfl
      · rw [if_neg (by omega)]
        by_cases c4 : s.getD (max 0 ((s.length : Int) - (rd_T71 l i).f0)).toNat 0 + (rd_T71 l i).f1 < x4
        · rw [if_pos c4, ih, if_pos (.inr c4)]; rfl
        · rw [if_neg c4, ih, if_neg (by rintro (h | h); omega; exact c4 h)]; rfl
    · rw [if_neg (by omega), List.drop_eq_nil_of_le (by simp [bs]; omega)]
      rfl
theorem tab_out (R : List Int → Int × Int) (n m : Nat) (h : n < m) : (tabF R n).1.getD m 0 = 0 := by
  rw [List.getD_eq_getElem?_getD, List.getElem?_eq_none (by rw [(tabF_len R n).1]; omega)]; rfl
theorem small_most {L : List B2} (hb : Bds L) {n : Nat} (hn : n ≤ 500) : Small (tabF (stepM L) n).1 := fun m => by
  by_cases c : m ≤ n
  · rw [(tabF_get _ n m c).1]
    have h1 := mst_nonneg hb m
    have h2 := mst_bd hb m
    unfold mst at h1 h2
    omega
  · rw [tab_out _ n m (by omega)]; omega
theorem small_least {L : List B2} (hb : Bds L) {n : Nat} (hn : n ≤ 500) : Small (tabF (stepL L) n).1 := fun m => by
  by_cases c : m ≤ n
  · rw [(tabF_get _ n m c).1]
    have h1 := lst_nonneg hb m
    have h2 := lst_bd hb m
    unfold lst at h1 h2
    omega
  · rw [tab_out _ n m (by omega)]; omega
theorem most_f {l : List S71} (hb : Bds (bs l)) (hl : l.length ≤ 1000) {n : Nat} (hn : n ≤ 500) (t : List Int) : pump_bounds_most.f (l.length + 1) l (tabF (stepM (bs l)) n).1 t = some (stepM (bs l) (tabF (stepM (bs l)) n).1) := by
  unfold pump_bounds_most.f
  have h := most_l0 hb hl (tabF (stepM (bs l)) n).1 t (small_most hb hn) (by rw [(tabF_len _ n).1]; omega) (by rw [(tabF_len _ n).1]; omega) (l.length + 1) 0 0 0 (Nat.zero_le _) (by omega)
  rw [List.drop_zero] at h
  exact h
theorem tabledm_l0 {l : List S71} (hb : Bds (bs l)) (hl : l.length ≤ 1000) {a : Nat} (ha : a ≤ 400) : ∀ (k m : Nat), m ≤ a → a - m + 1 < k → pump_tabledm.l0 k l a (tabF (stepM (bs l)) m).1 (tabF (stepM (bs l)) m).2 = some (tabF (stepM (bs l)) a)
  | 0, m, _, hk => by omega
  | k + 1, m, hm, hk => by
    unfold pump_tabledm.l0
    have l1 := tabF_len (stepM (bs l)) m
    by_cases c : m < a
    · have e := tabledm_l0 hb hl ha k (m + 1) (by omega) (by omega)
      rw [if_pos (by rw [l1.1]; omega), most_f hb hl (by omega), Option.bind_some, if_pos (by rw [l1.1]; omega), if_pos (by rw [l1.2]; omega)]
      exact e
    · obtain rfl : m = a := by omega
      rw [if_neg (by rw [l1.1]; omega)]
theorem tabled_most_f {l : List S71} (hb : Bds (bs l)) (hl : l.length ≤ 1000) {a : Nat} (ha : a ≤ 400) : tabled_most.f l a = some (tabF (stepM (bs l)) a) := by
  unfold tabled_most.f pump_tabledm.f
  exact tabledm_l0 hb hl ha _ 0 (Nat.zero_le _) (by rw [Int.toNat_natCast]; omega)
theorem least_l0 {l : List S71} (hb : Bds (bs l)) (hl : l.length ≤ 1000) (s t : List Int) (hs : Small s) (hn : 0 < s.length) (hn2 : s.length ≤ 1000) : ∀ (k : Nat) (i : Nat) (x4 x5 : Int), i ≤ l.length → l.length - i < k →
    pump_bounds_least.l0 k x4 x5 s.length l l.length i s t = some (maxFrom (s.length : Int) (fun b => s.getD ((s.length : Int) - b.1).toNat 0 + b.2) ((bs l).drop i) i x4 x5)
  | 0, i, x4, x5, hi, hk => by omega
  | k + 1, i, x4, x5, hi, hk => by
    unfold pump_bounds_least.l0
    by_cases c : i < l.length
    · have hm : ((rd_T71 l i).f0, (rd_T71 l i).f1) ∈ bs l := List.mem_of_mem_drop (i := i) (by rw [bs_drop l c]; exact List.mem_cons_self)
      have ht := hb.t _ hm
      have ha := hb.a _ hm
      dsimp only at ht ha
      have e1 : wrap64 ((s.length : Int) - (rd_T71 l i).f0) = (s.length : Int) - (rd_T71 l i).f0 := by unfold wrap64; omega
      have e2 : wrap64 ((i : Int) + 1) = ((i + 1 : Nat) : Int) := by unfold wrap64; omega
      have hj := hs ((s.length : Int) - (rd_T71 l i).f0).toNat
      have e3 : wrap64 (rd s (wrap64 ((s.length : Int) - (rd_T71 l i).f0)) + (rd_T71 l i).f1) = s.getD ((s.length : Int) - (rd_T71 l i).f0).toNat 0 + (rd_T71 l i).f1 := by
        rw [e1]
        show wrap64 (s.getD _ 0 + _) = _
        unfold wrap64; omega
      have ih := fun a b => least_l0 hb hl s t hs hn hn2 k (i + 1) a b (by omega) (by omega)
      rw [if_pos (by omega), if_pos (by omega), if_pos (by omega), bs_drop l c]
      unfold maxFrom
      by_cases c0 : (rd_T71 l i).f0 ≤ (s.length : Int)
      · rw [if_pos c0, if_pos (by rw [e1]; omega), if_pos (by rw [e1]; omega), e3, e2]
        by_cases c4 : s.getD ((s.length : Int) - (rd_T71 l i).f0).toNat 0 + (rd_T71 l i).f1 > x4
        · rw [if_pos c4, ih, if_pos ⟨c0, c4⟩]; rfl
        · rw [if_neg c4, ih, if_neg (fun h => c4 h.2)]; rfl
      · rw [if_neg c0, e2, ih, if_neg (fun h => c0 h.1)]; rfl
    · rw [if_neg (by omega), List.drop_eq_nil_of_le (by simp [bs]; omega)]
      rfl
theorem least_f {l : List S71} (hb : Bds (bs l)) (hl : l.length ≤ 1000) {n : Nat} (hn : n ≤ 500) (t : List Int) : pump_bounds_least.f (l.length + 1) l (tabF (stepL (bs l)) n).1 t = some (stepL (bs l) (tabF (stepL (bs l)) n).1) := by
  have l1 := (tabF_len (stepL (bs l)) n).1
  have hsm := small_least hb hn
  generalize (tabF (stepL (bs l)) n).1 = X at l1 hsm
  unfold pump_bounds_least.f
  have e1 : wrap64 ((X.length : Int) - 1) = (n : Int) := by rw [l1]; unfold wrap64; omega
  rw [e1, if_pos (by omega), if_pos (by rw [l1]; omega)]
  have h := least_l0 hb hl X t hsm (by rw [l1]; omega) (by rw [l1]; omega) (l.length + 1) 0 (rd X n) (-1) (Nat.zero_le _) (by omega)
  rw [List.drop_zero] at h
  refine h.trans ?_
  unfold stepL
  rw [show X.length - 1 = n by omega]
  rfl
theorem tabledl_l0 {l : List S71} (hb : Bds (bs l)) (hl : l.length ≤ 1000) {a : Nat} (ha : a ≤ 400) : ∀ (k m : Nat), m ≤ a → a - m + 1 < k → pump_tabledl.l0 k l a (tabF (stepL (bs l)) m).1 (tabF (stepL (bs l)) m).2 = some (tabF (stepL (bs l)) a)
  | 0, m, _, hk => by omega
  | k + 1, m, hm, hk => by
    unfold pump_tabledl.l0
    have l1 := tabF_len (stepL (bs l)) m
    by_cases c : m < a
    · have e := tabledl_l0 hb hl ha k (m + 1) (by omega) (by omega)
      rw [if_pos (by rw [l1.1]; omega), least_f hb hl (by omega), Option.bind_some, if_pos (by rw [l1.1]; omega), if_pos (by rw [l1.2]; omega)]
      exact e
    · obtain rfl : m = a := by omega
      rw [if_neg (by rw [l1.1]; omega)]
theorem tabled_least_f {l : List S71} (hb : Bds (bs l)) (hl : l.length ≤ 1000) {a : Nat} (ha : a ≤ 400) : tabled_least.f l a = some (tabF (stepL (bs l)) a) := by
  unfold tabled_least.f pump_tabledl.f
  exact tabledl_l0 hb hl ha _ 0 (Nat.zero_le _) (by rw [Int.toNat_natCast]; omega)
end Go.Proofs.Ythoeindopljmkaa.P
end
section
namespace Go.Proofs.Ythoeindopljmkaa.P
open Go.RowKit Go.Proofs.YthoeindopljmkaaW.PrintWords Go.Proofs.YthoeindopljmkaaW.PrintLast Go.Proofs.YthoeindopljmkaaW.PrintMore
open Pm
def cb (l : List S71) : Int := if l.length = 0 then 4 else if 5 < l.length then 5 else if (l.any fun x => !good x) = true then 3 else 0
theorem cb_f (l : List S71) : pump_CheckBounds.f l = some (cb l) := by
  unfold pump_CheckBounds.f cb
  by_cases c : l.length = 0
  · rw [if_pos (by omega), if_pos c]
  · rw [if_neg (by omega), if_neg c]
    by_cases c5 : 5 < l.length
    · rw [if_pos (by omega), if_pos c5]
    · rw [if_neg (by omega), if_neg c5]
      unfold any_bad.f
      rw [if_pos (by omega), Option.bind_some]
      split <;> rfl
theorem cb_zero {l : List S71} : cb l = 0 ↔ l.length ≠ 0 ∧ l.length ≤ 5 ∧ ∀ b ∈ l, good b = true := by
  unfold cb
  by_cases c : l.length = 0
  · rw [if_pos c]; constructor
    · intro h; cases h
    · rintro ⟨h, _⟩; exact absurd c h
  rw [if_neg c]
  by_cases c5 : 5 < l.length
  · rw [if_pos c5]; constructor
    · intro h; cases h
    · rintro ⟨_, h, _⟩; omega
  rw [if_neg c5]
  by_cases ca : (l.any fun x => !good x) = true
  · rw [if_pos ca]; constructor
    · intro h; cases h
    · rintro ⟨_, _, h⟩
      obtain ⟨x, hx, hg⟩ := List.any_eq_true.1 ca
      rw [h x hx] at hg; cases hg
  · rw [if_neg ca]
    refine ⟨fun _ => ⟨c, by omega, fun b hb => ?_⟩, fun _ => rfl⟩
    cases hg : good b
    · exact absurd (List.any_eq_true.2 ⟨b, hb, by rw [hg]; rfl⟩) ca
    · rfl
theorem good_iff {x : S71} : good x = true ↔ (1 ≤ x.f0 ∧ x.f0 ≤ 100) ∧ 0 ≤ x.f1 ∧ x.f1 ≤ 1000000 := by
  unfold good
  rw [Bool.and_eq_true, btw_iff, btw_iff]
theorem bds_of {l : List S71} (h : cb l = 0) : Bds (bs l) ∧ l.length ≤ 5 := by
  obtain ⟨h0, h5, hg⟩ := cb_zero.1 h
  refine ⟨⟨?_, ?_, ?_⟩, h5⟩
  · intro e
    have : (bs l).length = 0 := by rw [e]; rfl
    simp [bs] at this
    exact h0 (by rw [this]; rfl)
  · intro b hb
    obtain ⟨x, hx, rfl⟩ := List.mem_map.1 hb
    exact (good_iff.1 (hg x hx)).1
  · intro b hb
    obtain ⟨x, hx, rfl⟩ := List.mem_map.1 hb
    exact (good_iff.1 (hg x hx)).2
end Go.Proofs.Ythoeindopljmkaa.P
end
