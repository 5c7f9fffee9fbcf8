/- Words and contracts for a claim. -/
import Derived.Test.YtegffliopblajaaBase14

section
namespace Go.Proofs.Ytegffliopblajaa.P
open Go.RowKit Go.Proofs.YtegffliopblajaaW.PrintWords Go.Proofs.YtegffliopblajaaW.PrintLast Go.Proofs.YtegffliopblajaaW.PrintMore
attribute [local go_sem] max2_int min2_int max_two min_two max_three min_three max_four min_four
set_option linter.unusedVariables false
set_option linter.unusedSimpArgs false
mutual
def punch_Holds.j0 : Nat → List (S47) → Bool → Int → Int → Int → Int → Int → Int → Int → Option (Int)
  | 0, _, _, _, _, _, _, _, _, _ => none
  | k + 1, x2, x14, x334000, x334001, x334002, x334003, x334004, x335000, x335001 => if x14 = true then (some 3) else (if (x2.length : Int) > 200 then (some 5) else (if (x2.length : Int) = 0 then (some 6) else (punch_Holds.l0 k x2 x2 (x2.length : Int) 0 x334000 x334001 x334002 x334003 x334004 x335000 x335001)))
def punch_Holds.l0 : Nat → List (S47) → List (S47) → Int → Int → Int → Int → Int → Int → Int → Int → Int → Option (Int)
  | 0, _, _, _, _, _, _, _, _, _, _, _ => none
  | k + 1, x2, x31, x32, x33, x334000, x334001, x334002, x334003, x334004, x335000, x335001 => if x33 < x32 then (if 0 ≤ x33 then (if x33 < (x31.length : Int) then ((punch_Slot_good.f ((rd_T47 x31 x33).f0) ((rd_T47 x31 x33).f1)).bind fun t339 => (if t339 = true then (punch_Holds.l0 k x2 x31 x32 (wrap64 (x33 + 1)) x334000 x334001 x334002 x334003 x334004 x335000 x335001) else (some 6))) else (none)) else (none)) else (if 0 < (x2.length : Int) then (if ((rd_T47 x2 0).f0) = x335000 then (if 0 ≤ (wrap64 ((x2.length : Int) - 1)) then (if (wrap64 ((x2.length : Int) - 1)) < (x2.length : Int) then (punch_Holds.j2 k x2 (((rd_T47 x2 (wrap64 ((x2.length : Int) - 1))).f1) != x335001) x334000 x334001 x334002 x334003 x334004) else (none)) else (none)) else (punch_Holds.j2 k x2 true x334000 x334001 x334002 x334003 x334004)) else (none))
def punch_Holds.j2 : Nat → List (S47) → Bool → Int → Int → Int → Int → Int → Option (Int)
  | 0, _, _, _, _, _, _, _ => none
  | k + 1, x2, x59, x334000, x334001, x334002, x334003, x334004 => if x59 = true then (some 13) else (if 1 ≤ (x2.length : Int) then ((some (x2.drop 1 : List (S47))).bind fun y342 => (punch_Holds.l1 k x2 y342 (y342.length : Int) 0 x334000 x334001 x334002 x334003 x334004)) else (none))
def punch_Holds.l1 : Nat → List (S47) → List (S47) → Int → Int → Int → Int → Int → Int → Int → Option (Int)
  | 0, _, _, _, _, _, _, _, _, _ => none
  | k + 1, x2, x61, x62, x63, x334000, x334001, x334002, x334003, x334004 => if x63 < x62 then (if 0 ≤ x63 then (if x63 < (x61.length : Int) then (if x63 < (x2.length : Int) then (if ((rd_T47 x61 x63).f0) ≤ ((rd_T47 x2 x63).f1) then (some 13) else (punch_Holds.l1 k x2 x61 x62 (wrap64 (x63 + 1)) x334000 x334001 x334002 x334003 x334004)) else (none)) else (none)) else (none)) else (punch_Holds.l2 k x2 x2 (x2.length : Int) 0 x334000 x334001 x334002 x334003 x334004)
def punch_Holds.l2 : Nat → List (S47) → List (S47) → Int → Int → Int → Int → Int → Int → Int → Option (Int)
  | 0, _, _, _, _, _, _, _, _, _ => none
  | k + 1, x2, x77, x78, x79, x334000, x334001, x334002, x334003, x334004 => if x79 < x78 then (if 0 ≤ x79 then (if x79 < (x77.length : Int) then (if (wrap64 ((wrap64 (((rd_T47 x77 x79).f1) - ((rd_T47 x77 x79).f0))) * x334001)) > (wrap64 (1000 * x334002)) then (some 21) else (if x79 = 0 then (punch_Holds.l2 k x2 x77 x78 (wrap64 (x79 + 1)) x334000 x334001 x334002 x334003 x334004) else (if 0 ≤ (wrap64 (x79 - 1)) then (if (wrap64 (x79 - 1)) < (x2.length : Int) then (if (wrap64 ((wrap64 (((rd_T47 x77 x79).f0) - ((rd_T47 x2 (wrap64 (x79 - 1))).f1))) * x334000)) < (wrap64 (1000 * x334003)) then (some 21) else (if (wrap64 ((wrap64 (((rd_T47 x77 x79).f0) - ((rd_T47 x2 (wrap64 (x79 - 1))).f1))) * x334001)) ≥ (wrap64 (1000 * x334004)) then (some 21) else (punch_Holds.l2 k x2 x77 x78 (wrap64 (x79 + 1)) x334000 x334001 x334002 x334003 x334004))) else (none)) else (none)))) else (none)) else (none)) else (some 0)
end
def punch_Holds.f (k : Nat) (a0_0 : Int) (a0_1 : Int) (a0_2 : Int) (a0_3 : Int) (a0_4 : Int) (a1_0 : Int) (a1_1 : Int) (l2 : List (S47)) : Option (Int) := (punch_Paper_good.f a0_0 a0_1 a0_2 a0_3 a0_4).bind fun t335 => (if t335 = true then ((punch_Slot_good.f a1_0 a1_1).bind fun t336 => (punch_Holds.j0 k l2 (!t336) a0_0 a0_1 a0_2 a0_3 a0_4 a1_0 a1_1)) else (punch_Holds.j0 k l2 true a0_0 a0_1 a0_2 a0_3 a0_4 a1_0 a1_1))
set_option maxHeartbeats 8000000 in
set_option maxRecDepth 100000 in
theorem punch_Holds.calls (k : Nat) (a0_0 : Int) (a0_1 : Int) (a0_2 : Int) (a0_3 : Int) (a0_4 : Int) (a1_0 : Int) (a1_1 : Int) (A2 : Option Addr) (c2 : Nat) (l2 : List (S47)) (r : Int) (w : World) (hr2 : Kd.C k47 w A2 l2.length l2) (hc2 : l2.length ≤ c2) (h : punch_Holds.f k a0_0 a0_1 a0_2 a0_3 a0_4 a1_0 a1_1 l2 = some r) :
  Calls Try.prog 35 #[.agg #[.int .i64 a0_0, .int .i64 a0_1, .int .i64 a0_2, .int .i64 a0_3, .int .i64 a0_4], .agg #[.int .i64 a1_0, .int .i64 a1_1], .slice A2 l2.length c2] w fun e w' => e = .returned (.int .i64 r) ∧ Below w.heap.size w w' := by
 have hu57 := Try.underlying57
 have hu47 := Try.underlying47
 have HR2 := zA hr2
 have HC2 := zA hc2
 clear hr2 hc2
 have HB := zA (Below.refl w.heap.size w)
 have H : ((punch_Paper_good.f a0_0 a0_1 a0_2 a0_3 a0_4).bind fun t335 => (if t335 = true then ((punch_Slot_good.f a1_0 a1_1).bind fun t336 => (punch_Holds.j0 k l2 (!t336) a0_0 a0_1 a0_2 a0_3 a0_4 a1_0 a1_1)) else (punch_Holds.j0 k l2 true a0_0 a0_1 a0_2 a0_3 a0_4 a1_0 a1_1))) = some r := h
 clear h
 have HC4 := zA H
 clear H
 go_enter Try.func35, Try.ntmps35
 go_upto_region 1 with (first | ((with_reducible refine gate_dst (N := 3) rfl ?_); (try (refine gate_guard (by rfl) ?_; dsimp only)); refine box_event ?hg (N := 3) ?hd (cs := #[.int .i64 a0_0, .int .i64 a0_1, .int .i64 a0_2, .int .i64 a0_3, .int .i64 a0_4]) (t := 57) ?hr ?_; (case hd => rfl); (case hg => rfl); (case hr => first | (go_simp; done) | (go_simp; rfl)); intro gb333 hg w5 hbox hb; have n0_ := zA (below_step (zqA HB.out) hb); have n1_ := zA (hbox); have n2_ := zA ((by rw [hg]; exact (below_size (zqA HB.out)) : w.heap.size ≤ gb333)); have n3_ := zA ((by rw [hg]; exact (below_size (zqA HB.out)) : w.heap.size ≤ gb333)); clear HB; have HB := n0_; have BK333 := n1_; have GW333 := n2_; have GE333 := n3_; clear n0_ n1_ n2_ n3_; clear hb hbox hg) | ((with_reducible refine gate_dst (N := 4) rfl ?_); (try (refine gate_guard (by rfl) ?_; dsimp only)); refine box_event ?hg (N := 4) ?hd (cs := #[.int .i64 a1_0, .int .i64 a1_1]) (t := 47) ?hr ?_; (case hd => rfl); (case hg => rfl); (case hr => first | (go_simp; done) | (go_simp; rfl)); intro gb334 hg w6 hbox hb; have n0_ := zA (blk_below (g := gb333) (o := .cells #[.int .i64 a0_0, .int .i64 a0_1, .int .i64 a0_2, .int .i64 a0_3, .int .i64 a0_4] 57 (0, 0)) (zqB BK333.out) hb); have n1_ := zA (below_step (zqG HB.out GE333.out) hb); have n2_ := zA (hbox); have n3_ := zA ((by rw [hg]; exact (below_size (zqG HB.out GE333.out)) : w.heap.size ≤ gb334)); have n4_ := zA ((by rw [hg]; exact (below_size (zqG HB.out GE333.out)) : w.heap.size ≤ gb334)); have n5_ := zA ((by rw [hg]; exact Nat.ne_of_lt (blk_lt (g := gb333) (o := .cells #[.int .i64 a0_0, .int .i64 a0_1, .int .i64 a0_2, .int .i64 a0_3, .int .i64 a0_4] 57 (0, 0)) (zqB BK333.out)) : gb333 ≠ gb334)); have n6_ := zA ((by rw [hg]; exact Nat.ne_of_gt (blk_lt (g := gb333) (o := .cells #[.int .i64 a0_0, .int .i64 a0_1, .int .i64 a0_2, .int .i64 a0_3, .int .i64 a0_4] 57 (0, 0)) (zqB BK333.out)) : gb334 ≠ gb333)); clear BK333; clear HB; have BK333 := n0_; have HB := n1_; have BK334 := n2_; have GW334 := n3_; have GE334 := n4_; have NB333_334 := n5_; have NB334_333 := n6_; clear n0_ n1_ n2_ n3_ n4_ n5_ n6_; clear hb hbox hg))
 repeat (go_quiet (first | ((with_reducible refine gate_dst (N := 3) rfl ?_); (try (refine gate_guard (by rfl) ?_; dsimp only)); refine box_event ?hg (N := 3) ?hd (cs := #[.int .i64 a0_0, .int .i64 a0_1, .int .i64 a0_2, .int .i64 a0_3, .int .i64 a0_4]) (t := 57) ?hr ?_; (case hd => rfl); (case hg => rfl); (case hr => first | (go_simp; done) | (go_simp; rfl)); intro gb333 hg w5 hbox hb; have n0_ := zA (below_step (zqA HB.out) hb); have n1_ := zA (hbox); have n2_ := zA ((by rw [hg]; exact (below_size (zqA HB.out)) : w.heap.size ≤ gb333)); have n3_ := zA ((by rw [hg]; exact (below_size (zqA HB.out)) : w.heap.size ≤ gb333)); clear HB; have HB := n0_; have BK333 := n1_; have GW333 := n2_; have GE333 := n3_; clear n0_ n1_ n2_ n3_; clear hb hbox hg) | ((with_reducible refine gate_dst (N := 4) rfl ?_); (try (refine gate_guard (by rfl) ?_; dsimp only)); refine box_event ?hg (N := 4) ?hd (cs := #[.int .i64 a1_0, .int .i64 a1_1]) (t := 47) ?hr ?_; (case hd => rfl); (case hg => rfl); (case hr => first | (go_simp; done) | (go_simp; rfl)); intro gb334 hg w6 hbox hb; have n0_ := zA (blk_below (g := gb333) (o := .cells #[.int .i64 a0_0, .int .i64 a0_1, .int .i64 a0_2, .int .i64 a0_3, .int .i64 a0_4] 57 (0, 0)) (zqB BK333.out) hb); have n1_ := zA (below_step (zqG HB.out GE333.out) hb); have n2_ := zA (hbox); have n3_ := zA ((by rw [hg]; exact (below_size (zqG HB.out GE333.out)) : w.heap.size ≤ gb334)); have n4_ := zA ((by rw [hg]; exact (below_size (zqG HB.out GE333.out)) : w.heap.size ≤ gb334)); have n5_ := zA ((by rw [hg]; exact Nat.ne_of_lt (blk_lt (g := gb333) (o := .cells #[.int .i64 a0_0, .int .i64 a0_1, .int .i64 a0_2, .int .i64 a0_3, .int .i64 a0_4] 57 (0, 0)) (zqB BK333.out)) : gb333 ≠ gb334)); have n6_ := zA ((by rw [hg]; exact Nat.ne_of_gt (blk_lt (g := gb333) (o := .cells #[.int .i64 a0_0, .int .i64 a0_1, .int .i64 a0_2, .int .i64 a0_3, .int .i64 a0_4] 57 (0, 0)) (zqB BK333.out)) : gb334 ≠ gb333)); clear BK333; clear HB; have BK333 := n0_; have HB := n1_; have BK334 := n2_; have GW334 := n3_; have GE334 := n4_; have NB333_334 := n5_; have NB334_333 := n6_; clear n0_ n1_ n2_ n3_ n4_ n5_ n6_; clear hb hbox hg)); go_upto_region 1 with (first | ((with_reducible refine gate_dst (N := 3) rfl ?_); (try (refine gate_guard (by rfl) ?_; dsimp only)); refine box_event ?hg (N := 3) ?hd (cs := #[.int .i64 a0_0, .int .i64 a0_1, .int .i64 a0_2, .int .i64 a0_3, .int .i64 a0_4]) (t := 57) ?hr ?_; (case hd => rfl); (case hg => rfl); (case hr => first | (go_simp; done) | (go_simp; rfl)); intro gb333 hg w5 hbox hb; have n0_ := zA (below_step (zqA HB.out) hb); have n1_ := zA (hbox); have n2_ := zA ((by rw [hg]; exact (below_size (zqA HB.out)) : w.heap.size ≤ gb333)); have n3_ := zA ((by rw [hg]; exact (below_size (zqA HB.out)) : w.heap.size ≤ gb333)); clear HB; have HB := n0_; have BK333 := n1_; have GW333 := n2_; have GE333 := n3_; clear n0_ n1_ n2_ n3_; clear hb hbox hg) | ((with_reducible refine gate_dst (N := 4) rfl ?_); (try (refine gate_guard (by rfl) ?_; dsimp only)); refine box_event ?hg (N := 4) ?hd (cs := #[.int .i64 a1_0, .int .i64 a1_1]) (t := 47) ?hr ?_; (case hd => rfl); (case hg => rfl); (case hr => first | (go_simp; done) | (go_simp; rfl)); intro gb334 hg w6 hbox hb; have n0_ := zA (blk_below (g := gb333) (o := .cells #[.int .i64 a0_0, .int .i64 a0_1, .int .i64 a0_2, .int .i64 a0_3, .int .i64 a0_4] 57 (0, 0)) (zqB BK333.out) hb); have n1_ := zA (below_step (zqG HB.out GE333.out) hb); have n2_ := zA (hbox); have n3_ := zA ((by rw [hg]; exact (below_size (zqG HB.out GE333.out)) : w.heap.size ≤ gb334)); have n4_ := zA ((by rw [hg]; exact (below_size (zqG HB.out GE333.out)) : w.heap.size ≤ gb334)); have n5_ := zA ((by rw [hg]; exact Nat.ne_of_lt (blk_lt (g := gb333) (o := .cells #[.int .i64 a0_0, .int .i64 a0_1, .int .i64 a0_2, .int .i64 a0_3, .int .i64 a0_4] 57 (0, 0)) (zqB BK333.out)) : gb333 ≠ gb334)); have n6_ := zA ((by rw [hg]; exact Nat.ne_of_gt (blk_lt (g := gb333) (o := .cells #[.int .i64 a0_0, .int .i64 a0_1, .int .i64 a0_2, .int .i64 a0_3, .int .i64 a0_4] 57 (0, 0)) (zqB BK333.out)) : gb334 ≠ gb333)); clear BK333; clear HB; have BK333 := n0_; have HB := n1_; have BK334 := n2_; have GW334 := n3_; have GE334 := n4_; have NB333_334 := n5_; have NB334_333 := n6_; clear n0_ n1_ n2_ n3_ n4_ n5_ n6_; clear hb hbox hg)))
 (try simp only [Act.put, List.setIfInBounds_toArray, List.set_cons_zero, List.set_cons_succ])
 go_cut [14] (fun v14 wc => ∃ (kq : Nat) (x14_3 : Bool), v14 = .bool x14_3 ∧ Aside0 (punch_Holds.j0 kq l2 x14_3 a0_0 a0_1 a0_2 a0_3 a0_4 a1_0 a1_1 = some r) ∧ Aside0 (kq ≤ k) ∧ Aside0 (wc.heap[gb333]? = some (.cells #[.int .i64 a0_0, .int .i64 a0_1, .int .i64 a0_2, .int .i64 a0_3, .int .i64 a0_4] 57 (0, 0))) ∧ Aside0 (wc.heap[gb334]? = some (.cells #[.int .i64 a1_0, .int .i64 a1_1] 47 (0, 0))) ∧ Aside0 (Below w.heap.size w wc))
 case first =>
  have H := HC4.out
  clear HC4
  replace H := Option.bind_eq_some_iff.mp H
  obtain ⟨t335, A70, H⟩ := H
  replace H : (if t335 = true then ((punch_Slot_good.f a1_0 a1_1).bind fun t336 => (punch_Holds.j0 k l2 (!t336) a0_0 a0_1 a0_2 a0_3 a0_4 a1_0 a1_1)) else (punch_Holds.j0 k l2 true a0_0 a0_1 a0_2 a0_3 a0_4 a1_0 a1_1)) = some r := H
  have A7 := zA A70
  clear A70
  by_cases c8 : t335 = true
  ·
   subst c8
   have H1 : ((punch_Slot_good.f a1_0 a1_1).bind fun t336 => (punch_Holds.j0 k l2 (!t336) a0_0 a0_1 a0_2 a0_3 a0_4 a1_0 a1_1)) = some r := by rw [if_pos rfl] at H; exact H
   clear H; have H := H1; clear H1
   replace H := Option.bind_eq_some_iff.mp H
   obtain ⟨t336, A90, H⟩ := H
   replace H : (punch_Holds.j0 k l2 (!t336) a0_0 a0_1 a0_2 a0_3 a0_4 a1_0 a1_1) = some r := H
   have A9 := zA A90
   clear A90
   have H' := zA H
   clear H
   have hnb10 := NB333_334.out
   have hnc10 := NB334_333.out
   have hcz11_0 : w6.cell? ⟨gb333, 0, none⟩ = some (.int .i64 a0_0) := (blk_cell BK333.out 0).trans rfl
   have hcz11_1 : w6.cell? ⟨gb333, 1, none⟩ = some (.int .i64 a0_1) := (blk_cell BK333.out 1).trans rfl
   have hcz11_2 : w6.cell? ⟨gb333, 2, none⟩ = some (.int .i64 a0_2) := (blk_cell BK333.out 2).trans rfl
   have hcz11_3 : w6.cell? ⟨gb333, 3, none⟩ = some (.int .i64 a0_3) := (blk_cell BK333.out 3).trans rfl
   have hcz11_4 : w6.cell? ⟨gb333, 4, none⟩ = some (.int .i64 a0_4) := (blk_cell BK333.out 4).trans rfl
   have hfz11_0 := blk_frozen BK333.out 0
   have hfz11_1 := blk_frozen BK333.out 1
   have hfz11_2 := blk_frozen BK333.out 2
   have hfz11_3 := blk_frozen BK333.out 3
   have hfz11_4 := blk_frozen BK333.out 4
   go_wp2_with (first | (go_at_call 70; (with_reducible refine (punch_Paper_good.calls a0_0 a0_1 a0_2 a0_3 a0_4 true _ A7.out).mono ?_); rintro e w12 ⟨rfl, hb⟩; have n0_ := zA (blk_below (g := gb333) (o := .cells #[.int .i64 a0_0, .int .i64 a0_1, .int .i64 a0_2, .int .i64 a0_3, .int .i64 a0_4] 57 (0, 0)) (zqB BK333.out) hb); have n1_ := zA (blk_below (g := gb334) (o := .cells #[.int .i64 a1_0, .int .i64 a1_1] 47 (0, 0)) (zqB BK334.out) hb); have n2_ := zA (below_step (zqH HB.out GE333.out GE334.out) hb); clear BK333; clear BK334; clear HB; have BK333 := n0_; have BK334 := n1_; have HB := n2_; clear n0_ n1_ n2_; (try clear hb); (try clear hb2); (try clear hk); (try clear hi); have hcz13_0 : w12.cell? ⟨gb334, 0, none⟩ = some (.int .i64 a1_0) := (blk_cell BK334.out 0).trans rfl; have hcz13_1 : w12.cell? ⟨gb334, 1, none⟩ = some (.int .i64 a1_1) := (blk_cell BK334.out 1).trans rfl; have hfz13_0 := blk_frozen BK334.out 0; have hfz13_1 := blk_frozen BK334.out 1) | (go_at_call 54; (with_reducible refine (punch_Slot_good.calls a1_0 a1_1 t336 _ A9.out).mono ?_); rintro e w14 ⟨rfl, hb⟩; have n0_ := zA (blk_below (g := gb333) (o := .cells #[.int .i64 a0_0, .int .i64 a0_1, .int .i64 a0_2, .int .i64 a0_3, .int .i64 a0_4] 57 (0, 0)) (zqB BK333.out) hb); have n1_ := zA (blk_below (g := gb334) (o := .cells #[.int .i64 a1_0, .int .i64 a1_1] 47 (0, 0)) (zqB BK334.out) hb); have n2_ := zA (below_step (zqH HB.out GE333.out GE334.out) hb); clear BK333; clear BK334; clear HB; have BK333 := n0_; have BK334 := n1_; have HB := n2_; clear n0_ n1_ n2_; (try clear hb); (try clear hb2); (try clear hk); (try clear hi)))
   repeat (go_quiet (first | (go_at_call 70; (with_reducible refine (punch_Paper_good.calls a0_0 a0_1 a0_2 a0_3 a0_4 true _ A7.out).mono ?_); rintro e w12 ⟨rfl, hb⟩; have n0_ := zA (blk_below (g := gb333) (o := .cells #[.int .i64 a0_0, .int .i64 a0_1, .int .i64 a0_2, .int .i64 a0_3, .int .i64 a0_4] 57 (0, 0)) (zqB BK333.out) hb); have n1_ := zA (blk_below (g := gb334) (o := .cells #[.int .i64 a1_0, .int .i64 a1_1] 47 (0, 0)) (zqB BK334.out) hb); have n2_ := zA (below_step (zqH HB.out GE333.out GE334.out) hb); clear BK333; clear BK334; clear HB; have BK333 := n0_; have BK334 := n1_; have HB := n2_; clear n0_ n1_ n2_; (try clear hb); (try clear hb2); (try clear hk); (try clear hi); have hcz13_0 : w12.cell? ⟨gb334, 0, none⟩ = some (.int .i64 a1_0) := (blk_cell BK334.out 0).trans rfl; have hcz13_1 : w12.cell? ⟨gb334, 1, none⟩ = some (.int .i64 a1_1) := (blk_cell BK334.out 1).trans rfl; have hfz13_0 := blk_frozen BK334.out 0; have hfz13_1 := blk_frozen BK334.out 1) | (go_at_call 54; (with_reducible refine (punch_Slot_good.calls a1_0 a1_1 t336 _ A9.out).mono ?_); rintro e w14 ⟨rfl, hb⟩; have n0_ := zA (blk_below (g := gb333) (o := .cells #[.int .i64 a0_0, .int .i64 a0_1, .int .i64 a0_2, .int .i64 a0_3, .int .i64 a0_4] 57 (0, 0)) (zqB BK333.out) hb); have n1_ := zA (blk_below (g := gb334) (o := .cells #[.int .i64 a1_0, .int .i64 a1_1] 47 (0, 0)) (zqB BK334.out) hb); have n2_ := zA (below_step (zqH HB.out GE333.out GE334.out) hb); clear BK333; clear BK334; clear HB; have BK333 := n0_; have BK334 := n1_; have HB := n2_; clear n0_ n1_ n2_; (try clear hb); (try clear hb2); (try clear hk); (try clear hi))); try go_wp2_with (first | (go_at_call 70; (with_reducible refine (punch_Paper_good.calls a0_0 a0_1 a0_2 a0_3 a0_4 true _ A7.out).mono ?_); rintro e w12 ⟨rfl, hb⟩; have n0_ := zA (blk_below (g := gb333) (o := .cells #[.int .i64 a0_0, .int .i64 a0_1, .int .i64 a0_2, .int .i64 a0_3, .int .i64 a0_4] 57 (0, 0)) (zqB BK333.out) hb); have n1_ := zA (blk_below (g := gb334) (o := .cells #[.int .i64 a1_0, .int .i64 a1_1] 47 (0, 0)) (zqB BK334.out) hb); have n2_ := zA (below_step (zqH HB.out GE333.out GE334.out) hb); clear BK333; clear BK334; clear HB; have BK333 := n0_; have BK334 := n1_; have HB := n2_; clear n0_ n1_ n2_; (try clear hb); (try clear hb2); (try clear hk); (try clear hi); have hcz13_0 : w12.cell? ⟨gb334, 0, none⟩ = some (.int .i64 a1_0) := (blk_cell BK334.out 0).trans rfl; have hcz13_1 : w12.cell? ⟨gb334, 1, none⟩ = some (.int .i64 a1_1) := (blk_cell BK334.out 1).trans rfl; have hfz13_0 := blk_frozen BK334.out 0; have hfz13_1 := blk_frozen BK334.out 1) | (go_at_call 54; (with_reducible refine (punch_Slot_good.calls a1_0 a1_1 t336 _ A9.out).mono ?_); rintro e w14 ⟨rfl, hb⟩; have n0_ := zA (blk_below (g := gb333) (o := .cells #[.int .i64 a0_0, .int .i64 a0_1, .int .i64 a0_2, .int .i64 a0_3, .int .i64 a0_4] 57 (0, 0)) (zqB BK333.out) hb); have n1_ := zA (blk_below (g := gb334) (o := .cells #[.int .i64 a1_0, .int .i64 a1_1] 47 (0, 0)) (zqB BK334.out) hb); have n2_ := zA (below_step (zqH HB.out GE333.out GE334.out) hb); clear BK333; clear BK334; clear HB; have BK333 := n0_; have BK334 := n1_; have HB := n2_; clear n0_ n1_ n2_; (try clear hb); (try clear hb2); (try clear hk); (try clear hi))))
   go_meet
   case rel => exact ⟨_, (!t336), zqQ, H', ⟨by first | omega | exact Nat.le_refl _⟩, ⟨zqB BK333.out⟩, ⟨zqB BK334.out⟩, ⟨zqH HB.out GE333.out GE334.out⟩⟩
  ·
   replace c8 := Bool.eq_false_iff.mpr c8
   subst c8
   have H1 : (punch_Holds.j0 k l2 true a0_0 a0_1 a0_2 a0_3 a0_4 a1_0 a1_1) = some r := by rw [if_neg (show ¬ (false = true) by decide)] at H; exact H
   clear H; have H := H1; clear H1
   have H' := zA H
   clear H
   have hnb15 := NB333_334.out
   have hnc15 := NB334_333.out
   have hcz16_0 : w6.cell? ⟨gb333, 0, none⟩ = some (.int .i64 a0_0) := (blk_cell BK333.out 0).trans rfl
   have hcz16_1 : w6.cell? ⟨gb333, 1, none⟩ = some (.int .i64 a0_1) := (blk_cell BK333.out 1).trans rfl
   have hcz16_2 : w6.cell? ⟨gb333, 2, none⟩ = some (.int .i64 a0_2) := (blk_cell BK333.out 2).trans rfl
   have hcz16_3 : w6.cell? ⟨gb333, 3, none⟩ = some (.int .i64 a0_3) := (blk_cell BK333.out 3).trans rfl
   have hcz16_4 : w6.cell? ⟨gb333, 4, none⟩ = some (.int .i64 a0_4) := (blk_cell BK333.out 4).trans rfl
   have hfz16_0 := blk_frozen BK333.out 0
   have hfz16_1 := blk_frozen BK333.out 1
   have hfz16_2 := blk_frozen BK333.out 2
   have hfz16_3 := blk_frozen BK333.out 3
   have hfz16_4 := blk_frozen BK333.out 4
   go_wp2_with (first | (go_at_call 70; (with_reducible refine (punch_Paper_good.calls a0_0 a0_1 a0_2 a0_3 a0_4 false _ A7.out).mono ?_); rintro e w17 ⟨rfl, hb⟩; have n0_ := zA (blk_below (g := gb333) (o := .cells #[.int .i64 a0_0, .int .i64 a0_1, .int .i64 a0_2, .int .i64 a0_3, .int .i64 a0_4] 57 (0, 0)) (zqB BK333.out) hb); have n1_ := zA (blk_below (g := gb334) (o := .cells #[.int .i64 a1_0, .int .i64 a1_1] 47 (0, 0)) (zqB BK334.out) hb); have n2_ := zA (below_step (zqH HB.out GE333.out GE334.out) hb); clear BK333; clear BK334; clear HB; have BK333 := n0_; have BK334 := n1_; have HB := n2_; clear n0_ n1_ n2_; (try clear hb); (try clear hb2); (try clear hk); (try clear hi)))
   repeat (go_quiet (first | (go_at_call 70; (with_reducible refine (punch_Paper_good.calls a0_0 a0_1 a0_2 a0_3 a0_4 false _ A7.out).mono ?_); rintro e w17 ⟨rfl, hb⟩; have n0_ := zA (blk_below (g := gb333) (o := .cells #[.int .i64 a0_0, .int .i64 a0_1, .int .i64 a0_2, .int .i64 a0_3, .int .i64 a0_4] 57 (0, 0)) (zqB BK333.out) hb); have n1_ := zA (blk_below (g := gb334) (o := .cells #[.int .i64 a1_0, .int .i64 a1_1] 47 (0, 0)) (zqB BK334.out) hb); have n2_ := zA (below_step (zqH HB.out GE333.out GE334.out) hb); clear BK333; clear BK334; clear HB; have BK333 := n0_; have BK334 := n1_; have HB := n2_; clear n0_ n1_ n2_; (try clear hb); (try clear hb2); (try clear hk); (try clear hi))); try go_wp2_with (first | (go_at_call 70; (with_reducible refine (punch_Paper_good.calls a0_0 a0_1 a0_2 a0_3 a0_4 false _ A7.out).mono ?_); rintro e w17 ⟨rfl, hb⟩; have n0_ := zA (blk_below (g := gb333) (o := .cells #[.int .i64 a0_0, .int .i64 a0_1, .int .i64 a0_2, .int .i64 a0_3, .int .i64 a0_4] 57 (0, 0)) (zqB BK333.out) hb); have n1_ := zA (blk_below (g := gb334) (o := .cells #[.int .i64 a1_0, .int .i64 a1_1] 47 (0, 0)) (zqB BK334.out) hb); have n2_ := zA (below_step (zqH HB.out GE333.out GE334.out) hb); clear BK333; clear BK334; clear HB; have BK333 := n0_; have BK334 := n1_; have HB := n2_; clear n0_ n1_ n2_; (try clear hb); (try clear hb2); (try clear hk); (try clear hi))))
   go_meet
   case rel => exact ⟨_, (true), zqQ, H', ⟨by first | omega | exact Nat.le_refl _⟩, ⟨zqB BK333.out⟩, ⟨zqB BK334.out⟩, ⟨zqH HB.out GE333.out GE334.out⟩⟩
 case rest =>
  clear HC4
  try clear c1
  try clear c2
  try clear p2
  try clear c3
  try clear c8
  try clear c10
  try clear c15
  try clear hcz11_0
  try clear hcz11_1
  try clear hcz11_2
  try clear hcz11_3
  try clear hcz11_4
  try clear hcz13_0
  try clear hcz13_1
  try clear hcz16_0
  try clear hcz16_1
  try clear hcz16_2
  try clear hcz16_3
  try clear hcz16_4
  try clear hfz11_0
  try clear hfz11_1
  try clear hfz11_2
  try clear hfz11_3
  try clear hfz11_4
  try clear hfz13_0
  try clear hfz13_1
  try clear hfz16_0
  try clear hfz16_1
  try clear hfz16_2
  try clear hfz16_3
  try clear hfz16_4
  obtain ⟨kq, x14_3, rfl, HA, HJ3, BK333, BK334, HB⟩ := hcut
  cases kq with
  | zero => exact absurd HA.out (by simp [punch_Holds.j0])
  | succ kj3 =>
   have H := HA.out
   clear HA
   simp only [punch_Holds.j0] at H
   by_cases c18 : x14_3 = true
   ·
    subst c18
    have H1 : (some 3) = some r := by rw [if_pos rfl] at H; exact H
    clear H; have H := H1; clear H1
    obtain rfl := Option.some.inj H
    go_wp2
    repeat (go_quiet (fail); try go_wp2)
    go_ret
    exact ⟨zqR, zqH HB.out GE333.out GE334.out⟩
   ·
    replace c18 := Bool.eq_false_iff.mpr c18
    subst c18
    have H1 : (if (l2.length : Int) > 200 then (some 5) else (if (l2.length : Int) = 0 then (some 6) else (punch_Holds.l0 kj3 l2 l2 (l2.length : Int) 0 a0_0 a0_1 a0_2 a0_3 a0_4 a1_0 a1_1))) = some r := by rw [if_neg (show ¬ (false = true) by decide)] at H; exact H
    clear H; have H := H1; clear H1
    by_cases c19 : (l2.length : Int) > 200
    ·
     rw [if_pos c19] at H
     have c19b0 : decide (200 < (l2.length : Int)) = true := decide_eq_true c19
     have c19b1 : decide (200 < l2.length) = true := decide_eq_true (by omega)
     clear c19
     obtain rfl := Option.some.inj H
     go_wp2
     repeat (go_quiet (fail); try go_wp2)
     go_ret
     exact ⟨zqR, zqH HB.out GE333.out GE334.out⟩
    ·
     rw [if_neg c19] at H
     have c19b0 : decide (200 < (l2.length : Int)) = false := decide_eq_false c19
     have c19b1 : decide (200 < l2.length) = false := decide_eq_false (by omega)
     clear c19
     by_cases c20 : (l2.length : Int) = 0
     ·
      rw [if_pos c20] at H
      have c20b0 : ((l2.length : Int) == 0) = true := beq_iff_eq.mpr c20
      have c20b1 : ((l2.length : Int) != 0) = false := bne_eq_false_iff_eq.mpr c20
      clear c20
      obtain rfl := Option.some.inj H
      go_wp2
      repeat (go_quiet (fail); try go_wp2)
      go_ret
      exact ⟨zqR, zqH HB.out GE333.out GE334.out⟩
     ·
      rw [if_neg c20] at H
      have c20b0 : ((l2.length : Int) == 0) = false := beq_eq_false_iff_ne.mpr c20
      have c20b1 : ((l2.length : Int) != 0) = true := bne_iff_ne.mpr c20
      have c20b2 : ¬ (l2 = []) := fun h_ => c20 (by rw [h_]; rfl)
      have H' := zA H
      clear H
      go_wp2
      repeat (go_quiet (fail); try go_wp2)
      go_loopg [33] kj3 (fun kq v33 w' => ∃ (x33_2 : Int), v33 = .int .i64 x33_2 ∧ Aside0 (punch_Holds.l0 kq l2 l2 (l2.length : Int) x33_2 a0_0 a0_1 a0_2 a0_3 a0_4 a1_0 a1_1 = some r) ∧ Aside0 (kq ≤ kj3) ∧ Aside0 (w'.heap[gb333]? = some (.cells #[.int .i64 a0_0, .int .i64 a0_1, .int .i64 a0_2, .int .i64 a0_3, .int .i64 a0_4] 57 (0, 0))) ∧ Aside0 (w'.heap[gb334]? = some (.cells #[.int .i64 a1_0, .int .i64 a1_1] 47 (0, 0))) ∧ Aside0 (Below w.heap.size w w'))
      case atStart => exact ⟨(0), zqQ, H', ⟨Nat.le_refl _⟩, ⟨zqB BK333.out⟩, ⟨zqB BK334.out⟩, ⟨zqH HB.out GE333.out GE334.out⟩⟩
      case round =>
       clear H'
       try clear c1
       try clear c2
       try clear p2
       try clear c3
       try clear c8
       try clear c10
       try clear c15
       try clear c18
       try clear c19
       try clear c19b0
       try clear c19b1
       try clear c20
       try clear c20b0
       try clear c20b1
       try clear c20b2
       try clear hcz11_0
       try clear hcz11_1
       try clear hcz11_2
       try clear hcz11_3
       try clear hcz11_4
       try clear hcz13_0
       try clear hcz13_1
       try clear hcz16_0
       try clear hcz16_1
       try clear hcz16_2
       try clear hcz16_3
       try clear hcz16_4
       try clear hfz11_0
       try clear hfz11_1
       try clear hfz11_2
       try clear hfz11_3
       try clear hfz11_4
       try clear hfz13_0
       try clear hfz13_1
       try clear hfz16_0
       try clear hfz16_1
       try clear hfz16_2
       try clear hfz16_3
       try clear hfz16_4
       try clear p2
       obtain ⟨x33_2, rfl, HA, HK2, BK333, BK334, HB⟩ := hrel
       cases gk with
       | zero => exact absurd HA.out (by simp [punch_Holds.l0])
       | succ k2 =>
        have H := HA.out
        clear HA
        simp only [punch_Holds.l0] at H
        by_cases c21 : x33_2 < (l2.length : Int)
        ·
         rw [if_pos c21] at H
         have c21b0 : decide (x33_2 < (l2.length : Int)) = true := decide_eq_true c21
         clear c21
         by_cases c22 : 0 ≤ x33_2
         ·
          rw [if_pos c22] at H
          have c22b0 : decide (0 ≤ x33_2) = true := decide_eq_true c22
          clear c22
          by_cases c23 : x33_2 < (l2.length : Int)
          ·
           rw [if_pos c23] at H
           have c23b0 : decide (x33_2 < (l2.length : Int)) = true := decide_eq_true c23
           clear c23
           replace H := Option.bind_eq_some_iff.mp H
           obtain ⟨t339, A240, H⟩ := H
           replace H : (if t339 = true then (punch_Holds.l0 k2 l2 l2 (l2.length : Int) (wrap64 (x33_2 + 1)) a0_0 a0_1 a0_2 a0_3 a0_4 a1_0 a1_1) else (some 6)) = some r := H
           have A24 := zA A240
           clear A240
           by_cases c25 : t339 = true
           ·
            subst c25
            have H1 : (punch_Holds.l0 k2 l2 l2 (l2.length : Int) (wrap64 (x33_2 + 1)) a0_0 a0_1 a0_2 a0_3 a0_4 a1_0 a1_1) = some r := by rw [if_pos rfl] at H; exact H
            clear H; have H := H1; clear H1
            have H' := zA H
            clear H
            have p337 : 0 ≤ (x33_2 : Int) := of_decide_eq_true (zqD)
            have q337 : x33_2 < (l2.length : Int) := of_decide_eq_true (zqD)
            obtain ⟨ad337, e337, hx337_0, hx337_1⟩ := at_T47 HR2.out x33_2 p337 q337
            cases e337
            replace hx337_0 := (HB.out.cell (World.block_lt_of_cell? w _ hx337_0)).trans hx337_0
            replace hx337_1 := (HB.out.cell (World.block_lt_of_cell? w _ hx337_1)).trans hx337_1
            replace p337 := eq_true p337; replace q337 := eq_true q337
            go_wp2_with (first | ((with_reducible refine gate_dst (N := 8) rfl ?_); (try (refine gate_guard (by rfl) ?_; dsimp only)); refine box_event ?hg (N := 8) ?hd (cs := #[.int .i64 0, .int .i64 0]) (t := 47) ?hr ?_; (case hd => rfl); (case hg => rfl); (case hr => first | (go_simp; done) | (go_simp; rfl)); intro gb338 hg w26 hbox hb; have n0_ := zA (blk_below (g := gb333) (o := .cells #[.int .i64 a0_0, .int .i64 a0_1, .int .i64 a0_2, .int .i64 a0_3, .int .i64 a0_4] 57 (0, 0)) (zqB BK333.out) hb); have n1_ := zA (blk_below (g := gb334) (o := .cells #[.int .i64 a1_0, .int .i64 a1_1] 47 (0, 0)) (zqB BK334.out) hb); have n2_ := zA (below_step (zqH HB.out GE333.out GE334.out) hb); have n3_ := zA (hbox); have n4_ := zA ((by rw [hg]; exact (below_size (zqH HB.out GE333.out GE334.out)) : w.heap.size ≤ gb338)); have n5_ := zA ((by rw [hg]; exact (below_size (zqH HB.out GE333.out GE334.out)) : w.heap.size ≤ gb338)); have n6_ := zA ((by rw [hg]; exact Nat.ne_of_lt (blk_lt (g := gb333) (o := .cells #[.int .i64 a0_0, .int .i64 a0_1, .int .i64 a0_2, .int .i64 a0_3, .int .i64 a0_4] 57 (0, 0)) (zqB BK333.out)) : gb333 ≠ gb338)); have n7_ := zA ((by rw [hg]; exact Nat.ne_of_gt (blk_lt (g := gb333) (o := .cells #[.int .i64 a0_0, .int .i64 a0_1, .int .i64 a0_2, .int .i64 a0_3, .int .i64 a0_4] 57 (0, 0)) (zqB BK333.out)) : gb338 ≠ gb333)); have n8_ := zA ((by rw [hg]; exact Nat.ne_of_lt (blk_lt (g := gb334) (o := .cells #[.int .i64 a1_0, .int .i64 a1_1] 47 (0, 0)) (zqB BK334.out)) : gb334 ≠ gb338)); have n9_ := zA ((by rw [hg]; exact Nat.ne_of_gt (blk_lt (g := gb334) (o := .cells #[.int .i64 a1_0, .int .i64 a1_1] 47 (0, 0)) (zqB BK334.out)) : gb338 ≠ gb334)); clear BK333; clear BK334; clear HB; have BK333 := n0_; have BK334 := n1_; have HB := n2_; have BK338 := n3_; have GW338 := n4_; have GE338 := n5_; have NB333_338 := n6_; have NB338_333 := n7_; have NB334_338 := n8_; have NB338_334 := n9_; clear n0_ n1_ n2_ n3_ n4_ n5_ n6_ n7_ n8_ n9_; clear hb hbox hg; have hnb27 := NB338_333.out; have hnc27 := NB333_338.out; have hnb28 := NB338_334.out; have hnc28 := NB334_338.out; have hcz29_0 : w26.cell? ⟨gb338, 0, none⟩ = some (.int .i64 0) := (blk_cell BK338.out 0).trans rfl; have hcz29_1 : w26.cell? ⟨gb338, 1, none⟩ = some (.int .i64 0) := (blk_cell BK338.out 1).trans rfl; have hfz29_0 := blk_frozen BK338.out 0; have hfz29_1 := blk_frozen BK338.out 1) | (go_at_call 54; (with_reducible refine (punch_Slot_good.calls ((rd_T47 l2 x33_2).f0) ((rd_T47 l2 x33_2).f1) true _ A24.out).mono ?_); rintro e w30 ⟨rfl, hb⟩; have n0_ := zA (blk_below (g := gb333) (o := .cells #[.int .i64 a0_0, .int .i64 a0_1, .int .i64 a0_2, .int .i64 a0_3, .int .i64 a0_4] 57 (0, 0)) (by (with_reducible repeat (first | refine blk_drewN ?_ _ | refine blk_drew ?_ | refine blk_alloc ?_ _)); refine blk_far ?_ NB333_338.out _; (with_reducible repeat (first | refine blk_drewN ?_ _ | refine blk_drew ?_ | refine blk_alloc ?_ _)); refine blk_far ?_ NB333_338.out _; (with_reducible repeat (first | refine blk_drewN ?_ _ | refine blk_drew ?_ | refine blk_alloc ?_ _)); exact BK333.out) hb); have n1_ := zA (blk_below (g := gb334) (o := .cells #[.int .i64 a1_0, .int .i64 a1_1] 47 (0, 0)) (by (with_reducible repeat (first | refine blk_drewN ?_ _ | refine blk_drew ?_ | refine blk_alloc ?_ _)); refine blk_far ?_ NB334_338.out _; (with_reducible repeat (first | refine blk_drewN ?_ _ | refine blk_drew ?_ | refine blk_alloc ?_ _)); refine blk_far ?_ NB334_338.out _; (with_reducible repeat (first | refine blk_drewN ?_ _ | refine blk_drew ?_ | refine blk_alloc ?_ _)); exact BK334.out) hb); have n2_ := zA (blk_below (g := gb338) (o := .cells #[.int .i64 ((rd_T47 l2 x33_2).f0), .int .i64 ((rd_T47 l2 x33_2).f1)] 47 (0, 0)) (by (with_reducible repeat (first | refine blk_drewN ?_ _ | refine blk_drew ?_ | refine blk_alloc ?_ _)); refine blk_put (cs := #[.int .i64 ((rd_T47 l2 x33_2).f0), .int .i64 0]) ?_ 1 _ rfl; (with_reducible repeat (first | refine blk_drewN ?_ _ | refine blk_drew ?_ | refine blk_alloc ?_ _)); refine blk_put (cs := #[.int .i64 0, .int .i64 0]) ?_ 0 _ rfl; (with_reducible repeat (first | refine blk_drewN ?_ _ | refine blk_drew ?_ | refine blk_alloc ?_ _)); exact BK338.out) hb); have n3_ := zA (below_step (zqI HB.out GE333.out GE334.out GE338.out) hb); clear BK333; clear BK334; clear BK338; clear HB; have BK333 := n0_; have BK334 := n1_; have BK338 := n2_; have HB := n3_; clear n0_ n1_ n2_ n3_; (try clear hb); (try clear hb2); (try clear hk); (try clear hi)))
            repeat (go_quiet (first | ((with_reducible refine gate_dst (N := 8) rfl ?_); (try (refine gate_guard (by rfl) ?_; dsimp only)); refine box_event ?hg (N := 8) ?hd (cs := #[.int .i64 0, .int .i64 0]) (t := 47) ?hr ?_; (case hd => rfl); (case hg => rfl); (case hr => first | (go_simp; done) | (go_simp; rfl)); intro gb338 hg w26 hbox hb; have n0_ := zA (blk_below (g := gb333) (o := .cells #[.int .i64 a0_0, .int .i64 a0_1, .int .i64 a0_2, .int .i64 a0_3, .int .i64 a0_4] 57 (0, 0)) (zqB BK333.out) hb); have n1_ := zA (blk_below (g := gb334) (o := .cells #[.int .i64 a1_0, .int .i64 a1_1] 47 (0, 0)) (zqB BK334.out) hb); have n2_ := zA (below_step (zqH HB.out GE333.out GE334.out) hb); have n3_ := zA (hbox); have n4_ := zA ((by rw [hg]; exact (below_size (zqH HB.out GE333.out GE334.out)) : w.heap.size ≤ gb338)); have n5_ := zA ((by rw [hg]; exact (below_size (zqH HB.out GE333.out GE334.out)) : w.heap.size ≤ gb338)); have n6_ := zA ((by rw [hg]; exact Nat.ne_of_lt (blk_lt (g := gb333) (o := .cells #[.int .i64 a0_0, .int .i64 a0_1, .int .i64 a0_2, .int .i64 a0_3, .int .i64 a0_4] 57 (0, 0)) (zqB BK333.out)) : gb333 ≠ gb338)); have n7_ := zA ((by rw [hg]; exact Nat.ne_of_gt (blk_lt (g := gb333) (o := .cells #[.int .i64 a0_0, .int .i64 a0_1, .int .i64 a0_2, .int .i64 a0_3, .int .i64 a0_4] 57 (0, 0)) (zqB BK333.out)) : gb338 ≠ gb333)); have n8_ := zA ((by rw [hg]; exact Nat.ne_of_lt (blk_lt (g := gb334) (o := .cells #[.int .i64 a1_0, .int .i64 a1_1] 47 (0, 0)) (zqB BK334.out)) : gb334 ≠ gb338)); have n9_ := zA ((by rw [hg]; exact Nat.ne_of_gt (blk_lt (g := gb334) (o := .cells #[.int .i64 a1_0, .int .i64 a1_1] 47 (0, 0)) (zqB BK334.out)) : gb338 ≠ gb334)); clear BK333; clear BK334; clear HB; have BK333 := n0_; have BK334 := n1_; have HB := n2_; have BK338 := n3_; have GW338 := n4_; have GE338 := n5_; have NB333_338 := n6_; have NB338_333 := n7_; have NB334_338 := n8_; have NB338_334 := n9_; clear n0_ n1_ n2_ n3_ n4_ n5_ n6_ n7_ n8_ n9_; clear hb hbox hg; have hnb27 := NB338_333.out; have hnc27 := NB333_338.out; have hnb28 := NB338_334.out; have hnc28 := NB334_338.out; have hcz29_0 : w26.cell? ⟨gb338, 0, none⟩ = some (.int .i64 0) := (blk_cell BK338.out 0).trans rfl; have hcz29_1 : w26.cell? ⟨gb338, 1, none⟩ = some (.int .i64 0) := (blk_cell BK338.out 1).trans rfl; have hfz29_0 := blk_frozen BK338.out 0; have hfz29_1 := blk_frozen BK338.out 1) | (go_at_call 54; (with_reducible refine (punch_Slot_good.calls ((rd_T47 l2 x33_2).f0) ((rd_T47 l2 x33_2).f1) true _ A24.out).mono ?_); rintro e w30 ⟨rfl, hb⟩; have n0_ := zA (blk_below (g := gb333) (o := .cells #[.int .i64 a0_0, .int .i64 a0_1, .int .i64 a0_2, .int .i64 a0_3, .int .i64 a0_4] 57 (0, 0)) (by (with_reducible repeat (first | refine blk_drewN ?_ _ | refine blk_drew ?_ | refine blk_alloc ?_ _)); refine blk_far ?_ NB333_338.out _; (with_reducible repeat (first | refine blk_drewN ?_ _ | refine blk_drew ?_ | refine blk_alloc ?_ _)); refine blk_far ?_ NB333_338.out _; (with_reducible repeat (first | refine blk_drewN ?_ _ | refine blk_drew ?_ | refine blk_alloc ?_ _)); exact BK333.out) hb); have n1_ := zA (blk_below (g := gb334) (o := .cells #[.int .i64 a1_0, .int .i64 a1_1] 47 (0, 0)) (by (with_reducible repeat (first | refine blk_drewN ?_ _ | refine blk_drew ?_ | refine blk_alloc ?_ _)); refine blk_far ?_ NB334_338.out _; (with_reducible repeat (first | refine blk_drewN ?_ _ | refine blk_drew ?_ | refine blk_alloc ?_ _)); refine blk_far ?_ NB334_338.out _; (with_reducible repeat (first | refine blk_drewN ?_ _ | refine blk_drew ?_ | refine blk_alloc ?_ _)); exact BK334.out) hb); have n2_ := zA (blk_below (g := gb338) (o := .cells #[.int .i64 ((rd_T47 l2 x33_2).f0), .int .i64 ((rd_T47 l2 x33_2).f1)] 47 (0, 0)) (by (with_reducible repeat (first | refine blk_drewN ?_ _ | refine blk_drew ?_ | refine blk_alloc ?_ _)); refine blk_put (cs := #[.int .i64 ((rd_T47 l2 x33_2).f0), .int .i64 0]) ?_ 1 _ rfl; (with_reducible repeat (first | refine blk_drewN ?_ _ | refine blk_drew ?_ | refine blk_alloc ?_ _)); refine blk_put (cs := #[.int .i64 0, .int .i64 0]) ?_ 0 _ rfl; (with_reducible repeat (first | refine blk_drewN ?_ _ | refine blk_drew ?_ | refine blk_alloc ?_ _)); exact BK338.out) hb); have n3_ := zA (below_step (zqI HB.out GE333.out GE334.out GE338.out) hb); clear BK333; clear BK334; clear BK338; clear HB; have BK333 := n0_; have BK334 := n1_; have BK338 := n2_; have HB := n3_; clear n0_ n1_ n2_ n3_; (try clear hb); (try clear hb2); (try clear hk); (try clear hi))); try go_wp2_with (first | ((with_reducible refine gate_dst (N := 8) rfl ?_); (try (refine gate_guard (by rfl) ?_; dsimp only)); refine box_event ?hg (N := 8) ?hd (cs := #[.int .i64 0, .int .i64 0]) (t := 47) ?hr ?_; (case hd => rfl); (case hg => rfl); (case hr => first | (go_simp; done) | (go_simp; rfl)); intro gb338 hg w26 hbox hb; have n0_ := zA (blk_below (g := gb333) (o := .cells #[.int .i64 a0_0, .int .i64 a0_1, .int .i64 a0_2, .int .i64 a0_3, .int .i64 a0_4] 57 (0, 0)) (zqB BK333.out) hb); have n1_ := zA (blk_below (g := gb334) (o := .cells #[.int .i64 a1_0, .int .i64 a1_1] 47 (0, 0)) (zqB BK334.out) hb); have n2_ := zA (below_step (zqH HB.out GE333.out GE334.out) hb); have n3_ := zA (hbox); have n4_ := zA ((by rw [hg]; exact (below_size (zqH HB.out GE333.out GE334.out)) : w.heap.size ≤ gb338)); have n5_ := zA ((by rw [hg]; exact (below_size (zqH HB.out GE333.out GE334.out)) : w.heap.size ≤ gb338)); have n6_ := zA ((by rw [hg]; exact Nat.ne_of_lt (blk_lt (g := gb333) (o := .cells #[.int .i64 a0_0, .int .i64 a0_1, .int .i64 a0_2, .int .i64 a0_3, .int .i64 a0_4] 57 (0, 0)) (zqB BK333.out)) : gb333 ≠ gb338)); have n7_ := zA ((by rw [hg]; exact Nat.ne_of_gt (blk_lt (g := gb333) (o := .cells #[.int .i64 a0_0, .int .i64 a0_1, .int .i64 a0_2, .int .i64 a0_3, .int .i64 a0_4] 57 (0, 0)) (zqB BK333.out)) : gb338 ≠ gb333)); have n8_ := zA ((by rw [hg]; exact Nat.ne_of_lt (blk_lt (g := gb334) (o := .cells #[.int .i64 a1_0, .int .i64 a1_1] 47 (0, 0)) (zqB BK334.out)) : gb334 ≠ gb338)); have n9_ := zA ((by rw [hg]; exact Nat.ne_of_gt (blk_lt (g := gb334) (o := .cells #[.int .i64 a1_0, .int .i64 a1_1] 47 (0, 0)) (zqB BK334.out)) : gb338 ≠ gb334)); clear BK333; clear BK334; clear HB; have BK333 := n0_; have BK334 := n1_; have HB := n2_; have BK338 := n3_; have GW338 := n4_; have GE338 := n5_; have NB333_338 := n6_; have NB338_333 := n7_; have NB334_338 := n8_; have NB338_334 := n9_; clear n0_ n1_ n2_ n3_ n4_ n5_ n6_ n7_ n8_ n9_; clear hb hbox hg; have hnb27 := NB338_333.out; have hnc27 := NB333_338.out; have hnb28 := NB338_334.out; have hnc28 := NB334_338.out; have hcz29_0 : w26.cell? ⟨gb338, 0, none⟩ = some (.int .i64 0) := (blk_cell BK338.out 0).trans rfl; have hcz29_1 : w26.cell? ⟨gb338, 1, none⟩ = some (.int .i64 0) := (blk_cell BK338.out 1).trans rfl; have hfz29_0 := blk_frozen BK338.out 0; have hfz29_1 := blk_frozen BK338.out 1) | (go_at_call 54; (with_reducible refine (punch_Slot_good.calls ((rd_T47 l2 x33_2).f0) ((rd_T47 l2 x33_2).f1) true _ A24.out).mono ?_); rintro e w30 ⟨rfl, hb⟩; have n0_ := zA (blk_below (g := gb333) (o := .cells #[.int .i64 a0_0, .int .i64 a0_1, .int .i64 a0_2, .int .i64 a0_3, .int .i64 a0_4] 57 (0, 0)) (by (with_reducible repeat (first | refine blk_drewN ?_ _ | refine blk_drew ?_ | refine blk_alloc ?_ _)); refine blk_far ?_ NB333_338.out _; (with_reducible repeat (first | refine blk_drewN ?_ _ | refine blk_drew ?_ | refine blk_alloc ?_ _)); refine blk_far ?_ NB333_338.out _; (with_reducible repeat (first | refine blk_drewN ?_ _ | refine blk_drew ?_ | refine blk_alloc ?_ _)); exact BK333.out) hb); have n1_ := zA (blk_below (g := gb334) (o := .cells #[.int .i64 a1_0, .int .i64 a1_1] 47 (0, 0)) (by (with_reducible repeat (first | refine blk_drewN ?_ _ | refine blk_drew ?_ | refine blk_alloc ?_ _)); refine blk_far ?_ NB334_338.out _; (with_reducible repeat (first | refine blk_drewN ?_ _ | refine blk_drew ?_ | refine blk_alloc ?_ _)); refine blk_far ?_ NB334_338.out _; (with_reducible repeat (first | refine blk_drewN ?_ _ | refine blk_drew ?_ | refine blk_alloc ?_ _)); exact BK334.out) hb); have n2_ := zA (blk_below (g := gb338) (o := .cells #[.int .i64 ((rd_T47 l2 x33_2).f0), .int .i64 ((rd_T47 l2 x33_2).f1)] 47 (0, 0)) (by (with_reducible repeat (first | refine blk_drewN ?_ _ | refine blk_drew ?_ | refine blk_alloc ?_ _)); refine blk_put (cs := #[.int .i64 ((rd_T47 l2 x33_2).f0), .int .i64 0]) ?_ 1 _ rfl; (with_reducible repeat (first | refine blk_drewN ?_ _ | refine blk_drew ?_ | refine blk_alloc ?_ _)); refine blk_put (cs := #[.int .i64 0, .int .i64 0]) ?_ 0 _ rfl; (with_reducible repeat (first | refine blk_drewN ?_ _ | refine blk_drew ?_ | refine blk_alloc ?_ _)); exact BK338.out) hb); have n3_ := zA (below_step (zqI HB.out GE333.out GE334.out GE338.out) hb); clear BK333; clear BK334; clear BK338; clear HB; have BK333 := n0_; have BK334 := n1_; have BK338 := n2_; have HB := n3_; clear n0_ n1_ n2_ n3_; (try clear hb); (try clear hb2); (try clear hk); (try clear hi))))
            go_roundg k2
            case measure => have := HJ3.out; have := HK2.out; omega
            case rel => exact ⟨(wrap64 (x33_2 + 1)), zqQ, H', ⟨by have := HJ3.out; have := HK2.out; omega⟩, ⟨zqB BK333.out⟩, ⟨zqB BK334.out⟩, ⟨zqI HB.out GE333.out GE334.out GE338.out⟩⟩
           ·
            replace c25 := Bool.eq_false_iff.mpr c25
            subst c25
            have H1 : (some 6) = some r := by rw [if_neg (show ¬ (false = true) by decide)] at H; exact H
            clear H; have H := H1; clear H1
            obtain rfl := Option.some.inj H
            have p337 : 0 ≤ (x33_2 : Int) := of_decide_eq_true (zqD)
            have q337 : x33_2 < (l2.length : Int) := of_decide_eq_true (zqD)
            obtain ⟨ad337, e337, hx337_0, hx337_1⟩ := at_T47 HR2.out x33_2 p337 q337
            cases e337
            replace hx337_0 := (HB.out.cell (World.block_lt_of_cell? w _ hx337_0)).trans hx337_0
            replace hx337_1 := (HB.out.cell (World.block_lt_of_cell? w _ hx337_1)).trans hx337_1
            replace p337 := eq_true p337; replace q337 := eq_true q337
            go_wp2_with (first | ((with_reducible refine gate_dst (N := 8) rfl ?_); (try (refine gate_guard (by rfl) ?_; dsimp only)); refine box_event ?hg (N := 8) ?hd (cs := #[.int .i64 0, .int .i64 0]) (t := 47) ?hr ?_; (case hd => rfl); (case hg => rfl); (case hr => first | (go_simp; done) | (go_simp; rfl)); intro gb338 hg w31 hbox hb; have n0_ := zA (blk_below (g := gb333) (o := .cells #[.int .i64 a0_0, .int .i64 a0_1, .int .i64 a0_2, .int .i64 a0_3, .int .i64 a0_4] 57 (0, 0)) (zqB BK333.out) hb); have n1_ := zA (blk_below (g := gb334) (o := .cells #[.int .i64 a1_0, .int .i64 a1_1] 47 (0, 0)) (zqB BK334.out) hb); have n2_ := zA (below_step (zqH HB.out GE333.out GE334.out) hb); have n3_ := zA (hbox); have n4_ := zA ((by rw [hg]; exact (below_size (zqH HB.out GE333.out GE334.out)) : w.heap.size ≤ gb338)); have n5_ := zA ((by rw [hg]; exact (below_size (zqH HB.out GE333.out GE334.out)) : w.heap.size ≤ gb338)); have n6_ := zA ((by rw [hg]; exact Nat.ne_of_lt (blk_lt (g := gb333) (o := .cells #[.int .i64 a0_0, .int .i64 a0_1, .int .i64 a0_2, .int .i64 a0_3, .int .i64 a0_4] 57 (0, 0)) (zqB BK333.out)) : gb333 ≠ gb338)); have n7_ := zA ((by rw [hg]; exact Nat.ne_of_gt (blk_lt (g := gb333) (o := .cells #[.int .i64 a0_0, .int .i64 a0_1, .int .i64 a0_2, .int .i64 a0_3, .int .i64 a0_4] 57 (0, 0)) (zqB BK333.out)) : gb338 ≠ gb333)); have n8_ := zA ((by rw [hg]; exact Nat.ne_of_lt (blk_lt (g := gb334) (o := .cells #[.int .i64 a1_0, .int .i64 a1_1] 47 (0, 0)) (zqB BK334.out)) : gb334 ≠ gb338)); have n9_ := zA ((by rw [hg]; exact Nat.ne_of_gt (blk_lt (g := gb334) (o := .cells #[.int .i64 a1_0, .int .i64 a1_1] 47 (0, 0)) (zqB BK334.out)) : gb338 ≠ gb334)); clear BK333; clear BK334; clear HB; have BK333 := n0_; have BK334 := n1_; have HB := n2_; have BK338 := n3_; have GW338 := n4_; have GE338 := n5_; have NB333_338 := n6_; have NB338_333 := n7_; have NB334_338 := n8_; have NB338_334 := n9_; clear n0_ n1_ n2_ n3_ n4_ n5_ n6_ n7_ n8_ n9_; clear hb hbox hg; have hnb32 := NB338_333.out; have hnc32 := NB333_338.out; have hnb33 := NB338_334.out; have hnc33 := NB334_338.out; have hcz34_0 : w31.cell? ⟨gb338, 0, none⟩ = some (.int .i64 0) := (blk_cell BK338.out 0).trans rfl; have hcz34_1 : w31.cell? ⟨gb338, 1, none⟩ = some (.int .i64 0) := (blk_cell BK338.out 1).trans rfl; have hfz34_0 := blk_frozen BK338.out 0; have hfz34_1 := blk_frozen BK338.out 1) | (go_at_call 54; (with_reducible refine (punch_Slot_good.calls ((rd_T47 l2 x33_2).f0) ((rd_T47 l2 x33_2).f1) false _ A24.out).mono ?_); rintro e w35 ⟨rfl, hb⟩; have n0_ := zA (blk_below (g := gb333) (o := .cells #[.int .i64 a0_0, .int .i64 a0_1, .int .i64 a0_2, .int .i64 a0_3, .int .i64 a0_4] 57 (0, 0)) (by (with_reducible repeat (first | refine blk_drewN ?_ _ | refine blk_drew ?_ | refine blk_alloc ?_ _)); refine blk_far ?_ NB333_338.out _; (with_reducible repeat (first | refine blk_drewN ?_ _ | refine blk_drew ?_ | refine blk_alloc ?_ _)); refine blk_far ?_ NB333_338.out _; (with_reducible repeat (first | refine blk_drewN ?_ _ | refine blk_drew ?_ | refine blk_alloc ?_ _)); exact BK333.out) hb); have n1_ := zA (blk_below (g := gb334) (o := .cells #[.int .i64 a1_0, .int .i64 a1_1] 47 (0, 0)) (by (with_reducible repeat (first | refine blk_drewN ?_ _ | refine blk_drew ?_ | refine blk_alloc ?_ _)); refine blk_far ?_ NB334_338.out _; (with_reducible repeat (first | refine blk_drewN ?_ _ | refine blk_drew ?_ | refine blk_alloc ?_ _)); refine blk_far ?_ NB334_338.out _; (with_reducible repeat (first | refine blk_drewN ?_ _ | refine blk_drew ?_ | refine blk_alloc ?_ _)); exact BK334.out) hb); have n2_ := zA (blk_below (g := gb338) (o := .cells #[.int .i64 ((rd_T47 l2 x33_2).f0), .int .i64 ((rd_T47 l2 x33_2).f1)] 47 (0, 0)) (by (with_reducible repeat (first | refine blk_drewN ?_ _ | refine blk_drew ?_ | refine blk_alloc ?_ _)); refine blk_put (cs := #[.int .i64 ((rd_T47 l2 x33_2).f0), .int .i64 0]) ?_ 1 _ rfl; (with_reducible repeat (first | refine blk_drewN ?_ _ | refine blk_drew ?_ | refine blk_alloc ?_ _)); refine blk_put (cs := #[.int .i64 0, .int .i64 0]) ?_ 0 _ rfl; (with_reducible repeat (first | refine blk_drewN ?_ _ | refine blk_drew ?_ | refine blk_alloc ?_ _)); exact BK338.out) hb); have n3_ := zA (below_step (zqI HB.out GE333.out GE334.out GE338.out) hb); clear BK333; clear BK334; clear BK338; clear HB; have BK333 := n0_; have BK334 := n1_; have BK338 := n2_; have HB := n3_; clear n0_ n1_ n2_ n3_; (try clear hb); (try clear hb2); (try clear hk); (try clear hi)))
            repeat (go_quiet (first | ((with_reducible refine gate_dst (N := 8) rfl ?_); (try (refine gate_guard (by rfl) ?_; dsimp only)); refine box_event ?hg (N := 8) ?hd (cs := #[.int .i64 0, .int .i64 0]) (t := 47) ?hr ?_; (case hd => rfl); (case hg => rfl); (case hr => first | (go_simp; done) | (go_simp; rfl)); intro gb338 hg w31 hbox hb; have n0_ := zA (blk_below (g := gb333) (o := .cells #[.int .i64 a0_0, .int .i64 a0_1, .int .i64 a0_2, .int .i64 a0_3, .int .i64 a0_4] 57 (0, 0)) (zqB BK333.out) hb); have n1_ := zA (blk_below (g := gb334) (o := .cells #[.int .i64 a1_0, .int .i64 a1_1] 47 (0, 0)) (zqB BK334.out) hb); have n2_ := zA (below_step (zqH HB.out GE333.out GE334.out) hb); have n3_ := zA (hbox); have n4_ := zA ((by rw [hg]; exact (below_size (zqH HB.out GE333.out GE334.out)) : w.heap.size ≤ gb338)); have n5_ := zA ((by rw [hg]; exact (below_size (zqH HB.out GE333.out GE334.out)) : w.heap.size ≤ gb338)); have n6_ := zA ((by rw [hg]; exact Nat.ne_of_lt (blk_lt (g := gb333) (o := .cells #[.int .i64 a0_0, .int .i64 a0_1, .int .i64 a0_2, .int .i64 a0_3, .int .i64 a0_4] 57 (0, 0)) (zqB BK333.out)) : gb333 ≠ gb338)); have n7_ := zA ((by rw [hg]; exact Nat.ne_of_gt (blk_lt (g := gb333) (o := .cells #[.int .i64 a0_0, .int .i64 a0_1, .int .i64 a0_2, .int .i64 a0_3, .int .i64 a0_4] 57 (0, 0)) (zqB BK333.out)) : gb338 ≠ gb333)); have n8_ := zA ((by rw [hg]; exact Nat.ne_of_lt (blk_lt (g := gb334) (o := .cells #[.int .i64 a1_0, .int .i64 a1_1] 47 (0, 0)) (zqB BK334.out)) : gb334 ≠ gb338)); have n9_ := zA ((by rw [hg]; exact Nat.ne_of_gt (blk_lt (g := gb334) (o := .cells #[.int .i64 a1_0, .int .i64 a1_1] 47 (0, 0)) (zqB BK334.out)) : gb338 ≠ gb334)); clear BK333; clear BK334; clear HB; have BK333 := n0_; have BK334 := n1_; have HB := n2_; have BK338 := n3_; have GW338 := n4_; have GE338 := n5_; have NB333_338 := n6_; have NB338_333 := n7_; have NB334_338 := n8_; have NB338_334 := n9_; clear n0_ n1_ n2_ n3_ n4_ n5_ n6_ n7_ n8_ n9_; clear hb hbox hg; have hnb32 := NB338_333.out; have hnc32 := NB333_338.out; have hnb33 := NB338_334.out; have hnc33 := NB334_338.out; have hcz34_0 : w31.cell? ⟨gb338, 0, none⟩ = some (.int .i64 0) := (blk_cell BK338.out 0).trans rfl; have hcz34_1 : w31.cell? ⟨gb338, 1, none⟩ = some (.int .i64 0) := (blk_cell BK338.out 1).trans rfl; have hfz34_0 := blk_frozen BK338.out 0; have hfz34_1 := blk_frozen BK338.out 1) | (go_at_call 54; (with_reducible refine (punch_Slot_good.calls ((rd_T47 l2 x33_2).f0) ((rd_T47 l2 x33_2).f1) false _ A24.out).mono ?_); rintro e w35 ⟨rfl, hb⟩; have n0_ := zA (blk_below (g := gb333) (o := .cells #[.int .i64 a0_0, .int .i64 a0_1, .int .i64 a0_2, .int .i64 a0_3, .int .i64 a0_4] 57 (0, 0)) (by (with_reducible repeat (first | refine blk_drewN ?_ _ | refine blk_drew ?_ | refine blk_alloc ?_ _)); refine blk_far ?_ NB333_338.out _; (with_reducible repeat (first | refine blk_drewN ?_ _ | refine blk_drew ?_ | refine blk_alloc ?_ _)); refine blk_far ?_ NB333_338.out _; (with_reducible repeat (first | refine blk_drewN ?_ _ | refine blk_drew ?_ | refine blk_alloc ?_ _)); exact BK333.out) hb); have n1_ := zA (blk_below (g := gb334) (o := .cells #[.int .i64 a1_0, .int .i64 a1_1] 47 (0, 0)) (by (with_reducible repeat (first | refine blk_drewN ?_ _ | refine blk_drew ?_ | refine blk_alloc ?_ _)); refine blk_far ?_ NB334_338.out _; (with_reducible repeat (first | refine blk_drewN ?_ _ | refine blk_drew ?_ | refine blk_alloc ?_ _)); refine blk_far ?_ NB334_338.out _; (with_reducible repeat (first | refine blk_drewN ?_ _ | refine blk_drew ?_ | refine blk_alloc ?_ _)); exact BK334.out) hb); have n2_ := zA (blk_below (g := gb338) (o := .cells #[.int .i64 ((rd_T47 l2 x33_2).f0), .int .i64 ((rd_T47 l2 x33_2).f1)] 47 (0, 0)) (by (with_reducible repeat (first | refine blk_drewN ?_ _ | refine blk_drew ?_ | refine blk_alloc ?_ _)); refine blk_put (cs := #[.int .i64 ((rd_T47 l2 x33_2).f0), .int .i64 0]) ?_ 1 _ rfl; (with_reducible repeat (first | refine blk_drewN ?_ _ | refine blk_drew ?_ | refine blk_alloc ?_ _)); refine blk_put (cs := #[.int .i64 0, .int .i64 0]) ?_ 0 _ rfl; (with_reducible repeat (first | refine blk_drewN ?_ _ | refine blk_drew ?_ | refine blk_alloc ?_ _)); exact BK338.out) hb); have n3_ := zA (below_step (zqI HB.out GE333.out GE334.out GE338.out) hb); clear BK333; clear BK334; clear BK338; clear HB; have BK333 := n0_; have BK334 := n1_; have BK338 := n2_; have HB := n3_; clear n0_ n1_ n2_ n3_; (try clear hb); (try clear hb2); (try clear hk); (try clear hi))); try go_wp2_with (first | ((with_reducible refine gate_dst (N := 8) rfl ?_); (try (refine gate_guard (by rfl) ?_; dsimp only)); refine box_event ?hg (N := 8) ?hd (cs := #[.int .i64 0, .int .i64 0]) (t := 47) ?hr ?_; (case hd => rfl); (case hg => rfl); (case hr => first | (go_simp; done) | (go_simp; rfl)); intro gb338 hg w31 hbox hb; have n0_ := zA (blk_below (g := gb333) (o := .cells #[.int .i64 a0_0, .int .i64 a0_1, .int .i64 a0_2, .int .i64 a0_3, .int .i64 a0_4] 57 (0, 0)) (zqB BK333.out) hb); have n1_ := zA (blk_below (g := gb334) (o := .cells #[.int .i64 a1_0, .int .i64 a1_1] 47 (0, 0)) (zqB BK334.out) hb); have n2_ := zA (below_step (zqH HB.out GE333.out GE334.out) hb); have n3_ := zA (hbox); have n4_ := zA ((by rw [hg]; exact (below_size (zqH HB.out GE333.out GE334.out)) : w.heap.size ≤ gb338)); have n5_ := zA ((by rw [hg]; exact (below_size (zqH HB.out GE333.out GE334.out)) : w.heap.size ≤ gb338)); have n6_ := zA ((by rw [hg]; exact Nat.ne_of_lt (blk_lt (g := gb333) (o := .cells #[.int .i64 a0_0, .int .i64 a0_1, .int .i64 a0_2, .int .i64 a0_3, .int .i64 a0_4] 57 (0, 0)) (zqB BK333.out)) : gb333 ≠ gb338)); have n7_ := zA ((by rw [hg]; exact Nat.ne_of_gt (blk_lt (g := gb333) (o := .cells #[.int .i64 a0_0, .int .i64 a0_1, .int .i64 a0_2, .int .i64 a0_3, .int .i64 a0_4] 57 (0, 0)) (zqB BK333.out)) : gb338 ≠ gb333)); have n8_ := zA ((by rw [hg]; exact Nat.ne_of_lt (blk_lt (g := gb334) (o := .cells #[.int .i64 a1_0, .int .i64 a1_1] 47 (0, 0)) (zqB BK334.out)) : gb334 ≠ gb338)); have n9_ := zA ((by rw [hg]; exact Nat.ne_of_gt (blk_lt (g := gb334) (o := .cells #[.int .i64 a1_0, .int .i64 a1_1] 47 (0, 0)) (zqB BK334.out)) : gb338 ≠ gb334)); clear BK333; clear BK334; clear HB; have BK333 := n0_; have BK334 := n1_; have HB := n2_; have BK338 := n3_; have GW338 := n4_; have GE338 := n5_; have NB333_338 := n6_; have NB338_333 := n7_; have NB334_338 := n8_; have NB338_334 := n9_; clear n0_ n1_ n2_ n3_ n4_ n5_ n6_ n7_ n8_ n9_; clear hb hbox hg; have hnb32 := NB338_333.out; have hnc32 := NB333_338.out; have hnb33 := NB338_334.out; have hnc33 := NB334_338.out; have hcz34_0 : w31.cell? ⟨gb338, 0, none⟩ = some (.int .i64 0) := (blk_cell BK338.out 0).trans rfl; have hcz34_1 : w31.cell? ⟨gb338, 1, none⟩ = some (.int .i64 0) := (blk_cell BK338.out 1).trans rfl; have hfz34_0 := blk_frozen BK338.out 0; have hfz34_1 := blk_frozen BK338.out 1) | (go_at_call 54; (with_reducible refine (punch_Slot_good.calls ((rd_T47 l2 x33_2).f0) ((rd_T47 l2 x33_2).f1) false _ A24.out).mono ?_); rintro e w35 ⟨rfl, hb⟩; have n0_ := zA (blk_below (g := gb333) (o := .cells #[.int .i64 a0_0, .int .i64 a0_1, .int .i64 a0_2, .int .i64 a0_3, .int .i64 a0_4] 57 (0, 0)) (by (with_reducible repeat (first | refine blk_drewN ?_ _ | refine blk_drew ?_ | refine blk_alloc ?_ _)); refine blk_far ?_ NB333_338.out _; (with_reducible repeat (first | refine blk_drewN ?_ _ | refine blk_drew ?_ | refine blk_alloc ?_ _)); refine blk_far ?_ NB333_338.out _; (with_reducible repeat (first | refine blk_drewN ?_ _ | refine blk_drew ?_ | refine blk_alloc ?_ _)); exact BK333.out) hb); have n1_ := zA (blk_below (g := gb334) (o := .cells #[.int .i64 a1_0, .int .i64 a1_1] 47 (0, 0)) (by (with_reducible repeat (first | refine blk_drewN ?_ _ | refine blk_drew ?_ | refine blk_alloc ?_ _)); refine blk_far ?_ NB334_338.out _; (with_reducible repeat (first | refine blk_drewN ?_ _ | refine blk_drew ?_ | refine blk_alloc ?_ _)); refine blk_far ?_ NB334_338.out _; (with_reducible repeat (first | refine blk_drewN ?_ _ | refine blk_drew ?_ | refine blk_alloc ?_ _)); exact BK334.out) hb); have n2_ := zA (blk_below (g := gb338) (o := .cells #[.int .i64 ((rd_T47 l2 x33_2).f0), .int .i64 ((rd_T47 l2 x33_2).f1)] 47 (0, 0)) (by (with_reducible repeat (first | refine blk_drewN ?_ _ | refine blk_drew ?_ | refine blk_alloc ?_ _)); refine blk_put (cs := #[.int .i64 ((rd_T47 l2 x33_2).f0), .int .i64 0]) ?_ 1 _ rfl; (with_reducible repeat (first | refine blk_drewN ?_ _ | refine blk_drew ?_ | refine blk_alloc ?_ _)); refine blk_put (cs := #[.int .i64 0, .int .i64 0]) ?_ 0 _ rfl; (with_reducible repeat (first | refine blk_drewN ?_ _ | refine blk_drew ?_ | refine blk_alloc ?_ _)); exact BK338.out) hb); have n3_ := zA (below_step (zqI HB.out GE333.out GE334.out GE338.out) hb); clear BK333; clear BK334; clear BK338; clear HB; have BK333 := n0_; have BK334 := n1_; have BK338 := n2_; have HB := n3_; clear n0_ n1_ n2_ n3_; (try clear hb); (try clear hb2); (try clear hk); (try clear hi))))
            go_ret
            exact ⟨zqR, zqI HB.out GE333.out GE334.out GE338.out⟩
          ·
           rw [if_neg c23] at H
           exact absurd H (by simp)
         ·
          rw [if_neg c22] at H
          exact absurd H (by simp)
        ·
         rw [if_neg c21] at H
         have c21b0 : decide (x33_2 < (l2.length : Int)) = false := decide_eq_false c21
         clear c21
         have HC36 := zA H
         clear H
         go_upto_region 13 with (fail)
         repeat (go_quiet (fail); go_upto_region 13 with (fail))
         go_cut [59] (fun v59 wc => ∃ (kq : Nat) (x59_35 : Bool), v59 = .bool x59_35 ∧ Aside0 (punch_Holds.j2 kq l2 x59_35 a0_0 a0_1 a0_2 a0_3 a0_4 = some r) ∧ Aside0 (kq ≤ k2) ∧ Aside0 (wc.heap[gb333]? = some (.cells #[.int .i64 a0_0, .int .i64 a0_1, .int .i64 a0_2, .int .i64 a0_3, .int .i64 a0_4] 57 (0, 0))) ∧ Aside0 (wc.heap[gb334]? = some (.cells #[.int .i64 a1_0, .int .i64 a1_1] 47 (0, 0))) ∧ Aside0 (Below w.heap.size w wc))
         case first =>
          have H := HC36.out
          clear HC36
          by_cases c37 : 0 < (l2.length : Int)
          ·
           rw [if_pos c37] at H
           have c37b0 : decide (0 < (l2.length : Int)) = true := decide_eq_true c37
           have c37b1 : decide (0 < l2.length) = true := decide_eq_true (by omega)
           clear c37
           (first | rw [c37b0] | rw [c37b1] | (simp only [i64_w, i32_w]; rw [c37b0]) | skip)
           by_cases c38 : ((rd_T47 l2 0).f0) = a1_0
           ·
            rw [if_pos c38] at H
            have c38b0 : (((rd_T47 l2 0).f0) == a1_0) = true := beq_iff_eq.mpr c38
            have c38b1 : (((rd_T47 l2 0).f0) != a1_0) = false := bne_eq_false_iff_eq.mpr c38
            clear c38
            obtain ⟨ji39, hji39⟩ : ∃ j_ : Int, (wrap64 ((l2.length : Int) - 1)) = j_ := ⟨_, rfl⟩
            replace H : (if 0 ≤ (ji39) then (if (ji39) < (l2.length : Int) then (punch_Holds.j2 k2 l2 (((rd_T47 l2 (ji39)).f1) != a1_1) a0_0 a0_1 a0_2 a0_3 a0_4) else (none)) else (none)) = some r := by first | (rw [hji39] at H; exact H) | (simp only [hji39] at H ⊢; exact H)
            have hji39w : (IntKind.i64.wrap ((l2.length : Int) - 1)) = ji39 := (i64_w _).trans hji39
            by_cases c40 : 0 ≤ (ji39)
            ·
             rw [if_pos c40] at H
             have c40b0 : decide (0 ≤ (ji39)) = true := decide_eq_true c40
             clear c40
             by_cases c41 : (ji39) < (l2.length : Int)
             ·
              rw [if_pos c41] at H
              have c41b0 : decide ((ji39) < (l2.length : Int)) = true := decide_eq_true c41
              clear c41
              have H' := zA H
              clear H
              have p340 : 0 ≤ (0 : Int) := (by omega)
              have q340 : 0 < (l2.length : Int) := of_decide_eq_true (zqD)
              obtain ⟨ad340, e340, hx340_0, hx340_1⟩ := at_T47 HR2.out 0 p340 q340
              cases e340
              have qi340 : (0 < l2.length) = True := eq_true (by omega)
              (try rw [show ((0 : Int)).toNat = 0 from rfl] at hx340_0)
              (try rw [show 0 * 2 = 0 from rfl] at hx340_0)
              (try rw [Addr.add_zero'] at hx340_0)
              (try rw [show ((0 : Int)).toNat = 0 from rfl] at hx340_1)
              (try rw [show 0 * 2 = 0 from rfl] at hx340_1)
              (try rw [Addr.add_zero'] at hx340_1)
              replace hx340_0 := (HB.out.cell (World.block_lt_of_cell? w _ hx340_0)).trans hx340_0
              replace hx340_1 := (HB.out.cell (World.block_lt_of_cell? w _ hx340_1)).trans hx340_1
              replace p340 := eq_true p340; replace q340 := eq_true q340
              have hnb42 := NB334_333.out
              have hnc42 := NB333_334.out
              have hcz43_0 : wr.cell? ⟨gb334, 0, none⟩ = some (.int .i64 a1_0) := (blk_cell BK334.out 0).trans rfl
              have hcz43_1 : wr.cell? ⟨gb334, 1, none⟩ = some (.int .i64 a1_1) := (blk_cell BK334.out 1).trans rfl
              have hfz43_0 := blk_frozen BK334.out 0
              have hfz43_1 := blk_frozen BK334.out 1
              have p341 : 0 ≤ ((ji39) : Int) := of_decide_eq_true (zqD)
              have q341 : (ji39) < (l2.length : Int) := of_decide_eq_true (zqD)
              obtain ⟨ad341, e341, hx341_0, hx341_1⟩ := at_T47 HR2.out (ji39) p341 q341
              obtain rfl : ad340 = ad341 := (by injection e341)
              replace hx341_0 := (HB.out.cell (World.block_lt_of_cell? w _ hx341_0)).trans hx341_0
              replace hx341_1 := (HB.out.cell (World.block_lt_of_cell? w _ hx341_1)).trans hx341_1
              replace p341 := eq_true p341; replace q341 := eq_true q341
              go_wp2
              repeat (go_quiet (fail); try go_wp2)
              go_meet
              case rel => exact ⟨_, ((((rd_T47 l2 (ji39)).f1) != a1_1)), (by first | rfl | (simp; done) | (simp only [← hji39] <;> (first | rfl | simp)) | (simp [*]; done)), H', ⟨by have := HJ3.out; have := HK2.out; first | omega | exact Nat.le_refl _⟩, ⟨zqB BK333.out⟩, ⟨zqB BK334.out⟩, ⟨zqH HB.out GE333.out GE334.out⟩⟩
             ·
              rw [if_neg c41] at H
              exact absurd H (by simp)
            ·
             rw [if_neg c40] at H
             exact absurd H (by simp)
           ·
            rw [if_neg c38] at H
            have c38b0 : (((rd_T47 l2 0).f0) == a1_0) = false := beq_eq_false_iff_ne.mpr c38
            have c38b1 : (((rd_T47 l2 0).f0) != a1_0) = true := bne_iff_ne.mpr c38
            have H' := zA H
            clear H
            have p340 : 0 ≤ (0 : Int) := (by omega)
            have q340 : 0 < (l2.length : Int) := of_decide_eq_true (zqD)
            obtain ⟨ad340, e340, hx340_0, hx340_1⟩ := at_T47 HR2.out 0 p340 q340
            cases e340
            have qi340 : (0 < l2.length) = True := eq_true (by omega)
            (try rw [show ((0 : Int)).toNat = 0 from rfl] at hx340_0)
            (try rw [show 0 * 2 = 0 from rfl] at hx340_0)
            (try rw [Addr.add_zero'] at hx340_0)
            (try rw [show ((0 : Int)).toNat = 0 from rfl] at hx340_1)
            (try rw [show 0 * 2 = 0 from rfl] at hx340_1)
            (try rw [Addr.add_zero'] at hx340_1)
            replace hx340_0 := (HB.out.cell (World.block_lt_of_cell? w _ hx340_0)).trans hx340_0
            replace hx340_1 := (HB.out.cell (World.block_lt_of_cell? w _ hx340_1)).trans hx340_1
            replace p340 := eq_true p340; replace q340 := eq_true q340
            have hnb44 := NB334_333.out
            have hnc44 := NB333_334.out
            have hcz45_0 : wr.cell? ⟨gb334, 0, none⟩ = some (.int .i64 a1_0) := (blk_cell BK334.out 0).trans rfl
            have hcz45_1 : wr.cell? ⟨gb334, 1, none⟩ = some (.int .i64 a1_1) := (blk_cell BK334.out 1).trans rfl
            have hfz45_0 := blk_frozen BK334.out 0
            have hfz45_1 := blk_frozen BK334.out 1
            go_wp2
            repeat (go_quiet (fail); try go_wp2)
            go_meet
            case rel => exact ⟨_, (true), zqQ, H', ⟨by have := HJ3.out; have := HK2.out; first | omega | exact Nat.le_refl _⟩, ⟨zqB BK333.out⟩, ⟨zqB BK334.out⟩, ⟨zqH HB.out GE333.out GE334.out⟩⟩
          ·
           rw [if_neg c37] at H
           exact absurd H (by simp)
         case rest =>
          clear HC36
          try clear c1
          try clear c2
          try clear p2
          try clear c3
          try clear p3
          try clear q3
          try clear hx3
          try clear qi3
          try clear c4
          try clear p6
          try clear c8
          try clear c10
          try clear c15
          try clear c18
          try clear c19
          try clear c19b0
          try clear c19b1
          try clear c20
          try clear c20b0
          try clear c20b1
          try clear c20b2
          try clear c21
          try clear c21b0
          try clear c22
          try clear c22b0
          try clear c23
          try clear c23b0
          try clear c25
          try clear c27
          try clear c28
          try clear c32
          try clear c33
          try clear p33
          try clear q33
          try clear hx33
          try clear p34
          try clear q34
          try clear hx34
          try clear qi34
          try clear c35
          try clear c37
          try clear c37b0
          try clear c37b1
          try clear c38
          try clear c38b0
          try clear c38b1
          try clear c40
          try clear c40b0
          try clear c41
          try clear c41b0
          try clear c42
          try clear c44
          try clear hcz11_0
          try clear hcz11_1
          try clear hcz11_2
          try clear hcz11_3
          try clear hcz11_4
          try clear hcz13_0
          try clear hcz13_1
          try clear hcz16_0
          try clear hcz16_1
          try clear hcz16_2
          try clear hcz16_3
          try clear hcz16_4
          try clear hcz29_0
          try clear hcz29_1
          try clear hcz34_0
          try clear hcz34_1
          try clear hcz43_0
          try clear hcz43_1
          try clear hcz45_0
          try clear hcz45_1
          try clear hfz11_0
          try clear hfz11_1
          try clear hfz11_2
          try clear hfz11_3
          try clear hfz11_4
          try clear hfz13_0
          try clear hfz13_1
          try clear hfz16_0
          try clear hfz16_1
          try clear hfz16_2
          try clear hfz16_3
          try clear hfz16_4
          try clear hfz29_0
          try clear hfz29_1
          try clear hfz34_0
          try clear hfz34_1
          try clear hfz43_0
          try clear hfz43_1
          try clear hfz45_0
          try clear hfz45_1
          try clear hx337_0
          try clear hx337_1
          try clear hx340_0
          try clear hx340_1
          try clear hx341_0
          try clear hx341_1
          try clear p2
          try clear p337
          try clear p340
          try clear p341
          try clear q337
          try clear q340
          try clear q341
          obtain ⟨kq, x59_35, rfl, HA, HJ35, BK333, BK334, HB⟩ := hcut
          cases kq with
          | zero => exact absurd HA.out (by simp [punch_Holds.j2])
          | succ kj35 =>
           have H := HA.out
           clear HA
           simp only [punch_Holds.j2] at H
           by_cases c46 : x59_35 = true
           ·
            subst c46
            have H1 : (some 13) = some r := by rw [if_pos rfl] at H; exact H
            clear H; have H := H1; clear H1
            obtain rfl := Option.some.inj H
            go_wp2
            repeat (go_quiet (fail); try go_wp2)
            go_ret
            exact ⟨zqR, zqH HB.out GE333.out GE334.out⟩
           ·
            replace c46 := Bool.eq_false_iff.mpr c46
            subst c46
            have H1 : (if 1 ≤ (l2.length : Int) then ((some (l2.drop 1 : List (S47))).bind fun y342 => (punch_Holds.l1 kj35 l2 y342 (y342.length : Int) 0 a0_0 a0_1 a0_2 a0_3 a0_4)) else (none)) = some r := by rw [if_neg (show ¬ (false = true) by decide)] at H; exact H
            clear H; have H := H1; clear H1
            by_cases c47 : 1 ≤ (l2.length : Int)
            ·
             rw [if_pos c47] at H
             have c47b0 := eq_true c47
             have c47b1 : decide (1 ≤ (l2.length : Int)) = true := decide_eq_true c47
             clear c47
             obtain ⟨y342, hy342⟩ : ∃ y_ : List (S47), y_ = (l2.drop 1) := ⟨_, rfl⟩
             replace H : (punch_Holds.l1 kj35 l2 y342 (y342.length : Int) 0 a0_0 a0_1 a0_2 a0_3 a0_4) = some r := zqF hy342 H
             have Ny342 := zA hy342
             clear hy342
             have H' := zA H
             clear H
             have q48 : (1 : Int) ≤ ((l2.length : Int) : Int) := of_decide_eq_true (zqD)
             obtain ⟨i048, hi048, _, hsz48, _⟩ := info_parts info47
             have hroom48 : l2.length ≤ c2 := HC2.out
             have hC48 : Kd.C k47 _ A2 l2.length l2 := HR2.out
             have hcut48 := cut_from (P := Try.prog) 22 47 .i64 Try.underlying22 hi048 2 hsz48 A2 l2.length c2 1 (by omega) q48
             have hr48 := Kd.C_drop (m := (1 : Int).toNat) (c := c2) hC48 (by omega) hroom48
             obtain ⟨A48, hA48⟩ : ∃ A1, A1 = (if c2 = (1 : Int).toNat then A2 else (A2 : Option Addr).map (·.add ((1 : Int).toNat * 2))) := ⟨_, rfl⟩
             obtain ⟨c48, hc48⟩ : ∃ c1, c1 = c2 - (1 : Int).toNat := ⟨_, rfl⟩
             have hy48 : y342.length = l2.length - (1 : Int).toNat := (by rw [Ny342.out, List.length_drop] <;> omega)
             rw [show (l2).drop (1 : Int).toNat = y342 from Ny342.out.symm] at hr48
             replace hr48 : Kd.C k47 _ A48 y342.length y342 := (by rw [hA48]; exact hr48)
             rw [← hy48, ← hA48, ← hc48] at hcut48
             have HR345 := zA hr48
             have HC345 := zA (show y342.length ≤ c48 from by rw [hy48, hc48]; exact Nat.sub_le_sub_right hroom48 _)
             clear hr48 hC48 hroom48 hi048 hsz48 hc48
             have KY48 := zA hy48
             have KA48 := zA hA48
             clear hy48 hA48; replace q48 := eq_true q48
             go_wp2
             repeat (go_quiet (fail); try go_wp2)
             go_loopg [63] kj35 (fun kq v63 w' => ∃ (x63_4 : Int), v63 = .int .i64 x63_4 ∧ Aside0 (punch_Holds.l1 kq l2 y342 (y342.length : Int) x63_4 a0_0 a0_1 a0_2 a0_3 a0_4 = some r) ∧ Aside0 (kq ≤ kj35) ∧ Aside0 (w'.heap[gb333]? = some (.cells #[.int .i64 a0_0, .int .i64 a0_1, .int .i64 a0_2, .int .i64 a0_3, .int .i64 a0_4] 57 (0, 0))) ∧ Aside0 (w'.heap[gb334]? = some (.cells #[.int .i64 a1_0, .int .i64 a1_1] 47 (0, 0))) ∧ Aside0 (Below w.heap.size w w'))
             case atStart => exact ⟨(0), zqQ, H', ⟨Nat.le_refl _⟩, ⟨zqB BK333.out⟩, ⟨zqB BK334.out⟩, ⟨zqH HB.out GE333.out GE334.out⟩⟩
             case round =>
              clear H'
              try clear c1
              try clear c2
              try clear p2
              try clear c3
              try clear p3
              try clear q3
              try clear hx3
              try clear qi3
              try clear c4
              try clear q4
              try clear p6
              try clear c8
              try clear c10
              try clear c15
              try clear c18
              try clear c19
              try clear c19b0
              try clear c19b1
              try clear c20
              try clear c20b0
              try clear c20b1
              try clear c20b2
              try clear c21
              try clear c21b0
              try clear c22
              try clear c22b0
              try clear c23
              try clear c23b0
              try clear c25
              try clear c27
              try clear c28
              try clear c32
              try clear c33
              try clear p33
              try clear q33
              try clear hx33
              try clear p34
              try clear q34
              try clear hx34
              try clear qi34
              try clear c35
              try clear c37
              try clear c37b0
              try clear c37b1
              try clear c38
              try clear c38b0
              try clear c38b1
              try clear c40
              try clear c40b0
              try clear c41
              try clear c41b0
              try clear c42
              try clear c44
              try clear c46
              try clear c47
              try clear c47b0
              try clear c47b1
              try clear c48
              try clear q48
              try clear hcz11_0
              try clear hcz11_1
              try clear hcz11_2
              try clear hcz11_3
              try clear hcz11_4
              try clear hcz13_0
              try clear hcz13_1
              try clear hcz16_0
              try clear hcz16_1
              try clear hcz16_2
              try clear hcz16_3
              try clear hcz16_4
              try clear hcz29_0
              try clear hcz29_1
              try clear hcz34_0
              try clear hcz34_1
              try clear hcz43_0
              try clear hcz43_1
              try clear hcz45_0
              try clear hcz45_1
              try clear hfz11_0
              try clear hfz11_1
              try clear hfz11_2
              try clear hfz11_3
              try clear hfz11_4
              try clear hfz13_0
              try clear hfz13_1
              try clear hfz16_0
              try clear hfz16_1
              try clear hfz16_2
              try clear hfz16_3
              try clear hfz16_4
              try clear hfz29_0
              try clear hfz29_1
              try clear hfz34_0
              try clear hfz34_1
              try clear hfz43_0
              try clear hfz43_1
              try clear hfz45_0
              try clear hfz45_1
              try clear hx337_0
              try clear hx337_1
              try clear hx340_0
              try clear hx340_1
              try clear hx341_0
              try clear hx341_1
              try clear p2
              try clear p3
              try clear p33
              try clear p337
              try clear p34
              try clear p340
              try clear p341
              try clear p6
              try clear q3
              try clear q33
              try clear q337
              try clear q34
              try clear q340
              try clear q341
              try clear q48
              obtain ⟨x63_4, rfl, HA, HK4, BK333, BK334, HB⟩ := hrel
              cases gk with
              | zero => exact absurd HA.out (by simp [punch_Holds.l1])
              | succ k4 =>
               have H := HA.out
               clear HA
               simp only [punch_Holds.l1] at H
               by_cases c49 : x63_4 < (y342.length : Int)
               ·
                rw [if_pos c49] at H
                have c49b0 : decide (x63_4 < (y342.length : Int)) = true := decide_eq_true c49
                clear c49
                by_cases c50 : 0 ≤ x63_4
                ·
                 rw [if_pos c50] at H
                 have c50b0 : decide (0 ≤ x63_4) = true := decide_eq_true c50
                 clear c50
                 by_cases c51 : x63_4 < (y342.length : Int)
                 ·
                  rw [if_pos c51] at H
                  have c51b0 : decide (x63_4 < (y342.length : Int)) = true := decide_eq_true c51
                  clear c51
                  by_cases c52 : x63_4 < (l2.length : Int)
                  ·
                   rw [if_pos c52] at H
                   have c52b0 : decide (x63_4 < (l2.length : Int)) = true := decide_eq_true c52
                   clear c52
                   by_cases c53 : ((rd_T47 y342 x63_4).f0) ≤ ((rd_T47 l2 x63_4).f1)
                   ·
                    rw [if_pos c53] at H
                    have c53b0 : decide (((rd_T47 y342 x63_4).f0) ≤ ((rd_T47 l2 x63_4).f1)) = true := decide_eq_true c53
                    clear c53
                    obtain rfl := Option.some.inj H
                    have p346 : 0 ≤ (x63_4 : Int) := of_decide_eq_true (zqD)
                    have q346 : x63_4 < (y342.length : Int) := of_decide_eq_true (zqD)
                    obtain ⟨ad346, e346, hx346_0, hx346_1⟩ := at_T47 HR345.out x63_4 p346 q346
                    cases e346
                    replace hx346_0 := (HB.out.cell (World.block_lt_of_cell? w _ hx346_0)).trans hx346_0
                    replace hx346_1 := (HB.out.cell (World.block_lt_of_cell? w _ hx346_1)).trans hx346_1
                    replace p346 := eq_true p346; replace q346 := eq_true q346
                    go_wp2_with (first | ((with_reducible refine gate_dst (N := 10) rfl ?_); (try (refine gate_guard (by rfl) ?_; dsimp only)); refine box_event ?hg (N := 10) ?hd (cs := #[.int .i64 0, .int .i64 0]) (t := 47) ?hr ?_; (case hd => rfl); (case hg => rfl); (case hr => first | (go_simp; done) | (go_simp; rfl)); intro gb347 hg w54 hbox hb; have n0_ := zA (blk_below (g := gb333) (o := .cells #[.int .i64 a0_0, .int .i64 a0_1, .int .i64 a0_2, .int .i64 a0_3, .int .i64 a0_4] 57 (0, 0)) (zqB BK333.out) hb); have n1_ := zA (blk_below (g := gb334) (o := .cells #[.int .i64 a1_0, .int .i64 a1_1] 47 (0, 0)) (zqB BK334.out) hb); have n2_ := zA (below_step (zqH HB.out GE333.out GE334.out) hb); have n3_ := zA (hbox); have n4_ := zA ((by rw [hg]; exact (below_size (zqH HB.out GE333.out GE334.out)) : w.heap.size ≤ gb347)); have n5_ := zA ((by rw [hg]; exact (below_size (zqH HB.out GE333.out GE334.out)) : w.heap.size ≤ gb347)); have n6_ := zA ((by rw [hg]; exact Nat.ne_of_lt (blk_lt (g := gb333) (o := .cells #[.int .i64 a0_0, .int .i64 a0_1, .int .i64 a0_2, .int .i64 a0_3, .int .i64 a0_4] 57 (0, 0)) (zqB BK333.out)) : gb333 ≠ gb347)); have n7_ := zA ((by rw [hg]; exact Nat.ne_of_gt (blk_lt (g := gb333) (o := .cells #[.int .i64 a0_0, .int .i64 a0_1, .int .i64 a0_2, .int .i64 a0_3, .int .i64 a0_4] 57 (0, 0)) (zqB BK333.out)) : gb347 ≠ gb333)); have n8_ := zA ((by rw [hg]; exact Nat.ne_of_lt (blk_lt (g := gb334) (o := .cells #[.int .i64 a1_0, .int .i64 a1_1] 47 (0, 0)) (zqB BK334.out)) : gb334 ≠ gb347)); have n9_ := zA ((by rw [hg]; exact Nat.ne_of_gt (blk_lt (g := gb334) (o := .cells #[.int .i64 a1_0, .int .i64 a1_1] 47 (0, 0)) (zqB BK334.out)) : gb347 ≠ gb334)); clear BK333; clear BK334; clear HB; have BK333 := n0_; have BK334 := n1_; have HB := n2_; have BK347 := n3_; have GW347 := n4_; have GE347 := n5_; have NB333_347 := n6_; have NB347_333 := n7_; have NB334_347 := n8_; have NB347_334 := n9_; clear n0_ n1_ n2_ n3_ n4_ n5_ n6_ n7_ n8_ n9_; clear hb hbox hg; have hnb55 := NB347_333.out; have hnc55 := NB333_347.out; have hnb56 := NB347_334.out; have hnc56 := NB334_347.out; have hcz57_0 : w54.cell? ⟨gb347, 0, none⟩ = some (.int .i64 0) := (blk_cell BK347.out 0).trans rfl; have hcz57_1 : w54.cell? ⟨gb347, 1, none⟩ = some (.int .i64 0) := (blk_cell BK347.out 1).trans rfl; have hfz57_0 := blk_frozen BK347.out 0; have hfz57_1 := blk_frozen BK347.out 1; have p348 : 0 ≤ (x63_4 : Int) := of_decide_eq_true (zqD); have q348 : x63_4 < (l2.length : Int) := of_decide_eq_true (zqD); obtain ⟨ad348, e348, hx348_0, hx348_1⟩ := at_T47 HR2.out x63_4 p348 q348; cases e348; have hn348_0 : ad348.block ≠ gb347 := Nat.ne_of_lt (Nat.lt_of_lt_of_le (by have := World.block_lt_of_cell? _ _ hx348_0; first | rwa [add_block] at this | exact this) GW347.out); have hn348_1 : ad348.block ≠ gb347 := Nat.ne_of_lt (Nat.lt_of_lt_of_le (by have := World.block_lt_of_cell? _ _ hx348_0; first | rwa [add_block] at this | exact this) GW347.out); replace hx348_0 := (HB.out.cell (World.block_lt_of_cell? w _ hx348_0)).trans hx348_0; replace hx348_1 := (HB.out.cell (World.block_lt_of_cell? w _ hx348_1)).trans hx348_1; replace hx348_0 := (cell_far (p := ⟨gb347, 0, none⟩) (by first | (rw [add_block]; exact hn348_0) | (show (Addr.add _ _).block ≠ _; rw [add_block]; exact hn348_0) | exact hn348_0) (.int .i64 ((rd_T47 y342 x63_4).f0))).trans hx348_0; replace hx348_1 := (cell_far (p := ⟨gb347, 0, none⟩) (by first | (rw [add_block]; exact hn348_0) | (show (Addr.add _ _).block ≠ _; rw [add_block]; exact hn348_0) | exact hn348_0) (.int .i64 ((rd_T47 y342 x63_4).f0))).trans hx348_1; replace hx348_0 := (cell_far (p := ⟨gb347, 1, none⟩) (by first | (rw [add_block]; exact hn348_1) | (show (Addr.add _ _).block ≠ _; rw [add_block]; exact hn348_1) | exact hn348_1) (.int .i64 ((rd_T47 y342 x63_4).f1))).trans hx348_0; replace hx348_1 := (cell_far (p := ⟨gb347, 1, none⟩) (by first | (rw [add_block]; exact hn348_1) | (show (Addr.add _ _).block ≠ _; rw [add_block]; exact hn348_1) | exact hn348_1) (.int .i64 ((rd_T47 y342 x63_4).f1))).trans hx348_1; (try have hy348_0 := fun (n_ : Nat) => (show ((((w54.drewN n_).setCell ⟨gb347, 0, none⟩ (.int .i64 ((rd_T47 y342 x63_4).f0))).setCell ⟨gb347, 1, none⟩ (.int .i64 ((rd_T47 y342 x63_4).f1)))).cell? _ = some _ from hx348_0)); (try have hy348_1 := fun (n_ : Nat) => (show ((((w54.drewN n_).setCell ⟨gb347, 0, none⟩ (.int .i64 ((rd_T47 y342 x63_4).f0))).setCell ⟨gb347, 1, none⟩ (.int .i64 ((rd_T47 y342 x63_4).f1)))).cell? _ = some _ from hx348_1)); clear hn348_0; clear hn348_1; replace p348 := eq_true p348; replace q348 := eq_true q348))
                    repeat (go_quiet (first | ((with_reducible refine gate_dst (N := 10) rfl ?_); (try (refine gate_guard (by rfl) ?_; dsimp only)); refine box_event ?hg (N := 10) ?hd (cs := #[.int .i64 0, .int .i64 0]) (t := 47) ?hr ?_; (case hd => rfl); (case hg => rfl); (case hr => first | (go_simp; done) | (go_simp; rfl)); intro gb347 hg w54 hbox hb; have n0_ := zA (blk_below (g := gb333) (o := .cells #[.int .i64 a0_0, .int .i64 a0_1, .int .i64 a0_2, .int .i64 a0_3, .int .i64 a0_4] 57 (0, 0)) (zqB BK333.out) hb); have n1_ := zA (blk_below (g := gb334) (o := .cells #[.int .i64 a1_0, .int .i64 a1_1] 47 (0, 0)) (zqB BK334.out) hb); have n2_ := zA (below_step (zqH HB.out GE333.out GE334.out) hb); have n3_ := zA (hbox); have n4_ := zA ((by rw [hg]; exact (below_size (zqH HB.out GE333.out GE334.out)) : w.heap.size ≤ gb347)); have n5_ := zA ((by rw [hg]; exact (below_size (zqH HB.out GE333.out GE334.out)) : w.heap.size ≤ gb347)); have n6_ := zA ((by rw [hg]; exact Nat.ne_of_lt (blk_lt (g := gb333) (o := .cells #[.int .i64 a0_0, .int .i64 a0_1, .int .i64 a0_2, .int .i64 a0_3, .int .i64 a0_4] 57 (0, 0)) (zqB BK333.out)) : gb333 ≠ gb347)); have n7_ := zA ((by rw [hg]; exact Nat.ne_of_gt (blk_lt (g := gb333) (o := .cells #[.int .i64 a0_0, .int .i64 a0_1, .int .i64 a0_2, .int .i64 a0_3, .int .i64 a0_4] 57 (0, 0)) (zqB BK333.out)) : gb347 ≠ gb333)); have n8_ := zA ((by rw [hg]; exact Nat.ne_of_lt (blk_lt (g := gb334) (o := .cells #[.int .i64 a1_0, .int .i64 a1_1] 47 (0, 0)) (zqB BK334.out)) : gb334 ≠ gb347)); have n9_ := zA ((by rw [hg]; exact Nat.ne_of_gt (blk_lt (g := gb334) (o := .cells #[.int .i64 a1_0, .int .i64 a1_1] 47 (0, 0)) (zqB BK334.out)) : gb347 ≠ gb334)); clear BK333; clear BK334; clear HB; have BK333 := n0_; have BK334 := n1_; have HB := n2_; have BK347 := n3_; have GW347 := n4_; have GE347 := n5_; have NB333_347 := n6_; have NB347_333 := n7_; have NB334_347 := n8_; have NB347_334 := n9_; clear n0_ n1_ n2_ n3_ n4_ n5_ n6_ n7_ n8_ n9_; clear hb hbox hg; have hnb55 := NB347_333.out; have hnc55 := NB333_347.out; have hnb56 := NB347_334.out; have hnc56 := NB334_347.out; have hcz57_0 : w54.cell? ⟨gb347, 0, none⟩ = some (.int .i64 0) := (blk_cell BK347.out 0).trans rfl; have hcz57_1 : w54.cell? ⟨gb347, 1, none⟩ = some (.int .i64 0) := (blk_cell BK347.out 1).trans rfl; have hfz57_0 := blk_frozen BK347.out 0; have hfz57_1 := blk_frozen BK347.out 1; have p348 : 0 ≤ (x63_4 : Int) := of_decide_eq_true (zqD); have q348 : x63_4 < (l2.length : Int) := of_decide_eq_true (zqD); obtain ⟨ad348, e348, hx348_0, hx348_1⟩ := at_T47 HR2.out x63_4 p348 q348; cases e348; have hn348_0 : ad348.block ≠ gb347 := Nat.ne_of_lt (Nat.lt_of_lt_of_le (by have := World.block_lt_of_cell? _ _ hx348_0; first | rwa [add_block] at this | exact this) GW347.out); have hn348_1 : ad348.block ≠ gb347 := Nat.ne_of_lt (Nat.lt_of_lt_of_le (by have := World.block_lt_of_cell? _ _ hx348_0; first | rwa [add_block] at this | exact this) GW347.out); replace hx348_0 := (HB.out.cell (World.block_lt_of_cell? w _ hx348_0)).trans hx348_0; replace hx348_1 := (HB.out.cell (World.block_lt_of_cell? w _ hx348_1)).trans hx348_1; replace hx348_0 := (cell_far (p := ⟨gb347, 0, none⟩) (by first | (rw [add_block]; exact hn348_0) | (show (Addr.add _ _).block ≠ _; rw [add_block]; exact hn348_0) | exact hn348_0) (.int .i64 ((rd_T47 y342 x63_4).f0))).trans hx348_0; replace hx348_1 := (cell_far (p := ⟨gb347, 0, none⟩) (by first | (rw [add_block]; exact hn348_0) | (show (Addr.add _ _).block ≠ _; rw [add_block]; exact hn348_0) | exact hn348_0) (.int .i64 ((rd_T47 y342 x63_4).f0))).trans hx348_1; replace hx348_0 := (cell_far (p := ⟨gb347, 1, none⟩) (by first | (rw [add_block]; exact hn348_1) | (show (Addr.add _ _).block ≠ _; rw [add_block]; exact hn348_1) | exact hn348_1) (.int .i64 ((rd_T47 y342 x63_4).f1))).trans hx348_0; replace hx348_1 := (cell_far (p := ⟨gb347, 1, none⟩) (by first | (rw [add_block]; exact hn348_1) | (show (Addr.add _ _).block ≠ _; rw [add_block]; exact hn348_1) | exact hn348_1) (.int .i64 ((rd_T47 y342 x63_4).f1))).trans hx348_1; (try have hy348_0 := fun (n_ : Nat) => (show ((((w54.drewN n_).setCell ⟨gb347, 0, none⟩ (.int .i64 ((rd_T47 y342 x63_4).f0))).setCell ⟨gb347, 1, none⟩ (.int .i64 ((rd_T47 y342 x63_4).f1)))).cell? _ = some _ from hx348_0)); (try have hy348_1 := fun (n_ : Nat) => (show ((((w54.drewN n_).setCell ⟨gb347, 0, none⟩ (.int .i64 ((rd_T47 y342 x63_4).f0))).setCell ⟨gb347, 1, none⟩ (.int .i64 ((rd_T47 y342 x63_4).f1)))).cell? _ = some _ from hx348_1)); clear hn348_0; clear hn348_1; replace p348 := eq_true p348; replace q348 := eq_true q348)); try go_wp2_with (first | ((with_reducible refine gate_dst (N := 10) rfl ?_); (try (refine gate_guard (by rfl) ?_; dsimp only)); refine box_event ?hg (N := 10) ?hd (cs := #[.int .i64 0, .int .i64 0]) (t := 47) ?hr ?_; (case hd => rfl); (case hg => rfl); (case hr => first | (go_simp; done) | (go_simp; rfl)); intro gb347 hg w54 hbox hb; have n0_ := zA (blk_below (g := gb333) (o := .cells #[.int .i64 a0_0, .int .i64 a0_1, .int .i64 a0_2, .int .i64 a0_3, .int .i64 a0_4] 57 (0, 0)) (zqB BK333.out) hb); have n1_ := zA (blk_below (g := gb334) (o := .cells #[.int .i64 a1_0, .int .i64 a1_1] 47 (0, 0)) (zqB BK334.out) hb); have n2_ := zA (below_step (zqH HB.out GE333.out GE334.out) hb); have n3_ := zA (hbox); have n4_ := zA ((by rw [hg]; exact (below_size (zqH HB.out GE333.out GE334.out)) : w.heap.size ≤ gb347)); have n5_ := zA ((by rw [hg]; exact (below_size (zqH HB.out GE333.out GE334.out)) : w.heap.size ≤ gb347)); have n6_ := zA ((by rw [hg]; exact Nat.ne_of_lt (blk_lt (g := gb333) (o := .cells #[.int .i64 a0_0, .int .i64 a0_1, .int .i64 a0_2, .int .i64 a0_3, .int .i64 a0_4] 57 (0, 0)) (zqB BK333.out)) : gb333 ≠ gb347)); have n7_ := zA ((by rw [hg]; exact Nat.ne_of_gt (blk_lt (g := gb333) (o := .cells #[.int .i64 a0_0, .int .i64 a0_1, .int .i64 a0_2, .int .i64 a0_3, .int .i64 a0_4] 57 (0, 0)) (zqB BK333.out)) : gb347 ≠ gb333)); have n8_ := zA ((by rw [hg]; exact Nat.ne_of_lt (blk_lt (g := gb334) (o := .cells #[.int .i64 a1_0, .int .i64 a1_1] 47 (0, 0)) (zqB BK334.out)) : gb334 ≠ gb347)); have n9_ := zA ((by rw [hg]; exact Nat.ne_of_gt (blk_lt (g := gb334) (o := .cells #[.int .i64 a1_0, .int .i64 a1_1] 47 (0, 0)) (zqB BK334.out)) : gb347 ≠ gb334)); clear BK333; clear BK334; clear HB; have BK333 := n0_; have BK334 := n1_; have HB := n2_; have BK347 := n3_; have GW347 := n4_; have GE347 := n5_; have NB333_347 := n6_; have NB347_333 := n7_; have NB334_347 := n8_; have NB347_334 := n9_; clear n0_ n1_ n2_ n3_ n4_ n5_ n6_ n7_ n8_ n9_; clear hb hbox hg; have hnb55 := NB347_333.out; have hnc55 := NB333_347.out; have hnb56 := NB347_334.out; have hnc56 := NB334_347.out; have hcz57_0 : w54.cell? ⟨gb347, 0, none⟩ = some (.int .i64 0) := (blk_cell BK347.out 0).trans rfl; have hcz57_1 : w54.cell? ⟨gb347, 1, none⟩ = some (.int .i64 0) := (blk_cell BK347.out 1).trans rfl; have hfz57_0 := blk_frozen BK347.out 0; have hfz57_1 := blk_frozen BK347.out 1; have p348 : 0 ≤ (x63_4 : Int) := of_decide_eq_true (zqD); have q348 : x63_4 < (l2.length : Int) := of_decide_eq_true (zqD); obtain ⟨ad348, e348, hx348_0, hx348_1⟩ := at_T47 HR2.out x63_4 p348 q348; cases e348; have hn348_0 : ad348.block ≠ gb347 := Nat.ne_of_lt (Nat.lt_of_lt_of_le (by have := World.block_lt_of_cell? _ _ hx348_0; first | rwa [add_block] at this | exact this) GW347.out); have hn348_1 : ad348.block ≠ gb347 := Nat.ne_of_lt (Nat.lt_of_lt_of_le (by have := World.block_lt_of_cell? _ _ hx348_0; first | rwa [add_block] at this | exact this) GW347.out); replace hx348_0 := (HB.out.cell (World.block_lt_of_cell? w _ hx348_0)).trans hx348_0; replace hx348_1 := (HB.out.cell (World.block_lt_of_cell? w _ hx348_1)).trans hx348_1; replace hx348_0 := (cell_far (p := ⟨gb347, 0, none⟩) (by first | (rw [add_block]; exact hn348_0) | (show (Addr.add _ _).block ≠ _; rw [add_block]; exact hn348_0) | exact hn348_0) (.int .i64 ((rd_T47 y342 x63_4).f0))).trans hx348_0; replace hx348_1 := (cell_far (p := ⟨gb347, 0, none⟩) (by first | (rw [add_block]; exact hn348_0) | (show (Addr.add _ _).block ≠ _; rw [add_block]; exact hn348_0) | exact hn348_0) (.int .i64 ((rd_T47 y342 x63_4).f0))).trans hx348_1; replace hx348_0 := (cell_far (p := ⟨gb347, 1, none⟩) (by first | (rw [add_block]; exact hn348_1) | (show (Addr.add _ _).block ≠ _; rw [add_block]; exact hn348_1) | exact hn348_1) (.int .i64 ((rd_T47 y342 x63_4).f1))).trans hx348_0; replace hx348_1 := (cell_far (p := ⟨gb347, 1, none⟩) (by first | (rw [add_block]; exact hn348_1) | (show (Addr.add _ _).block ≠ _; rw [add_block]; exact hn348_1) | exact hn348_1) (.int .i64 ((rd_T47 y342 x63_4).f1))).trans hx348_1; (try have hy348_0 := fun (n_ : Nat) => (show ((((w54.drewN n_).setCell ⟨gb347, 0, none⟩ (.int .i64 ((rd_T47 y342 x63_4).f0))).setCell ⟨gb347, 1, none⟩ (.int .i64 ((rd_T47 y342 x63_4).f1)))).cell? _ = some _ from hx348_0)); (try have hy348_1 := fun (n_ : Nat) => (show ((((w54.drewN n_).setCell ⟨gb347, 0, none⟩ (.int .i64 ((rd_T47 y342 x63_4).f0))).setCell ⟨gb347, 1, none⟩ (.int .i64 ((rd_T47 y342 x63_4).f1)))).cell? _ = some _ from hx348_1)); clear hn348_0; clear hn348_1; replace p348 := eq_true p348; replace q348 := eq_true q348)))
                    go_ret
                    exact ⟨zqR, zqI HB.out GE333.out GE334.out GE347.out⟩
                   ·
                    rw [if_neg c53] at H
                    have c53b0 : decide (((rd_T47 y342 x63_4).f0) ≤ ((rd_T47 l2 x63_4).f1)) = false := decide_eq_false c53
                    clear c53
                    have H' := zA H
                    clear H
                    have p346 : 0 ≤ (x63_4 : Int) := of_decide_eq_true (zqD)
                    have q346 : x63_4 < (y342.length : Int) := of_decide_eq_true (zqD)
                    obtain ⟨ad346, e346, hx346_0, hx346_1⟩ := at_T47 HR345.out x63_4 p346 q346
                    cases e346
                    replace hx346_0 := (HB.out.cell (World.block_lt_of_cell? w _ hx346_0)).trans hx346_0
                    replace hx346_1 := (HB.out.cell (World.block_lt_of_cell? w _ hx346_1)).trans hx346_1
                    replace p346 := eq_true p346; replace q346 := eq_true q346
                    go_wp2_with (first | ((with_reducible refine gate_dst (N := 10) rfl ?_); (try (refine gate_guard (by rfl) ?_; dsimp only)); refine box_event ?hg (N := 10) ?hd (cs := #[.int .i64 0, .int .i64 0]) (t := 47) ?hr ?_; (case hd => rfl); (case hg => rfl); (case hr => first | (go_simp; done) | (go_simp; rfl)); intro gb347 hg w58 hbox hb; have n0_ := zA (blk_below (g := gb333) (o := .cells #[.int .i64 a0_0, .int .i64 a0_1, .int .i64 a0_2, .int .i64 a0_3, .int .i64 a0_4] 57 (0, 0)) (zqB BK333.out) hb); have n1_ := zA (blk_below (g := gb334) (o := .cells #[.int .i64 a1_0, .int .i64 a1_1] 47 (0, 0)) (zqB BK334.out) hb); have n2_ := zA (below_step (zqH HB.out GE333.out GE334.out) hb); have n3_ := zA (hbox); have n4_ := zA ((by rw [hg]; exact (below_size (zqH HB.out GE333.out GE334.out)) : w.heap.size ≤ gb347)); have n5_ := zA ((by rw [hg]; exact (below_size (zqH HB.out GE333.out GE334.out)) : w.heap.size ≤ gb347)); have n6_ := zA ((by rw [hg]; exact Nat.ne_of_lt (blk_lt (g := gb333) (o := .cells #[.int .i64 a0_0, .int .i64 a0_1, .int .i64 a0_2, .int .i64 a0_3, .int .i64 a0_4] 57 (0, 0)) (zqB BK333.out)) : gb333 ≠ gb347)); have n7_ := zA ((by rw [hg]; exact Nat.ne_of_gt (blk_lt (g := gb333) (o := .cells #[.int .i64 a0_0, .int .i64 a0_1, .int .i64 a0_2, .int .i64 a0_3, .int .i64 a0_4] 57 (0, 0)) (zqB BK333.out)) : gb347 ≠ gb333)); have n8_ := zA ((by rw [hg]; exact Nat.ne_of_lt (blk_lt (g := gb334) (o := .cells #[.int .i64 a1_0, .int .i64 a1_1] 47 (0, 0)) (zqB BK334.out)) : gb334 ≠ gb347)); have n9_ := zA ((by rw [hg]; exact Nat.ne_of_gt (blk_lt (g := gb334) (o := .cells #[.int .i64 a1_0, .int .i64 a1_1] 47 (0, 0)) (zqB BK334.out)) : gb347 ≠ gb334)); clear BK333; clear BK334; clear HB; have BK333 := n0_; have BK334 := n1_; have HB := n2_; have BK347 := n3_; have GW347 := n4_; have GE347 := n5_; have NB333_347 := n6_; have NB347_333 := n7_; have NB334_347 := n8_; have NB347_334 := n9_; clear n0_ n1_ n2_ n3_ n4_ n5_ n6_ n7_ n8_ n9_; clear hb hbox hg; have hnb59 := NB347_333.out; have hnc59 := NB333_347.out; have hnb60 := NB347_334.out; have hnc60 := NB334_347.out; have hcz61_0 : w58.cell? ⟨gb347, 0, none⟩ = some (.int .i64 0) := (blk_cell BK347.out 0).trans rfl; have hcz61_1 : w58.cell? ⟨gb347, 1, none⟩ = some (.int .i64 0) := (blk_cell BK347.out 1).trans rfl; have hfz61_0 := blk_frozen BK347.out 0; have hfz61_1 := blk_frozen BK347.out 1; have p348 : 0 ≤ (x63_4 : Int) := of_decide_eq_true (zqD); have q348 : x63_4 < (l2.length : Int) := of_decide_eq_true (zqD); obtain ⟨ad348, e348, hx348_0, hx348_1⟩ := at_T47 HR2.out x63_4 p348 q348; cases e348; have hn348_0 : ad348.block ≠ gb347 := Nat.ne_of_lt (Nat.lt_of_lt_of_le (by have := World.block_lt_of_cell? _ _ hx348_0; first | rwa [add_block] at this | exact this) GW347.out); have hn348_1 : ad348.block ≠ gb347 := Nat.ne_of_lt (Nat.lt_of_lt_of_le (by have := World.block_lt_of_cell? _ _ hx348_0; first | rwa [add_block] at this | exact this) GW347.out); replace hx348_0 := (HB.out.cell (World.block_lt_of_cell? w _ hx348_0)).trans hx348_0; replace hx348_1 := (HB.out.cell (World.block_lt_of_cell? w _ hx348_1)).trans hx348_1; replace hx348_0 := (cell_far (p := ⟨gb347, 0, none⟩) (by first | (rw [add_block]; exact hn348_0) | (show (Addr.add _ _).block ≠ _; rw [add_block]; exact hn348_0) | exact hn348_0) (.int .i64 ((rd_T47 y342 x63_4).f0))).trans hx348_0; replace hx348_1 := (cell_far (p := ⟨gb347, 0, none⟩) (by first | (rw [add_block]; exact hn348_0) | (show (Addr.add _ _).block ≠ _; rw [add_block]; exact hn348_0) | exact hn348_0) (.int .i64 ((rd_T47 y342 x63_4).f0))).trans hx348_1; replace hx348_0 := (cell_far (p := ⟨gb347, 1, none⟩) (by first | (rw [add_block]; exact hn348_1) | (show (Addr.add _ _).block ≠ _; rw [add_block]; exact hn348_1) | exact hn348_1) (.int .i64 ((rd_T47 y342 x63_4).f1))).trans hx348_0; replace hx348_1 := (cell_far (p := ⟨gb347, 1, none⟩) (by first | (rw [add_block]; exact hn348_1) | (show (Addr.add _ _).block ≠ _; rw [add_block]; exact hn348_1) | exact hn348_1) (.int .i64 ((rd_T47 y342 x63_4).f1))).trans hx348_1; (try have hy348_0 := fun (n_ : Nat) => (show ((((w58.drewN n_).setCell ⟨gb347, 0, none⟩ (.int .i64 ((rd_T47 y342 x63_4).f0))).setCell ⟨gb347, 1, none⟩ (.int .i64 ((rd_T47 y342 x63_4).f1)))).cell? _ = some _ from hx348_0)); (try have hy348_1 := fun (n_ : Nat) => (show ((((w58.drewN n_).setCell ⟨gb347, 0, none⟩ (.int .i64 ((rd_T47 y342 x63_4).f0))).setCell ⟨gb347, 1, none⟩ (.int .i64 ((rd_T47 y342 x63_4).f1)))).cell? _ = some _ from hx348_1)); clear hn348_0; clear hn348_1; replace p348 := eq_true p348; replace q348 := eq_true q348))
                    repeat (go_quiet (first | ((with_reducible refine gate_dst (N := 10) rfl ?_); (try (refine gate_guard (by rfl) ?_; dsimp only)); refine box_event ?hg (N := 10) ?hd (cs := #[.int .i64 0, .int .i64 0]) (t := 47) ?hr ?_; (case hd => rfl); (case hg => rfl); (case hr => first | (go_simp; done) | (go_simp; rfl)); intro gb347 hg w58 hbox hb; have n0_ := zA (blk_below (g := gb333) (o := .cells #[.int .i64 a0_0, .int .i64 a0_1, .int .i64 a0_2, .int .i64 a0_3, .int .i64 a0_4] 57 (0, 0)) (zqB BK333.out) hb); have n1_ := zA (blk_below (g := gb334) (o := .cells #[.int .i64 a1_0, .int .i64 a1_1] 47 (0, 0)) (zqB BK334.out) hb); have n2_ := zA (below_step (zqH HB.out GE333.out GE334.out) hb); have n3_ := zA (hbox); have n4_ := zA ((by rw [hg]; exact (below_size (zqH HB.out GE333.out GE334.out)) : w.heap.size ≤ gb347)); have n5_ := zA ((by rw [hg]; exact (below_size (zqH HB.out GE333.out GE334.out)) : w.heap.size ≤ gb347)); have n6_ := zA ((by rw [hg]; exact Nat.ne_of_lt (blk_lt (g := gb333) (o := .cells #[.int .i64 a0_0, .int .i64 a0_1, .int .i64 a0_2, .int .i64 a0_3, .int .i64 a0_4] 57 (0, 0)) (zqB BK333.out)) : gb333 ≠ gb347)); have n7_ := zA ((by rw [hg]; exact Nat.ne_of_gt (blk_lt (g := gb333) (o := .cells #[.int .i64 a0_0, .int .i64 a0_1, .int .i64 a0_2, .int .i64 a0_3, .int .i64 a0_4] 57 (0, 0)) (zqB BK333.out)) : gb347 ≠ gb333)); have n8_ := zA ((by rw [hg]; exact Nat.ne_of_lt (blk_lt (g := gb334) (o := .cells #[.int .i64 a1_0, .int .i64 a1_1] 47 (0, 0)) (zqB BK334.out)) : gb334 ≠ gb347)); have n9_ := zA ((by rw [hg]; exact Nat.ne_of_gt (blk_lt (g := gb334) (o := .cells #[.int .i64 a1_0, .int .i64 a1_1] 47 (0, 0)) (zqB BK334.out)) : gb347 ≠ gb334)); clear BK333; clear BK334; clear HB; have BK333 := n0_; have BK334 := n1_; have HB := n2_; have BK347 := n3_; have GW347 := n4_; have GE347 := n5_; have NB333_347 := n6_; have NB347_333 := n7_; have NB334_347 := n8_; have NB347_334 := n9_; clear n0_ n1_ n2_ n3_ n4_ n5_ n6_ n7_ n8_ n9_; clear hb hbox hg; have hnb59 := NB347_333.out; have hnc59 := NB333_347.out; have hnb60 := NB347_334.out; have hnc60 := NB334_347.out; have hcz61_0 : w58.cell? ⟨gb347, 0, none⟩ = some (.int .i64 0) := (blk_cell BK347.out 0).trans rfl; have hcz61_1 : w58.cell? ⟨gb347, 1, none⟩ = some (.int .i64 0) := (blk_cell BK347.out 1).trans rfl; have hfz61_0 := blk_frozen BK347.out 0; have hfz61_1 := blk_frozen BK347.out 1; have p348 : 0 ≤ (x63_4 : Int) := of_decide_eq_true (zqD); have q348 : x63_4 < (l2.length : Int) := of_decide_eq_true (zqD); obtain ⟨ad348, e348, hx348_0, hx348_1⟩ := at_T47 HR2.out x63_4 p348 q348; cases e348; have hn348_0 : ad348.block ≠ gb347 := Nat.ne_of_lt (Nat.lt_of_lt_of_le (by have := World.block_lt_of_cell? _ _ hx348_0; first | rwa [add_block] at this | exact this) GW347.out); have hn348_1 : ad348.block ≠ gb347 := Nat.ne_of_lt (Nat.lt_of_lt_of_le (by have := World.block_lt_of_cell? _ _ hx348_0; first | rwa [add_block] at this | exact this) GW347.out); replace hx348_0 := (HB.out.cell (World.block_lt_of_cell? w _ hx348_0)).trans hx348_0; replace hx348_1 := (HB.out.cell (World.block_lt_of_cell? w _ hx348_1)).trans hx348_1; replace hx348_0 := (cell_far (p := ⟨gb347, 0, none⟩) (by first | (rw [add_block]; exact hn348_0) | (show (Addr.add _ _).block ≠ _; rw [add_block]; exact hn348_0) | exact hn348_0) (.int .i64 ((rd_T47 y342 x63_4).f0))).trans hx348_0; replace hx348_1 := (cell_far (p := ⟨gb347, 0, none⟩) (by first | (rw [add_block]; exact hn348_0) | (show (Addr.add _ _).block ≠ _; rw [add_block]; exact hn348_0) | exact hn348_0) (.int .i64 ((rd_T47 y342 x63_4).f0))).trans hx348_1; replace hx348_0 := (cell_far (p := ⟨gb347, 1, none⟩) (by first | (rw [add_block]; exact hn348_1) | (show (Addr.add _ _).block ≠ _; rw [add_block]; exact hn348_1) | exact hn348_1) (.int .i64 ((rd_T47 y342 x63_4).f1))).trans hx348_0; replace hx348_1 := (cell_far (p := ⟨gb347, 1, none⟩) (by first | (rw [add_block]; exact hn348_1) | (show (Addr.add _ _).block ≠ _; rw [add_block]; exact hn348_1) | exact hn348_1) (.int .i64 ((rd_T47 y342 x63_4).f1))).trans hx348_1; (try have hy348_0 := fun (n_ : Nat) => (show ((((w58.drewN n_).setCell ⟨gb347, 0, none⟩ (.int .i64 ((rd_T47 y342 x63_4).f0))).setCell ⟨gb347, 1, none⟩ (.int .i64 ((rd_T47 y342 x63_4).f1)))).cell? _ = some _ from hx348_0)); (try have hy348_1 := fun (n_ : Nat) => (show ((((w58.drewN n_).setCell ⟨gb347, 0, none⟩ (.int .i64 ((rd_T47 y342 x63_4).f0))).setCell ⟨gb347, 1, none⟩ (.int .i64 ((rd_T47 y342 x63_4).f1)))).cell? _ = some _ from hx348_1)); clear hn348_0; clear hn348_1; replace p348 := eq_true p348; replace q348 := eq_true q348)); try go_wp2_with (first | ((with_reducible refine gate_dst (N := 10) rfl ?_); (try (refine gate_guard (by rfl) ?_; dsimp only)); refine box_event ?hg (N := 10) ?hd (cs := #[.int .i64 0, .int .i64 0]) (t := 47) ?hr ?_; (case hd => rfl); (case hg => rfl); (case hr => first | (go_simp; done) | (go_simp; rfl)); intro gb347 hg w58 hbox hb; have n0_ := zA (blk_below (g := gb333) (o := .cells #[.int .i64 a0_0, .int .i64 a0_1, .int .i64 a0_2, .int .i64 a0_3, .int .i64 a0_4] 57 (0, 0)) (zqB BK333.out) hb); have n1_ := zA (blk_below (g := gb334) (o := .cells #[.int .i64 a1_0, .int .i64 a1_1] 47 (0, 0)) (zqB BK334.out) hb); have n2_ := zA (below_step (zqH HB.out GE333.out GE334.out) hb); have n3_ := zA (hbox); have n4_ := zA ((by rw [hg]; exact (below_size (zqH HB.out GE333.out GE334.out)) : w.heap.size ≤ gb347)); have n5_ := zA ((by rw [hg]; exact (below_size (zqH HB.out GE333.out GE334.out)) : w.heap.size ≤ gb347)); have n6_ := zA ((by rw [hg]; exact Nat.ne_of_lt (blk_lt (g := gb333) (o := .cells #[.int .i64 a0_0, .int .i64 a0_1, .int .i64 a0_2, .int .i64 a0_3, .int .i64 a0_4] 57 (0, 0)) (zqB BK333.out)) : gb333 ≠ gb347)); have n7_ := zA ((by rw [hg]; exact Nat.ne_of_gt (blk_lt (g := gb333) (o := .cells #[.int .i64 a0_0, .int .i64 a0_1, .int .i64 a0_2, .int .i64 a0_3, .int .i64 a0_4] 57 (0, 0)) (zqB BK333.out)) : gb347 ≠ gb333)); have n8_ := zA ((by rw [hg]; exact Nat.ne_of_lt (blk_lt (g := gb334) (o := .cells #[.int .i64 a1_0, .int .i64 a1_1] 47 (0, 0)) (zqB BK334.out)) : gb334 ≠ gb347)); have n9_ := zA ((by rw [hg]; exact Nat.ne_of_gt (blk_lt (g := gb334) (o := .cells #[.int .i64 a1_0, .int .i64 a1_1] 47 (0, 0)) (zqB BK334.out)) : gb347 ≠ gb334)); clear BK333; clear BK334; clear HB; have BK333 := n0_; have BK334 := n1_; have HB := n2_; have BK347 := n3_; have GW347 := n4_; have GE347 := n5_; have NB333_347 := n6_; have NB347_333 := n7_; have NB334_347 := n8_; have NB347_334 := n9_; clear n0_ n1_ n2_ n3_ n4_ n5_ n6_ n7_ n8_ n9_; clear hb hbox hg; have hnb59 := NB347_333.out; have hnc59 := NB333_347.out; have hnb60 := NB347_334.out; have hnc60 := NB334_347.out; have hcz61_0 : w58.cell? ⟨gb347, 0, none⟩ = some (.int .i64 0) := (blk_cell BK347.out 0).trans rfl; have hcz61_1 : w58.cell? ⟨gb347, 1, none⟩ = some (.int .i64 0) := (blk_cell BK347.out 1).trans rfl; have hfz61_0 := blk_frozen BK347.out 0; have hfz61_1 := blk_frozen BK347.out 1; have p348 : 0 ≤ (x63_4 : Int) := of_decide_eq_true (zqD); have q348 : x63_4 < (l2.length : Int) := of_decide_eq_true (zqD); obtain ⟨ad348, e348, hx348_0, hx348_1⟩ := at_T47 HR2.out x63_4 p348 q348; cases e348; have hn348_0 : ad348.block ≠ gb347 := Nat.ne_of_lt (Nat.lt_of_lt_of_le (by have := World.block_lt_of_cell? _ _ hx348_0; first | rwa [add_block] at this | exact this) GW347.out); have hn348_1 : ad348.block ≠ gb347 := Nat.ne_of_lt (Nat.lt_of_lt_of_le (by have := World.block_lt_of_cell? _ _ hx348_0; first | rwa [add_block] at this | exact this) GW347.out); replace hx348_0 := (HB.out.cell (World.block_lt_of_cell? w _ hx348_0)).trans hx348_0; replace hx348_1 := (HB.out.cell (World.block_lt_of_cell? w _ hx348_1)).trans hx348_1; replace hx348_0 := (cell_far (p := ⟨gb347, 0, none⟩) (by first | (rw [add_block]; exact hn348_0) | (show (Addr.add _ _).block ≠ _; rw [add_block]; exact hn348_0) | exact hn348_0) (.int .i64 ((rd_T47 y342 x63_4).f0))).trans hx348_0; replace hx348_1 := (cell_far (p := ⟨gb347, 0, none⟩) (by first | (rw [add_block]; exact hn348_0) | (show (Addr.add _ _).block ≠ _; rw [add_block]; exact hn348_0) | exact hn348_0) (.int .i64 ((rd_T47 y342 x63_4).f0))).trans hx348_1; replace hx348_0 := (cell_far (p := ⟨gb347, 1, none⟩) (by first | (rw [add_block]; exact hn348_1) | (show (Addr.add _ _).block ≠ _; rw [add_block]; exact hn348_1) | exact hn348_1) (.int .i64 ((rd_T47 y342 x63_4).f1))).trans hx348_0; replace hx348_1 := (cell_far (p := ⟨gb347, 1, none⟩) (by first | (rw [add_block]; exact hn348_1) | (show (Addr.add _ _).block ≠ _; rw [add_block]; exact hn348_1) | exact hn348_1) (.int .i64 ((rd_T47 y342 x63_4).f1))).trans hx348_1; (try have hy348_0 := fun (n_ : Nat) => (show ((((w58.drewN n_).setCell ⟨gb347, 0, none⟩ (.int .i64 ((rd_T47 y342 x63_4).f0))).setCell ⟨gb347, 1, none⟩ (.int .i64 ((rd_T47 y342 x63_4).f1)))).cell? _ = some _ from hx348_0)); (try have hy348_1 := fun (n_ : Nat) => (show ((((w58.drewN n_).setCell ⟨gb347, 0, none⟩ (.int .i64 ((rd_T47 y342 x63_4).f0))).setCell ⟨gb347, 1, none⟩ (.int .i64 ((rd_T47 y342 x63_4).f1)))).cell? _ = some _ from hx348_1)); clear hn348_0; clear hn348_1; replace p348 := eq_true p348; replace q348 := eq_true q348)))
                    go_roundg k4
                    case measure => have := HJ3.out; have := HK2.out; have := HJ35.out; have := HK4.out; omega
                    case rel => exact ⟨(wrap64 (x63_4 + 1)), zqQ, H', ⟨by have := HJ3.out; have := HK2.out; have := HJ35.out; have := HK4.out; omega⟩, ⟨by (with_reducible repeat (first | refine blk_drewN ?_ _ | refine blk_drew ?_ | refine blk_alloc ?_ _)); refine blk_far ?_ NB333_347.out _; (with_reducible repeat (first | refine blk_drewN ?_ _ | refine blk_drew ?_ | refine blk_alloc ?_ _)); refine blk_far ?_ NB333_347.out _; (with_reducible repeat (first | refine blk_drewN ?_ _ | refine blk_drew ?_ | refine blk_alloc ?_ _)); exact BK333.out⟩, ⟨by (with_reducible repeat (first | refine blk_drewN ?_ _ | refine blk_drew ?_ | refine blk_alloc ?_ _)); refine blk_far ?_ NB334_347.out _; (with_reducible repeat (first | refine blk_drewN ?_ _ | refine blk_drew ?_ | refine blk_alloc ?_ _)); refine blk_far ?_ NB334_347.out _; (with_reducible repeat (first | refine blk_drewN ?_ _ | refine blk_drew ?_ | refine blk_alloc ?_ _)); exact BK334.out⟩, ⟨zqI HB.out GE333.out GE334.out GE347.out⟩⟩
                  ·
                   rw [if_neg c52] at H
                   exact absurd H (by simp)
                 ·
                  rw [if_neg c51] at H
                  exact absurd H (by simp)
                ·
                 rw [if_neg c50] at H
                 exact absurd H (by simp)
               ·
                rw [if_neg c49] at H
                have c49b0 : decide (x63_4 < (y342.length : Int)) = false := decide_eq_false c49
                clear c49
                have H' := zA H
                clear H
                go_wp2
                repeat (go_quiet (fail); try go_wp2)
                go_loopg [79] k4 (fun kq v79 w' => ∃ (x79_5 : Int), v79 = .int .i64 x79_5 ∧ Aside0 (punch_Holds.l2 kq l2 l2 (l2.length : Int) x79_5 a0_0 a0_1 a0_2 a0_3 a0_4 = some r) ∧ Aside0 (kq ≤ k4) ∧ Aside0 (w'.heap[gb333]? = some (.cells #[.int .i64 a0_0, .int .i64 a0_1, .int .i64 a0_2, .int .i64 a0_3, .int .i64 a0_4] 57 (0, 0))) ∧ Aside0 (w'.heap[gb334]? = some (.cells #[.int .i64 a1_0, .int .i64 a1_1] 47 (0, 0))) ∧ Aside0 (Below w.heap.size w w'))
                case atStart => exact ⟨(0), zqQ, H', ⟨Nat.le_refl _⟩, ⟨zqB BK333.out⟩, ⟨zqB BK334.out⟩, ⟨zqH HB.out GE333.out GE334.out⟩⟩
                case round =>
                 clear H'
                 try clear c1
                 try clear c2
                 try clear p2
                 try clear c3
                 try clear p3
                 try clear q3
                 try clear hx3
                 try clear qi3
                 try clear c4
                 try clear q4
                 try clear c5
                 try clear c6
                 try clear p6
                 try clear c8
                 try clear c10
                 try clear c15
                 try clear c18
                 try clear c19
                 try clear c19b0
                 try clear c19b1
                 try clear c20
                 try clear c20b0
                 try clear c20b1
                 try clear c20b2
                 try clear c21
                 try clear c21b0
                 try clear c22
                 try clear c22b0
                 try clear c23
                 try clear c23b0
                 try clear c25
                 try clear c27
                 try clear c28
                 try clear c32
                 try clear c33
                 try clear p33
                 try clear q33
                 try clear hx33
                 try clear p34
                 try clear q34
                 try clear hx34
                 try clear qi34
                 try clear c35
                 try clear c37
                 try clear c37b0
                 try clear c37b1
                 try clear c38
                 try clear c38b0
                 try clear c38b1
                 try clear c40
                 try clear c40b0
                 try clear c41
                 try clear c41b0
                 try clear c42
                 try clear c44
                 try clear c46
                 try clear c47
                 try clear c47b0
                 try clear c47b1
                 try clear c48
                 try clear q48
                 try clear c49
                 try clear c49b0
                 try clear c50
                 try clear c50b0
                 try clear c51
                 try clear c51b0
                 try clear c52
                 try clear c52b0
                 try clear c53
                 try clear c53b0
                 try clear c55
                 try clear c56
                 try clear c59
                 try clear c60
                 try clear hcz11_0
                 try clear hcz11_1
                 try clear hcz11_2
                 try clear hcz11_3
                 try clear hcz11_4
                 try clear hcz13_0
                 try clear hcz13_1
                 try clear hcz16_0
                 try clear hcz16_1
                 try clear hcz16_2
                 try clear hcz16_3
                 try clear hcz16_4
                 try clear hcz29_0
                 try clear hcz29_1
                 try clear hcz34_0
                 try clear hcz34_1
                 try clear hcz43_0
                 try clear hcz43_1
                 try clear hcz45_0
                 try clear hcz45_1
                 try clear hcz57_0
                 try clear hcz57_1
                 try clear hcz61_0
                 try clear hcz61_1
                 try clear hfz11_0
                 try clear hfz11_1
                 try clear hfz11_2
                 try clear hfz11_3
                 try clear hfz11_4
                 try clear hfz13_0
                 try clear hfz13_1
                 try clear hfz16_0
                 try clear hfz16_1
                 try clear hfz16_2
                 try clear hfz16_3
                 try clear hfz16_4
                 try clear hfz29_0
                 try clear hfz29_1
                 try clear hfz34_0
                 try clear hfz34_1
                 try clear hfz43_0
                 try clear hfz43_1
                 try clear hfz45_0
                 try clear hfz45_1
                 try clear hfz57_0
                 try clear hfz57_1
                 try clear hfz61_0
                 try clear hfz61_1
                 try clear hx337_0
                 try clear hx337_1
                 try clear hx340_0
                 try clear hx340_1
                 try clear hx341_0
                 try clear hx341_1
                 try clear hx346_0
                 try clear hx346_1
                 try clear hx348_0
                 try clear hx348_1
                 try clear p2
                 try clear p3
                 try clear p33
                 try clear p337
                 try clear p34
                 try clear p340
                 try clear p341
                 try clear p346
                 try clear p348
                 try clear p6
                 try clear q3
                 try clear q33
                 try clear q337
                 try clear q34
                 try clear q340
                 try clear q341
                 try clear q346
                 try clear q348
                 try clear q4
                 try clear q48
                 obtain ⟨x79_5, rfl, HA, HK5, BK333, BK334, HB⟩ := hrel
                 cases gk with
                 | zero => exact absurd HA.out (by simp [punch_Holds.l2])
                 | succ k5 =>
                  have H := HA.out
                  clear HA
                  simp only [punch_Holds.l2] at H
                  by_cases c62 : x79_5 < (l2.length : Int)
                  ·
                   rw [if_pos c62] at H
                   have c62b0 : decide (x79_5 < (l2.length : Int)) = true := decide_eq_true c62
                   clear c62
                   by_cases c63 : 0 ≤ x79_5
                   ·
                    rw [if_pos c63] at H
                    have c63b0 : decide (0 ≤ x79_5) = true := decide_eq_true c63
                    clear c63
                    by_cases c64 : x79_5 < (l2.length : Int)
                    ·
                     rw [if_pos c64] at H
                     have c64b0 : decide (x79_5 < (l2.length : Int)) = true := decide_eq_true c64
                     clear c64
                     by_cases c65 : (wrap64 ((wrap64 (((rd_T47 l2 x79_5).f1) - ((rd_T47 l2 x79_5).f0))) * a0_1)) > (wrap64 (1000 * a0_2))
                     ·
                      rw [if_pos c65] at H
                      have c65b0 : decide ((wrap64 (1000 * a0_2)) < (wrap64 ((wrap64 (((rd_T47 l2 x79_5).f1) - ((rd_T47 l2 x79_5).f0))) * a0_1))) = true := decide_eq_true c65
                      clear c65
                      obtain rfl := Option.some.inj H
                      have p349 : 0 ≤ (x79_5 : Int) := of_decide_eq_true (zqD)
                      have q349 : x79_5 < (l2.length : Int) := of_decide_eq_true (zqD)
                      obtain ⟨ad349, e349, hx349_0, hx349_1⟩ := at_T47 HR2.out x79_5 p349 q349
                      cases e349
                      replace hx349_0 := (HB.out.cell (World.block_lt_of_cell? w _ hx349_0)).trans hx349_0
                      replace hx349_1 := (HB.out.cell (World.block_lt_of_cell? w _ hx349_1)).trans hx349_1
                      replace p349 := eq_true p349; replace q349 := eq_true q349
                      go_wp2_with (first | ((with_reducible refine gate_dst (N := 12) rfl ?_); (try (refine gate_guard (by rfl) ?_; dsimp only)); refine box_event ?hg (N := 12) ?hd (cs := #[.int .i64 0, .int .i64 0]) (t := 47) ?hr ?_; (case hd => rfl); (case hg => rfl); (case hr => first | (go_simp; done) | (go_simp; rfl)); intro gb350 hg w66 hbox hb; have n0_ := zA (blk_below (g := gb333) (o := .cells #[.int .i64 a0_0, .int .i64 a0_1, .int .i64 a0_2, .int .i64 a0_3, .int .i64 a0_4] 57 (0, 0)) (zqB BK333.out) hb); have n1_ := zA (blk_below (g := gb334) (o := .cells #[.int .i64 a1_0, .int .i64 a1_1] 47 (0, 0)) (zqB BK334.out) hb); have n2_ := zA (below_step (zqH HB.out GE333.out GE334.out) hb); have n3_ := zA (hbox); have n4_ := zA ((by rw [hg]; exact (below_size (zqH HB.out GE333.out GE334.out)) : w.heap.size ≤ gb350)); have n5_ := zA ((by rw [hg]; exact (below_size (zqH HB.out GE333.out GE334.out)) : w.heap.size ≤ gb350)); have n6_ := zA ((by rw [hg]; exact Nat.ne_of_lt (blk_lt (g := gb333) (o := .cells #[.int .i64 a0_0, .int .i64 a0_1, .int .i64 a0_2, .int .i64 a0_3, .int .i64 a0_4] 57 (0, 0)) (zqB BK333.out)) : gb333 ≠ gb350)); have n7_ := zA ((by rw [hg]; exact Nat.ne_of_gt (blk_lt (g := gb333) (o := .cells #[.int .i64 a0_0, .int .i64 a0_1, .int .i64 a0_2, .int .i64 a0_3, .int .i64 a0_4] 57 (0, 0)) (zqB BK333.out)) : gb350 ≠ gb333)); have n8_ := zA ((by rw [hg]; exact Nat.ne_of_lt (blk_lt (g := gb334) (o := .cells #[.int .i64 a1_0, .int .i64 a1_1] 47 (0, 0)) (zqB BK334.out)) : gb334 ≠ gb350)); have n9_ := zA ((by rw [hg]; exact Nat.ne_of_gt (blk_lt (g := gb334) (o := .cells #[.int .i64 a1_0, .int .i64 a1_1] 47 (0, 0)) (zqB BK334.out)) : gb350 ≠ gb334)); clear BK333; clear BK334; clear HB; have BK333 := n0_; have BK334 := n1_; have HB := n2_; have BK350 := n3_; have GW350 := n4_; have GE350 := n5_; have NB333_350 := n6_; have NB350_333 := n7_; have NB334_350 := n8_; have NB350_334 := n9_; clear n0_ n1_ n2_ n3_ n4_ n5_ n6_ n7_ n8_ n9_; clear hb hbox hg; have hnb67 := NB350_333.out; have hnc67 := NB333_350.out; have hnb68 := NB350_334.out; have hnc68 := NB334_350.out; have hcz69_0 : w66.cell? ⟨gb350, 0, none⟩ = some (.int .i64 0) := (blk_cell BK350.out 0).trans rfl; have hcz69_1 : w66.cell? ⟨gb350, 1, none⟩ = some (.int .i64 0) := (blk_cell BK350.out 1).trans rfl; have hfz69_0 := blk_frozen BK350.out 0; have hfz69_1 := blk_frozen BK350.out 1; have hnb70 := NB333_334.out; have hnc70 := NB334_333.out; have hcz71_0 : w66.cell? ⟨gb333, 0, none⟩ = some (.int .i64 a0_0) := (blk_cell BK333.out 0).trans rfl; have hcz71_1 : w66.cell? ⟨gb333, 1, none⟩ = some (.int .i64 a0_1) := (blk_cell BK333.out 1).trans rfl; have hcz71_2 : w66.cell? ⟨gb333, 2, none⟩ = some (.int .i64 a0_2) := (blk_cell BK333.out 2).trans rfl; have hcz71_3 : w66.cell? ⟨gb333, 3, none⟩ = some (.int .i64 a0_3) := (blk_cell BK333.out 3).trans rfl; have hcz71_4 : w66.cell? ⟨gb333, 4, none⟩ = some (.int .i64 a0_4) := (blk_cell BK333.out 4).trans rfl; have hfz71_0 := blk_frozen BK333.out 0; have hfz71_1 := blk_frozen BK333.out 1; have hfz71_2 := blk_frozen BK333.out 2; have hfz71_3 := blk_frozen BK333.out 3; have hfz71_4 := blk_frozen BK333.out 4))
                      repeat (go_quiet (first | ((with_reducible refine gate_dst (N := 12) rfl ?_); (try (refine gate_guard (by rfl) ?_; dsimp only)); refine box_event ?hg (N := 12) ?hd (cs := #[.int .i64 0, .int .i64 0]) (t := 47) ?hr ?_; (case hd => rfl); (case hg => rfl); (case hr => first | (go_simp; done) | (go_simp; rfl)); intro gb350 hg w66 hbox hb; have n0_ := zA (blk_below (g := gb333) (o := .cells #[.int .i64 a0_0, .int .i64 a0_1, .int .i64 a0_2, .int .i64 a0_3, .int .i64 a0_4] 57 (0, 0)) (zqB BK333.out) hb); have n1_ := zA (blk_below (g := gb334) (o := .cells #[.int .i64 a1_0, .int .i64 a1_1] 47 (0, 0)) (zqB BK334.out) hb); have n2_ := zA (below_step (zqH HB.out GE333.out GE334.out) hb); have n3_ := zA (hbox); have n4_ := zA ((by rw [hg]; exact (below_size (zqH HB.out GE333.out GE334.out)) : w.heap.size ≤ gb350)); have n5_ := zA ((by rw [hg]; exact (below_size (zqH HB.out GE333.out GE334.out)) : w.heap.size ≤ gb350)); have n6_ := zA ((by rw [hg]; exact Nat.ne_of_lt (blk_lt (g := gb333) (o := .cells #[.int .i64 a0_0, .int .i64 a0_1, .int .i64 a0_2, .int .i64 a0_3, .int .i64 a0_4] 57 (0, 0)) (zqB BK333.out)) : gb333 ≠ gb350)); have n7_ := zA ((by rw [hg]; exact Nat.ne_of_gt (blk_lt (g := gb333) (o := .cells #[.int .i64 a0_0, .int .i64 a0_1, .int .i64 a0_2, .int .i64 a0_3, .int .i64 a0_4] 57 (0, 0)) (zqB BK333.out)) : gb350 ≠ gb333)); have n8_ := zA ((by rw [hg]; exact Nat.ne_of_lt (blk_lt (g := gb334) (o := .cells #[.int .i64 a1_0, .int .i64 a1_1] 47 (0, 0)) (zqB BK334.out)) : gb334 ≠ gb350)); have n9_ := zA ((by rw [hg]; exact Nat.ne_of_gt (blk_lt (g := gb334) (o := .cells #[.int .i64 a1_0, .int .i64 a1_1] 47 (0, 0)) (zqB BK334.out)) : gb350 ≠ gb334)); clear BK333; clear BK334; clear HB; have BK333 := n0_; have BK334 := n1_; have HB := n2_; have BK350 := n3_; have GW350 := n4_; have GE350 := n5_; have NB333_350 := n6_; have NB350_333 := n7_; have NB334_350 := n8_; have NB350_334 := n9_; clear n0_ n1_ n2_ n3_ n4_ n5_ n6_ n7_ n8_ n9_; clear hb hbox hg; have hnb67 := NB350_333.out; have hnc67 := NB333_350.out; have hnb68 := NB350_334.out; have hnc68 := NB334_350.out; have hcz69_0 : w66.cell? ⟨gb350, 0, none⟩ = some (.int .i64 0) := (blk_cell BK350.out 0).trans rfl; have hcz69_1 : w66.cell? ⟨gb350, 1, none⟩ = some (.int .i64 0) := (blk_cell BK350.out 1).trans rfl; have hfz69_0 := blk_frozen BK350.out 0; have hfz69_1 := blk_frozen BK350.out 1; have hnb70 := NB333_334.out; have hnc70 := NB334_333.out; have hcz71_0 : w66.cell? ⟨gb333, 0, none⟩ = some (.int .i64 a0_0) := (blk_cell BK333.out 0).trans rfl; have hcz71_1 : w66.cell? ⟨gb333, 1, none⟩ = some (.int .i64 a0_1) := (blk_cell BK333.out 1).trans rfl; have hcz71_2 : w66.cell? ⟨gb333, 2, none⟩ = some (.int .i64 a0_2) := (blk_cell BK333.out 2).trans rfl; have hcz71_3 : w66.cell? ⟨gb333, 3, none⟩ = some (.int .i64 a0_3) := (blk_cell BK333.out 3).trans rfl; have hcz71_4 : w66.cell? ⟨gb333, 4, none⟩ = some (.int .i64 a0_4) := (blk_cell BK333.out 4).trans rfl; have hfz71_0 := blk_frozen BK333.out 0; have hfz71_1 := blk_frozen BK333.out 1; have hfz71_2 := blk_frozen BK333.out 2; have hfz71_3 := blk_frozen BK333.out 3; have hfz71_4 := blk_frozen BK333.out 4)); try go_wp2_with (first | ((with_reducible refine gate_dst (N := 12) rfl ?_); (try (refine gate_guard (by rfl) ?_; dsimp only)); refine box_event ?hg (N := 12) ?hd (cs := #[.int .i64 0, .int .i64 0]) (t := 47) ?hr ?_; (case hd => rfl); (case hg => rfl); (case hr => first | (go_simp; done) | (go_simp; rfl)); intro gb350 hg w66 hbox hb; have n0_ := zA (blk_below (g := gb333) (o := .cells #[.int .i64 a0_0, .int .i64 a0_1, .int .i64 a0_2, .int .i64 a0_3, .int .i64 a0_4] 57 (0, 0)) (zqB BK333.out) hb); have n1_ := zA (blk_below (g := gb334) (o := .cells #[.int .i64 a1_0, .int .i64 a1_1] 47 (0, 0)) (zqB BK334.out) hb); have n2_ := zA (below_step (zqH HB.out GE333.out GE334.out) hb); have n3_ := zA (hbox); have n4_ := zA ((by rw [hg]; exact (below_size (zqH HB.out GE333.out GE334.out)) : w.heap.size ≤ gb350)); have n5_ := zA ((by rw [hg]; exact (below_size (zqH HB.out GE333.out GE334.out)) : w.heap.size ≤ gb350)); have n6_ := zA ((by rw [hg]; exact Nat.ne_of_lt (blk_lt (g := gb333) (o := .cells #[.int .i64 a0_0, .int .i64 a0_1, .int .i64 a0_2, .int .i64 a0_3, .int .i64 a0_4] 57 (0, 0)) (zqB BK333.out)) : gb333 ≠ gb350)); have n7_ := zA ((by rw [hg]; exact Nat.ne_of_gt (blk_lt (g := gb333) (o := .cells #[.int .i64 a0_0, .int .i64 a0_1, .int .i64 a0_2, .int .i64 a0_3, .int .i64 a0_4] 57 (0, 0)) (zqB BK333.out)) : gb350 ≠ gb333)); have n8_ := zA ((by rw [hg]; exact Nat.ne_of_lt (blk_lt (g := gb334) (o := .cells #[.int .i64 a1_0, .int .i64 a1_1] 47 (0, 0)) (zqB BK334.out)) : gb334 ≠ gb350)); have n9_ := zA ((by rw [hg]; exact Nat.ne_of_gt (blk_lt (g := gb334) (o := .cells #[.int .i64 a1_0, .int .i64 a1_1] 47 (0, 0)) (zqB BK334.out)) : gb350 ≠ gb334)); clear BK333; clear BK334; clear HB; have BK333 := n0_; have BK334 := n1_; have HB := n2_; have BK350 := n3_; have GW350 := n4_; have GE350 := n5_; have NB333_350 := n6_; have NB350_333 := n7_; have NB334_350 := n8_; have NB350_334 := n9_; clear n0_ n1_ n2_ n3_ n4_ n5_ n6_ n7_ n8_ n9_; clear hb hbox hg; have hnb67 := NB350_333.out; have hnc67 := NB333_350.out; have hnb68 := NB350_334.out; have hnc68 := NB334_350.out; have hcz69_0 : w66.cell? ⟨gb350, 0, none⟩ = some (.int .i64 0) := (blk_cell BK350.out 0).trans rfl; have hcz69_1 : w66.cell? ⟨gb350, 1, none⟩ = some (.int .i64 0) := (blk_cell BK350.out 1).trans rfl; have hfz69_0 := blk_frozen BK350.out 0; have hfz69_1 := blk_frozen BK350.out 1; have hnb70 := NB333_334.out; have hnc70 := NB334_333.out; have hcz71_0 : w66.cell? ⟨gb333, 0, none⟩ = some (.int .i64 a0_0) := (blk_cell BK333.out 0).trans rfl; have hcz71_1 : w66.cell? ⟨gb333, 1, none⟩ = some (.int .i64 a0_1) := (blk_cell BK333.out 1).trans rfl; have hcz71_2 : w66.cell? ⟨gb333, 2, none⟩ = some (.int .i64 a0_2) := (blk_cell BK333.out 2).trans rfl; have hcz71_3 : w66.cell? ⟨gb333, 3, none⟩ = some (.int .i64 a0_3) := (blk_cell BK333.out 3).trans rfl; have hcz71_4 : w66.cell? ⟨gb333, 4, none⟩ = some (.int .i64 a0_4) := (blk_cell BK333.out 4).trans rfl; have hfz71_0 := blk_frozen BK333.out 0; have hfz71_1 := blk_frozen BK333.out 1; have hfz71_2 := blk_frozen BK333.out 2; have hfz71_3 := blk_frozen BK333.out 3; have hfz71_4 := blk_frozen BK333.out 4)))
                      go_ret
                      exact ⟨zqR, zqI HB.out GE333.out GE334.out GE350.out⟩
                     ·
                      rw [if_neg c65] at H
                      have c65b0 : decide ((wrap64 (1000 * a0_2)) < (wrap64 ((wrap64 (((rd_T47 l2 x79_5).f1) - ((rd_T47 l2 x79_5).f0))) * a0_1))) = false := decide_eq_false c65
                      clear c65
                      by_cases c72 : x79_5 = 0
                      ·
                       rw [if_pos c72] at H
                       have c72b0 : (x79_5 == 0) = true := beq_iff_eq.mpr c72
                       have c72b1 : (x79_5 != 0) = false := bne_eq_false_iff_eq.mpr c72
                       clear c72
                       have H' := zA H
                       clear H
                       have p349 : 0 ≤ (x79_5 : Int) := of_decide_eq_true (zqD)
                       have q349 : x79_5 < (l2.length : Int) := of_decide_eq_true (zqD)
                       obtain ⟨ad349, e349, hx349_0, hx349_1⟩ := at_T47 HR2.out x79_5 p349 q349
                       cases e349
                       replace hx349_0 := (HB.out.cell (World.block_lt_of_cell? w _ hx349_0)).trans hx349_0
                       replace hx349_1 := (HB.out.cell (World.block_lt_of_cell? w _ hx349_1)).trans hx349_1
                       replace p349 := eq_true p349; replace q349 := eq_true q349
                       go_wp2_with (first | ((with_reducible refine gate_dst (N := 12) rfl ?_); (try (refine gate_guard (by rfl) ?_; dsimp only)); refine box_event ?hg (N := 12) ?hd (cs := #[.int .i64 0, .int .i64 0]) (t := 47) ?hr ?_; (case hd => rfl); (case hg => rfl); (case hr => first | (go_simp; done) | (go_simp; rfl)); intro gb350 hg w73 hbox hb; have n0_ := zA (blk_below (g := gb333) (o := .cells #[.int .i64 a0_0, .int .i64 a0_1, .int .i64 a0_2, .int .i64 a0_3, .int .i64 a0_4] 57 (0, 0)) (zqB BK333.out) hb); have n1_ := zA (blk_below (g := gb334) (o := .cells #[.int .i64 a1_0, .int .i64 a1_1] 47 (0, 0)) (zqB BK334.out) hb); have n2_ := zA (below_step (zqH HB.out GE333.out GE334.out) hb); have n3_ := zA (hbox); have n4_ := zA ((by rw [hg]; exact (below_size (zqH HB.out GE333.out GE334.out)) : w.heap.size ≤ gb350)); have n5_ := zA ((by rw [hg]; exact (below_size (zqH HB.out GE333.out GE334.out)) : w.heap.size ≤ gb350)); have n6_ := zA ((by rw [hg]; exact Nat.ne_of_lt (blk_lt (g := gb333) (o := .cells #[.int .i64 a0_0, .int .i64 a0_1, .int .i64 a0_2, .int .i64 a0_3, .int .i64 a0_4] 57 (0, 0)) (zqB BK333.out)) : gb333 ≠ gb350)); have n7_ := zA ((by rw [hg]; exact Nat.ne_of_gt (blk_lt (g := gb333) (o := .cells #[.int .i64 a0_0, .int .i64 a0_1, .int .i64 a0_2, .int .i64 a0_3, .int .i64 a0_4] 57 (0, 0)) (zqB BK333.out)) : gb350 ≠ gb333)); have n8_ := zA ((by rw [hg]; exact Nat.ne_of_lt (blk_lt (g := gb334) (o := .cells #[.int .i64 a1_0, .int .i64 a1_1] 47 (0, 0)) (zqB BK334.out)) : gb334 ≠ gb350)); have n9_ := zA ((by rw [hg]; exact Nat.ne_of_gt (blk_lt (g := gb334) (o := .cells #[.int .i64 a1_0, .int .i64 a1_1] 47 (0, 0)) (zqB BK334.out)) : gb350 ≠ gb334)); clear BK333; clear BK334; clear HB; have BK333 := n0_; have BK334 := n1_; have HB := n2_; have BK350 := n3_; have GW350 := n4_; have GE350 := n5_; have NB333_350 := n6_; have NB350_333 := n7_; have NB334_350 := n8_; have NB350_334 := n9_; clear n0_ n1_ n2_ n3_ n4_ n5_ n6_ n7_ n8_ n9_; clear hb hbox hg; have hnb74 := NB350_333.out; have hnc74 := NB333_350.out; have hnb75 := NB350_334.out; have hnc75 := NB334_350.out; have hcz76_0 : w73.cell? ⟨gb350, 0, none⟩ = some (.int .i64 0) := (blk_cell BK350.out 0).trans rfl; have hcz76_1 : w73.cell? ⟨gb350, 1, none⟩ = some (.int .i64 0) := (blk_cell BK350.out 1).trans rfl; have hfz76_0 := blk_frozen BK350.out 0; have hfz76_1 := blk_frozen BK350.out 1; have hnb77 := NB333_334.out; have hnc77 := NB334_333.out; have hcz78_0 : w73.cell? ⟨gb333, 0, none⟩ = some (.int .i64 a0_0) := (blk_cell BK333.out 0).trans rfl; have hcz78_1 : w73.cell? ⟨gb333, 1, none⟩ = some (.int .i64 a0_1) := (blk_cell BK333.out 1).trans rfl; have hcz78_2 : w73.cell? ⟨gb333, 2, none⟩ = some (.int .i64 a0_2) := (blk_cell BK333.out 2).trans rfl; have hcz78_3 : w73.cell? ⟨gb333, 3, none⟩ = some (.int .i64 a0_3) := (blk_cell BK333.out 3).trans rfl; have hcz78_4 : w73.cell? ⟨gb333, 4, none⟩ = some (.int .i64 a0_4) := (blk_cell BK333.out 4).trans rfl; have hfz78_0 := blk_frozen BK333.out 0; have hfz78_1 := blk_frozen BK333.out 1; have hfz78_2 := blk_frozen BK333.out 2; have hfz78_3 := blk_frozen BK333.out 3; have hfz78_4 := blk_frozen BK333.out 4))
                       repeat (go_quiet (first | ((with_reducible refine gate_dst (N := 12) rfl ?_); (try (refine gate_guard (by rfl) ?_; dsimp only)); refine box_event ?hg (N := 12) ?hd (cs := #[.int .i64 0, .int .i64 0]) (t := 47) ?hr ?_; (case hd => rfl); (case hg => rfl); (case hr => first | (go_simp; done) | (go_simp; rfl)); intro gb350 hg w73 hbox hb; have n0_ := zA (blk_below (g := gb333) (o := .cells #[.int .i64 a0_0, .int .i64 a0_1, .int .i64 a0_2, .int .i64 a0_3, .int .i64 a0_4] 57 (0, 0)) (zqB BK333.out) hb); have n1_ := zA (blk_below (g := gb334) (o := .cells #[.int .i64 a1_0, .int .i64 a1_1] 47 (0, 0)) (zqB BK334.out) hb); have n2_ := zA (below_step (zqH HB.out GE333.out GE334.out) hb); have n3_ := zA (hbox); have n4_ := zA ((by rw [hg]; exact (below_size (zqH HB.out GE333.out GE334.out)) : w.heap.size ≤ gb350)); have n5_ := zA ((by rw [hg]; exact (below_size (zqH HB.out GE333.out GE334.out)) : w.heap.size ≤ gb350)); have n6_ := zA ((by rw [hg]; exact Nat.ne_of_lt (blk_lt (g := gb333) (o := .cells #[.int .i64 a0_0, .int .i64 a0_1, .int .i64 a0_2, .int .i64 a0_3, .int .i64 a0_4] 57 (0, 0)) (zqB BK333.out)) : gb333 ≠ gb350)); have n7_ := zA ((by rw [hg]; exact Nat.ne_of_gt (blk_lt (g := gb333) (o := .cells #[.int .i64 a0_0, .int .i64 a0_1, .int .i64 a0_2, .int .i64 a0_3, .int .i64 a0_4] 57 (0, 0)) (zqB BK333.out)) : gb350 ≠ gb333)); have n8_ := zA ((by rw [hg]; exact Nat.ne_of_lt (blk_lt (g := gb334) (o := .cells #[.int .i64 a1_0, .int .i64 a1_1] 47 (0, 0)) (zqB BK334.out)) : gb334 ≠ gb350)); have n9_ := zA ((by rw [hg]; exact Nat.ne_of_gt (blk_lt (g := gb334) (o := .cells #[.int .i64 a1_0, .int .i64 a1_1] 47 (0, 0)) (zqB BK334.out)) : gb350 ≠ gb334)); clear BK333; clear BK334; clear HB; have BK333 := n0_; have BK334 := n1_; have HB := n2_; have BK350 := n3_; have GW350 := n4_; have GE350 := n5_; have NB333_350 := n6_; have NB350_333 := n7_; have NB334_350 := n8_; have NB350_334 := n9_; clear n0_ n1_ n2_ n3_ n4_ n5_ n6_ n7_ n8_ n9_; clear hb hbox hg; have hnb74 := NB350_333.out; have hnc74 := NB333_350.out; have hnb75 := NB350_334.out; have hnc75 := NB334_350.out; have hcz76_0 : w73.cell? ⟨gb350, 0, none⟩ = some (.int .i64 0) := (blk_cell BK350.out 0).trans rfl; have hcz76_1 : w73.cell? ⟨gb350, 1, none⟩ = some (.int .i64 0) := (blk_cell BK350.out 1).trans rfl; have hfz76_0 := blk_frozen BK350.out 0; have hfz76_1 := blk_frozen BK350.out 1; have hnb77 := NB333_334.out; have hnc77 := NB334_333.out; have hcz78_0 : w73.cell? ⟨gb333, 0, none⟩ = some (.int .i64 a0_0) := (blk_cell BK333.out 0).trans rfl; have hcz78_1 : w73.cell? ⟨gb333, 1, none⟩ = some (.int .i64 a0_1) := (blk_cell BK333.out 1).trans rfl; have hcz78_2 : w73.cell? ⟨gb333, 2, none⟩ = some (.int .i64 a0_2) := (blk_cell BK333.out 2).trans rfl; have hcz78_3 : w73.cell? ⟨gb333, 3, none⟩ = some (.int .i64 a0_3) := (blk_cell BK333.out 3).trans rfl; have hcz78_4 : w73.cell? ⟨gb333, 4, none⟩ = some (.int .i64 a0_4) := (blk_cell BK333.out 4).trans rfl; have hfz78_0 := blk_frozen BK333.out 0; have hfz78_1 := blk_frozen BK333.out 1; have hfz78_2 := blk_frozen BK333.out 2; have hfz78_3 := blk_frozen BK333.out 3; have hfz78_4 := blk_frozen BK333.out 4)); try go_wp2_with (first | ((with_reducible refine gate_dst (N := 12) rfl ?_); (try (refine gate_guard (by rfl) ?_; dsimp only)); refine box_event ?hg (N := 12) ?hd (cs := #[.int .i64 0, .int .i64 0]) (t := 47) ?hr ?_; (case hd => rfl); (case hg => rfl); (case hr => first | (go_simp; done) | (go_simp; rfl)); intro gb350 hg w73 hbox hb; have n0_ := zA (blk_below (g := gb333) (o := .cells #[.int .i64 a0_0, .int .i64 a0_1, .int .i64 a0_2, .int .i64 a0_3, .int .i64 a0_4] 57 (0, 0)) (zqB BK333.out) hb); have n1_ := zA (blk_below (g := gb334) (o := .cells #[.int .i64 a1_0, .int .i64 a1_1] 47 (0, 0)) (zqB BK334.out) hb); have n2_ := zA (below_step (zqH HB.out GE333.out GE334.out) hb); have n3_ := zA (hbox); have n4_ := zA ((by rw [hg]; exact (below_size (zqH HB.out GE333.out GE334.out)) : w.heap.size ≤ gb350)); have n5_ := zA ((by rw [hg]; exact (below_size (zqH HB.out GE333.out GE334.out)) : w.heap.size ≤ gb350)); have n6_ := zA ((by rw [hg]; exact Nat.ne_of_lt (blk_lt (g := gb333) (o := .cells #[.int .i64 a0_0, .int .i64 a0_1, .int .i64 a0_2, .int .i64 a0_3, .int .i64 a0_4] 57 (0, 0)) (zqB BK333.out)) : gb333 ≠ gb350)); have n7_ := zA ((by rw [hg]; exact Nat.ne_of_gt (blk_lt (g := gb333) (o := .cells #[.int .i64 a0_0, .int .i64 a0_1, .int .i64 a0_2, .int .i64 a0_3, .int .i64 a0_4] 57 (0, 0)) (zqB BK333.out)) : gb350 ≠ gb333)); have n8_ := zA ((by rw [hg]; exact Nat.ne_of_lt (blk_lt (g := gb334) (o := .cells #[.int .i64 a1_0, .int .i64 a1_1] 47 (0, 0)) (zqB BK334.out)) : gb334 ≠ gb350)); have n9_ := zA ((by rw [hg]; exact Nat.ne_of_gt (blk_lt (g := gb334) (o := .cells #[.int .i64 a1_0, .int .i64 a1_1] 47 (0, 0)) (zqB BK334.out)) : gb350 ≠ gb334)); clear BK333; clear BK334; clear HB; have BK333 := n0_; have BK334 := n1_; have HB := n2_; have BK350 := n3_; have GW350 := n4_; have GE350 := n5_; have NB333_350 := n6_; have NB350_333 := n7_; have NB334_350 := n8_; have NB350_334 := n9_; clear n0_ n1_ n2_ n3_ n4_ n5_ n6_ n7_ n8_ n9_; clear hb hbox hg; have hnb74 := NB350_333.out; have hnc74 := NB333_350.out; have hnb75 := NB350_334.out; have hnc75 := NB334_350.out; have hcz76_0 : w73.cell? ⟨gb350, 0, none⟩ = some (.int .i64 0) := (blk_cell BK350.out 0).trans rfl; have hcz76_1 : w73.cell? ⟨gb350, 1, none⟩ = some (.int .i64 0) := (blk_cell BK350.out 1).trans rfl; have hfz76_0 := blk_frozen BK350.out 0; have hfz76_1 := blk_frozen BK350.out 1; have hnb77 := NB333_334.out; have hnc77 := NB334_333.out; have hcz78_0 : w73.cell? ⟨gb333, 0, none⟩ = some (.int .i64 a0_0) := (blk_cell BK333.out 0).trans rfl; have hcz78_1 : w73.cell? ⟨gb333, 1, none⟩ = some (.int .i64 a0_1) := (blk_cell BK333.out 1).trans rfl; have hcz78_2 : w73.cell? ⟨gb333, 2, none⟩ = some (.int .i64 a0_2) := (blk_cell BK333.out 2).trans rfl; have hcz78_3 : w73.cell? ⟨gb333, 3, none⟩ = some (.int .i64 a0_3) := (blk_cell BK333.out 3).trans rfl; have hcz78_4 : w73.cell? ⟨gb333, 4, none⟩ = some (.int .i64 a0_4) := (blk_cell BK333.out 4).trans rfl; have hfz78_0 := blk_frozen BK333.out 0; have hfz78_1 := blk_frozen BK333.out 1; have hfz78_2 := blk_frozen BK333.out 2; have hfz78_3 := blk_frozen BK333.out 3; have hfz78_4 := blk_frozen BK333.out 4)))
                       go_roundg k5
                       case measure => have := HJ3.out; have := HK2.out; have := HJ35.out; have := HK4.out; have := HK5.out; omega
                       case rel => exact ⟨(wrap64 (x79_5 + 1)), zqQ, H', ⟨by have := HJ3.out; have := HK2.out; have := HJ35.out; have := HK4.out; have := HK5.out; omega⟩, ⟨by (with_reducible repeat (first | refine blk_drewN ?_ _ | refine blk_drew ?_ | refine blk_alloc ?_ _)); refine blk_far ?_ NB333_350.out _; (with_reducible repeat (first | refine blk_drewN ?_ _ | refine blk_drew ?_ | refine blk_alloc ?_ _)); refine blk_far ?_ NB333_350.out _; (with_reducible repeat (first | refine blk_drewN ?_ _ | refine blk_drew ?_ | refine blk_alloc ?_ _)); exact BK333.out⟩, ⟨by (with_reducible repeat (first | refine blk_drewN ?_ _ | refine blk_drew ?_ | refine blk_alloc ?_ _)); refine blk_far ?_ NB334_350.out _; (with_reducible repeat (first | refine blk_drewN ?_ _ | refine blk_drew ?_ | refine blk_alloc ?_ _)); refine blk_far ?_ NB334_350.out _; (with_reducible repeat (first | refine blk_drewN ?_ _ | refine blk_drew ?_ | refine blk_alloc ?_ _)); exact BK334.out⟩, ⟨zqI HB.out GE333.out GE334.out GE350.out⟩⟩
                      ·
                       rw [if_neg c72] at H
                       have c72b0 : (x79_5 == 0) = false := beq_eq_false_iff_ne.mpr c72
                       have c72b1 : (x79_5 != 0) = true := bne_iff_ne.mpr c72
                       obtain ⟨ji79, hji79⟩ : ∃ j_ : Int, (wrap64 (x79_5 - 1)) = j_ := ⟨_, rfl⟩
                       replace H : (if 0 ≤ (ji79) then (if (ji79) < (l2.length : Int) then (if (wrap64 ((wrap64 (((rd_T47 l2 x79_5).f0) - ((rd_T47 l2 (ji79)).f1))) * a0_0)) < (wrap64 (1000 * a0_3)) then (some 21) else (if (wrap64 ((wrap64 (((rd_T47 l2 x79_5).f0) - ((rd_T47 l2 (ji79)).f1))) * a0_1)) ≥ (wrap64 (1000 * a0_4)) then (some 21) else (punch_Holds.l2 k5 l2 l2 (l2.length : Int) (wrap64 (x79_5 + 1)) a0_0 a0_1 a0_2 a0_3 a0_4))) else (none)) else (none)) = some r := by first | (rw [hji79] at H; exact H) | (simp only [hji79] at H ⊢; exact H)
                       have hji79w : (IntKind.i64.wrap (x79_5 - 1)) = ji79 := (i64_w _).trans hji79
                       by_cases c80 : 0 ≤ (ji79)
                       ·
                        rw [if_pos c80] at H
                        have c80b0 : decide (0 ≤ (ji79)) = true := decide_eq_true c80
                        clear c80
                        by_cases c81 : (ji79) < (l2.length : Int)
                        ·
                         rw [if_pos c81] at H
                         have c81b0 : decide ((ji79) < (l2.length : Int)) = true := decide_eq_true c81
                         clear c81
                         by_cases c82 : (wrap64 ((wrap64 (((rd_T47 l2 x79_5).f0) - ((rd_T47 l2 (ji79)).f1))) * a0_0)) < (wrap64 (1000 * a0_3))
                         ·
                          rw [if_pos c82] at H
                          have c82b0 : decide ((wrap64 ((wrap64 (((rd_T47 l2 x79_5).f0) - ((rd_T47 l2 (ji79)).f1))) * a0_0)) < (wrap64 (1000 * a0_3))) = true := decide_eq_true c82
                          clear c82
                          obtain rfl := Option.some.inj H
                          have p349 : 0 ≤ (x79_5 : Int) := of_decide_eq_true (zqD)
                          have q349 : x79_5 < (l2.length : Int) := of_decide_eq_true (zqD)
                          obtain ⟨ad349, e349, hx349_0, hx349_1⟩ := at_T47 HR2.out x79_5 p349 q349
                          cases e349
                          replace hx349_0 := (HB.out.cell (World.block_lt_of_cell? w _ hx349_0)).trans hx349_0
                          replace hx349_1 := (HB.out.cell (World.block_lt_of_cell? w _ hx349_1)).trans hx349_1
                          replace p349 := eq_true p349; replace q349 := eq_true q349
                          go_wp2_with (first | ((with_reducible refine gate_dst (N := 12) rfl ?_); (try (refine gate_guard (by rfl) ?_; dsimp only)); refine box_event ?hg (N := 12) ?hd (cs := #[.int .i64 0, .int .i64 0]) (t := 47) ?hr ?_; (case hd => rfl); (case hg => rfl); (case hr => first | (go_simp; done) | (go_simp; rfl)); intro gb350 hg w83 hbox hb; have n0_ := zA (blk_below (g := gb333) (o := .cells #[.int .i64 a0_0, .int .i64 a0_1, .int .i64 a0_2, .int .i64 a0_3, .int .i64 a0_4] 57 (0, 0)) (zqB BK333.out) hb); have n1_ := zA (blk_below (g := gb334) (o := .cells #[.int .i64 a1_0, .int .i64 a1_1] 47 (0, 0)) (zqB BK334.out) hb); have n2_ := zA (below_step (zqH HB.out GE333.out GE334.out) hb); have n3_ := zA (hbox); have n4_ := zA ((by rw [hg]; exact (below_size (zqH HB.out GE333.out GE334.out)) : w.heap.size ≤ gb350)); have n5_ := zA ((by rw [hg]; exact (below_size (zqH HB.out GE333.out GE334.out)) : w.heap.size ≤ gb350)); have n6_ := zA ((by rw [hg]; exact Nat.ne_of_lt (blk_lt (g := gb333) (o := .cells #[.int .i64 a0_0, .int .i64 a0_1, .int .i64 a0_2, .int .i64 a0_3, .int .i64 a0_4] 57 (0, 0)) (zqB BK333.out)) : gb333 ≠ gb350)); have n7_ := zA ((by rw [hg]; exact Nat.ne_of_gt (blk_lt (g := gb333) (o := .cells #[.int .i64 a0_0, .int .i64 a0_1, .int .i64 a0_2, .int .i64 a0_3, .int .i64 a0_4] 57 (0, 0)) (zqB BK333.out)) : gb350 ≠ gb333)); have n8_ := zA ((by rw [hg]; exact Nat.ne_of_lt (blk_lt (g := gb334) (o := .cells #[.int .i64 a1_0, .int .i64 a1_1] 47 (0, 0)) (zqB BK334.out)) : gb334 ≠ gb350)); have n9_ := zA ((by rw [hg]; exact Nat.ne_of_gt (blk_lt (g := gb334) (o := .cells #[.int .i64 a1_0, .int .i64 a1_1] 47 (0, 0)) (zqB BK334.out)) : gb350 ≠ gb334)); clear BK333; clear BK334; clear HB; have BK333 := n0_; have BK334 := n1_; have HB := n2_; have BK350 := n3_; have GW350 := n4_; have GE350 := n5_; have NB333_350 := n6_; have NB350_333 := n7_; have NB334_350 := n8_; have NB350_334 := n9_; clear n0_ n1_ n2_ n3_ n4_ n5_ n6_ n7_ n8_ n9_; clear hb hbox hg; have hnb84 := NB350_333.out; have hnc84 := NB333_350.out; have hnb85 := NB350_334.out; have hnc85 := NB334_350.out; have hcz86_0 : w83.cell? ⟨gb350, 0, none⟩ = some (.int .i64 0) := (blk_cell BK350.out 0).trans rfl; have hcz86_1 : w83.cell? ⟨gb350, 1, none⟩ = some (.int .i64 0) := (blk_cell BK350.out 1).trans rfl; have hfz86_0 := blk_frozen BK350.out 0; have hfz86_1 := blk_frozen BK350.out 1; have hnb87 := NB333_334.out; have hnc87 := NB334_333.out; have hcz88_0 : w83.cell? ⟨gb333, 0, none⟩ = some (.int .i64 a0_0) := (blk_cell BK333.out 0).trans rfl; have hcz88_1 : w83.cell? ⟨gb333, 1, none⟩ = some (.int .i64 a0_1) := (blk_cell BK333.out 1).trans rfl; have hcz88_2 : w83.cell? ⟨gb333, 2, none⟩ = some (.int .i64 a0_2) := (blk_cell BK333.out 2).trans rfl; have hcz88_3 : w83.cell? ⟨gb333, 3, none⟩ = some (.int .i64 a0_3) := (blk_cell BK333.out 3).trans rfl; have hcz88_4 : w83.cell? ⟨gb333, 4, none⟩ = some (.int .i64 a0_4) := (blk_cell BK333.out 4).trans rfl; have hfz88_0 := blk_frozen BK333.out 0; have hfz88_1 := blk_frozen BK333.out 1; have hfz88_2 := blk_frozen BK333.out 2; have hfz88_3 := blk_frozen BK333.out 3; have hfz88_4 := blk_frozen BK333.out 4; have p351 : 0 ≤ ((ji79) : Int) := of_decide_eq_true (zqD); have q351 : (ji79) < (l2.length : Int) := of_decide_eq_true (zqD); obtain ⟨ad351, e351, hx351_0, hx351_1⟩ := at_T47 HR2.out (ji79) p351 q351; obtain rfl : ad349 = ad351 := (by injection e351); have hn351_0 : ad349.block ≠ gb350 := Nat.ne_of_lt (Nat.lt_of_lt_of_le (by have := World.block_lt_of_cell? _ _ hx351_0; first | rwa [add_block] at this | exact this) GW350.out); have hn351_1 : ad349.block ≠ gb350 := Nat.ne_of_lt (Nat.lt_of_lt_of_le (by have := World.block_lt_of_cell? _ _ hx351_0; first | rwa [add_block] at this | exact this) GW350.out); replace hx351_0 := (HB.out.cell (World.block_lt_of_cell? w _ hx351_0)).trans hx351_0; replace hx351_1 := (HB.out.cell (World.block_lt_of_cell? w _ hx351_1)).trans hx351_1; replace hx351_0 := (cell_far (p := ⟨gb350, 0, none⟩) (by first | (rw [add_block]; exact hn351_0) | (show (Addr.add _ _).block ≠ _; rw [add_block]; exact hn351_0) | exact hn351_0) (.int .i64 ((rd_T47 l2 x79_5).f0))).trans hx351_0; replace hx351_1 := (cell_far (p := ⟨gb350, 0, none⟩) (by first | (rw [add_block]; exact hn351_0) | (show (Addr.add _ _).block ≠ _; rw [add_block]; exact hn351_0) | exact hn351_0) (.int .i64 ((rd_T47 l2 x79_5).f0))).trans hx351_1; replace hx351_0 := (cell_far (p := ⟨gb350, 1, none⟩) (by first | (rw [add_block]; exact hn351_1) | (show (Addr.add _ _).block ≠ _; rw [add_block]; exact hn351_1) | exact hn351_1) (.int .i64 ((rd_T47 l2 x79_5).f1))).trans hx351_0; replace hx351_1 := (cell_far (p := ⟨gb350, 1, none⟩) (by first | (rw [add_block]; exact hn351_1) | (show (Addr.add _ _).block ≠ _; rw [add_block]; exact hn351_1) | exact hn351_1) (.int .i64 ((rd_T47 l2 x79_5).f1))).trans hx351_1; (try have hy351_0 := fun (n_ : Nat) => (show ((((w83.drewN n_).setCell ⟨gb350, 0, none⟩ (.int .i64 ((rd_T47 l2 x79_5).f0))).setCell ⟨gb350, 1, none⟩ (.int .i64 ((rd_T47 l2 x79_5).f1)))).cell? _ = some _ from hx351_0)); (try have hy351_1 := fun (n_ : Nat) => (show ((((w83.drewN n_).setCell ⟨gb350, 0, none⟩ (.int .i64 ((rd_T47 l2 x79_5).f0))).setCell ⟨gb350, 1, none⟩ (.int .i64 ((rd_T47 l2 x79_5).f1)))).cell? _ = some _ from hx351_1)); clear hn351_0; clear hn351_1; replace p351 := eq_true p351; replace q351 := eq_true q351))
                          repeat (go_quiet (first | ((with_reducible refine gate_dst (N := 12) rfl ?_); (try (refine gate_guard (by rfl) ?_; dsimp only)); refine box_event ?hg (N := 12) ?hd (cs := #[.int .i64 0, .int .i64 0]) (t := 47) ?hr ?_; (case hd => rfl); (case hg => rfl); (case hr => first | (go_simp; done) | (go_simp; rfl)); intro gb350 hg w83 hbox hb; have n0_ := zA (blk_below (g := gb333) (o := .cells #[.int .i64 a0_0, .int .i64 a0_1, .int .i64 a0_2, .int .i64 a0_3, .int .i64 a0_4] 57 (0, 0)) (zqB BK333.out) hb); have n1_ := zA (blk_below (g := gb334) (o := .cells #[.int .i64 a1_0, .int .i64 a1_1] 47 (0, 0)) (zqB BK334.out) hb); have n2_ := zA (below_step (zqH HB.out GE333.out GE334.out) hb); have n3_ := zA (hbox); have n4_ := zA ((by rw [hg]; exact (below_size (zqH HB.out GE333.out GE334.out)) : w.heap.size ≤ gb350)); have n5_ := zA ((by rw [hg]; exact (below_size (zqH HB.out GE333.out GE334.out)) : w.heap.size ≤ gb350)); have n6_ := zA ((by rw [hg]; exact Nat.ne_of_lt (blk_lt (g := gb333) (o := .cells #[.int .i64 a0_0, .int .i64 a0_1, .int .i64 a0_2, .int .i64 a0_3, .int .i64 a0_4] 57 (0, 0)) (zqB BK333.out)) : gb333 ≠ gb350)); have n7_ := zA ((by rw [hg]; exact Nat.ne_of_gt (blk_lt (g := gb333) (o := .cells #[.int .i64 a0_0, .int .i64 a0_1, .int .i64 a0_2, .int .i64 a0_3, .int .i64 a0_4] 57 (0, 0)) (zqB BK333.out)) : gb350 ≠ gb333)); have n8_ := zA ((by rw [hg]; exact Nat.ne_of_lt (blk_lt (g := gb334) (o := .cells #[.int .i64 a1_0, .int .i64 a1_1] 47 (0, 0)) (zqB BK334.out)) : gb334 ≠ gb350)); have n9_ := zA ((by rw [hg]; exact Nat.ne_of_gt (blk_lt (g := gb334) (o := .cells #[.int .i64 a1_0, .int .i64 a1_1] 47 (0, 0)) (zqB BK334.out)) : gb350 ≠ gb334)); clear BK333; clear BK334; clear HB; have BK333 := n0_; have BK334 := n1_; have HB := n2_; have BK350 := n3_; have GW350 := n4_; have GE350 := n5_; have NB333_350 := n6_; have NB350_333 := n7_; have NB334_350 := n8_; have NB350_334 := n9_; clear n0_ n1_ n2_ n3_ n4_ n5_ n6_ n7_ n8_ n9_; clear hb hbox hg; have hnb84 := NB350_333.out; have hnc84 := NB333_350.out; have hnb85 := NB350_334.out; have hnc85 := NB334_350.out; have hcz86_0 : w83.cell? ⟨gb350, 0, none⟩ = some (.int .i64 0) := (blk_cell BK350.out 0).trans rfl; have hcz86_1 : w83.cell? ⟨gb350, 1, none⟩ = some (.int .i64 0) := (blk_cell BK350.out 1).trans rfl; have hfz86_0 := blk_frozen BK350.out 0; have hfz86_1 := blk_frozen BK350.out 1; have hnb87 := NB333_334.out; have hnc87 := NB334_333.out; have hcz88_0 : w83.cell? ⟨gb333, 0, none⟩ = some (.int .i64 a0_0) := (blk_cell BK333.out 0).trans rfl; have hcz88_1 : w83.cell? ⟨gb333, 1, none⟩ = some (.int .i64 a0_1) := (blk_cell BK333.out 1).trans rfl; have hcz88_2 : w83.cell? ⟨gb333, 2, none⟩ = some (.int .i64 a0_2) := (blk_cell BK333.out 2).trans rfl; have hcz88_3 : w83.cell? ⟨gb333, 3, none⟩ = some (.int .i64 a0_3) := (blk_cell BK333.out 3).trans rfl; have hcz88_4 : w83.cell? ⟨gb333, 4, none⟩ = some (.int .i64 a0_4) := (blk_cell BK333.out 4).trans rfl; have hfz88_0 := blk_frozen BK333.out 0; have hfz88_1 := blk_frozen BK333.out 1; have hfz88_2 := blk_frozen BK333.out 2; have hfz88_3 := blk_frozen BK333.out 3; have hfz88_4 := blk_frozen BK333.out 4; have p351 : 0 ≤ ((ji79) : Int) := of_decide_eq_true (zqD); have q351 : (ji79) < (l2.length : Int) := of_decide_eq_true (zqD); obtain ⟨ad351, e351, hx351_0, hx351_1⟩ := at_T47 HR2.out (ji79) p351 q351; obtain rfl : ad349 = ad351 := (by injection e351); have hn351_0 : ad349.block ≠ gb350 := Nat.ne_of_lt (Nat.lt_of_lt_of_le (by have := World.block_lt_of_cell? _ _ hx351_0; first | rwa [add_block] at this | exact this) GW350.out); have hn351_1 : ad349.block ≠ gb350 := Nat.ne_of_lt (Nat.lt_of_lt_of_le (by have := World.block_lt_of_cell? _ _ hx351_0; first | rwa [add_block] at this | exact this) GW350.out); replace hx351_0 := (HB.out.cell (World.block_lt_of_cell? w _ hx351_0)).trans hx351_0; replace hx351_1 := (HB.out.cell (World.block_lt_of_cell? w _ hx351_1)).trans hx351_1; replace hx351_0 := (cell_far (p := ⟨gb350, 0, none⟩) (by first | (rw [add_block]; exact hn351_0) | (show (Addr.add _ _).block ≠ _; rw [add_block]; exact hn351_0) | exact hn351_0) (.int .i64 ((rd_T47 l2 x79_5).f0))).trans hx351_0; replace hx351_1 := (cell_far (p := ⟨gb350, 0, none⟩) (by first | (rw [add_block]; exact hn351_0) | (show (Addr.add _ _).block ≠ _; rw [add_block]; exact hn351_0) | exact hn351_0) (.int .i64 ((rd_T47 l2 x79_5).f0))).trans hx351_1; replace hx351_0 := (cell_far (p := ⟨gb350, 1, none⟩) (by first | (rw [add_block]; exact hn351_1) | (show (Addr.add _ _).block ≠ _; rw [add_block]; exact hn351_1) | exact hn351_1) (.int .i64 ((rd_T47 l2 x79_5).f1))).trans hx351_0; replace hx351_1 := (cell_far (p := ⟨gb350, 1, none⟩) (by first | (rw [add_block]; exact hn351_1) | (show (Addr.add _ _).block ≠ _; rw [add_block]; exact hn351_1) | exact hn351_1) (.int .i64 ((rd_T47 l2 x79_5).f1))).trans hx351_1; (try have hy351_0 := fun (n_ : Nat) => (show ((((w83.drewN n_).setCell ⟨gb350, 0, none⟩ (.int .i64 ((rd_T47 l2 x79_5).f0))).setCell ⟨gb350, 1, none⟩ (.int .i64 ((rd_T47 l2 x79_5).f1)))).cell? _ = some _ from hx351_0)); (try have hy351_1 := fun (n_ : Nat) => (show ((((w83.drewN n_).setCell ⟨gb350, 0, none⟩ (.int .i64 ((rd_T47 l2 x79_5).f0))).setCell ⟨gb350, 1, none⟩ (.int .i64 ((rd_T47 l2 x79_5).f1)))).cell? _ = some _ from hx351_1)); clear hn351_0; clear hn351_1; replace p351 := eq_true p351; replace q351 := eq_true q351)); try go_wp2_with (first | ((with_reducible refine gate_dst (N := 12) rfl ?_); (try (refine gate_guard (by rfl) ?_; dsimp only)); refine box_event ?hg (N := 12) ?hd (cs := #[.int .i64 0, .int .i64 0]) (t := 47) ?hr ?_; (case hd => rfl); (case hg => rfl); (case hr => first | (go_simp; done) | (go_simp; rfl)); intro gb350 hg w83 hbox hb; have n0_ := zA (blk_below (g := gb333) (o := .cells #[.int .i64 a0_0, .int .i64 a0_1, .int .i64 a0_2, .int .i64 a0_3, .int .i64 a0_4] 57 (0, 0)) (zqB BK333.out) hb); have n1_ := zA (blk_below (g := gb334) (o := .cells #[.int .i64 a1_0, .int .i64 a1_1] 47 (0, 0)) (zqB BK334.out) hb); have n2_ := zA (below_step (zqH HB.out GE333.out GE334.out) hb); have n3_ := zA (hbox); have n4_ := zA ((by rw [hg]; exact (below_size (zqH HB.out GE333.out GE334.out)) : w.heap.size ≤ gb350)); have n5_ := zA ((by rw [hg]; exact (below_size (zqH HB.out GE333.out GE334.out)) : w.heap.size ≤ gb350)); have n6_ := zA ((by rw [hg]; exact Nat.ne_of_lt (blk_lt (g := gb333) (o := .cells #[.int .i64 a0_0, .int .i64 a0_1, .int .i64 a0_2, .int .i64 a0_3, .int .i64 a0_4] 57 (0, 0)) (zqB BK333.out)) : gb333 ≠ gb350)); have n7_ := zA ((by rw [hg]; exact Nat.ne_of_gt (blk_lt (g := gb333) (o := .cells #[.int .i64 a0_0, .int .i64 a0_1, .int .i64 a0_2, .int .i64 a0_3, .int .i64 a0_4] 57 (0, 0)) (zqB BK333.out)) : gb350 ≠ gb333)); have n8_ := zA ((by rw [hg]; exact Nat.ne_of_lt (blk_lt (g := gb334) (o := .cells #[.int .i64 a1_0, .int .i64 a1_1] 47 (0, 0)) (zqB BK334.out)) : gb334 ≠ gb350)); have n9_ := zA ((by rw [hg]; exact Nat.ne_of_gt (blk_lt (g := gb334) (o := .cells #[.int .i64 a1_0, .int .i64 a1_1] 47 (0, 0)) (zqB BK334.out)) : gb350 ≠ gb334)); clear BK333; clear BK334; clear HB; have BK333 := n0_; have BK334 := n1_; have HB := n2_; have BK350 := n3_; have GW350 := n4_; have GE350 := n5_; have NB333_350 := n6_; have NB350_333 := n7_; have NB334_350 := n8_; have NB350_334 := n9_; clear n0_ n1_ n2_ n3_ n4_ n5_ n6_ n7_ n8_ n9_; clear hb hbox hg; have hnb84 := NB350_333.out; have hnc84 := NB333_350.out; have hnb85 := NB350_334.out; have hnc85 := NB334_350.out; have hcz86_0 : w83.cell? ⟨gb350, 0, none⟩ = some (.int .i64 0) := (blk_cell BK350.out 0).trans rfl; have hcz86_1 : w83.cell? ⟨gb350, 1, none⟩ = some (.int .i64 0) := (blk_cell BK350.out 1).trans rfl; have hfz86_0 := blk_frozen BK350.out 0; have hfz86_1 := blk_frozen BK350.out 1; have hnb87 := NB333_334.out; have hnc87 := NB334_333.out; have hcz88_0 : w83.cell? ⟨gb333, 0, none⟩ = some (.int .i64 a0_0) := (blk_cell BK333.out 0).trans rfl; have hcz88_1 : w83.cell? ⟨gb333, 1, none⟩ = some (.int .i64 a0_1) := (blk_cell BK333.out 1).trans rfl; have hcz88_2 : w83.cell? ⟨gb333, 2, none⟩ = some (.int .i64 a0_2) := (blk_cell BK333.out 2).trans rfl; have hcz88_3 : w83.cell? ⟨gb333, 3, none⟩ = some (.int .i64 a0_3) := (blk_cell BK333.out 3).trans rfl; have hcz88_4 : w83.cell? ⟨gb333, 4, none⟩ = some (.int .i64 a0_4) := (blk_cell BK333.out 4).trans rfl; have hfz88_0 := blk_frozen BK333.out 0; have hfz88_1 := blk_frozen BK333.out 1; have hfz88_2 := blk_frozen BK333.out 2; have hfz88_3 := blk_frozen BK333.out 3; have hfz88_4 := blk_frozen BK333.out 4; have p351 : 0 ≤ ((ji79) : Int) := of_decide_eq_true (zqD); have q351 : (ji79) < (l2.length : Int) := of_decide_eq_true (zqD); obtain ⟨ad351, e351, hx351_0, hx351_1⟩ := at_T47 HR2.out (ji79) p351 q351; obtain rfl : ad349 = ad351 := (by injection e351); have hn351_0 : ad349.block ≠ gb350 := Nat.ne_of_lt (Nat.lt_of_lt_of_le (by have := World.block_lt_of_cell? _ _ hx351_0; first | rwa [add_block] at this | exact this) GW350.out); have hn351_1 : ad349.block ≠ gb350 := Nat.ne_of_lt (Nat.lt_of_lt_of_le (by have := World.block_lt_of_cell? _ _ hx351_0; first | rwa [add_block] at this | exact this) GW350.out); replace hx351_0 := (HB.out.cell (World.block_lt_of_cell? w _ hx351_0)).trans hx351_0; replace hx351_1 := (HB.out.cell (World.block_lt_of_cell? w _ hx351_1)).trans hx351_1; replace hx351_0 := (cell_far (p := ⟨gb350, 0, none⟩) (by first | (rw [add_block]; exact hn351_0) | (show (Addr.add _ _).block ≠ _; rw [add_block]; exact hn351_0) | exact hn351_0) (.int .i64 ((rd_T47 l2 x79_5).f0))).trans hx351_0; replace hx351_1 := (cell_far (p := ⟨gb350, 0, none⟩) (by first | (rw [add_block]; exact hn351_0) | (show (Addr.add _ _).block ≠ _; rw [add_block]; exact hn351_0) | exact hn351_0) (.int .i64 ((rd_T47 l2 x79_5).f0))).trans hx351_1; replace hx351_0 := (cell_far (p := ⟨gb350, 1, none⟩) (by first | (rw [add_block]; exact hn351_1) | (show (Addr.add _ _).block ≠ _; rw [add_block]; exact hn351_1) | exact hn351_1) (.int .i64 ((rd_T47 l2 x79_5).f1))).trans hx351_0; replace hx351_1 := (cell_far (p := ⟨gb350, 1, none⟩) (by first | (rw [add_block]; exact hn351_1) | (show (Addr.add _ _).block ≠ _; rw [add_block]; exact hn351_1) | exact hn351_1) (.int .i64 ((rd_T47 l2 x79_5).f1))).trans hx351_1; (try have hy351_0 := fun (n_ : Nat) => (show ((((w83.drewN n_).setCell ⟨gb350, 0, none⟩ (.int .i64 ((rd_T47 l2 x79_5).f0))).setCell ⟨gb350, 1, none⟩ (.int .i64 ((rd_T47 l2 x79_5).f1)))).cell? _ = some _ from hx351_0)); (try have hy351_1 := fun (n_ : Nat) => (show ((((w83.drewN n_).setCell ⟨gb350, 0, none⟩ (.int .i64 ((rd_T47 l2 x79_5).f0))).setCell ⟨gb350, 1, none⟩ (.int .i64 ((rd_T47 l2 x79_5).f1)))).cell? _ = some _ from hx351_1)); clear hn351_0; clear hn351_1; replace p351 := eq_true p351; replace q351 := eq_true q351)))
                          go_ret
                          exact ⟨by first | rfl | (simp [errW_none, errW_some] <;> rfl) | (simp only [← hji79]; first | rfl | (simp [errW_none, errW_some] <;> rfl)) | (simp [*, errW_none, errW_some] <;> rfl), zqI HB.out GE333.out GE334.out GE350.out⟩
                         ·
                          rw [if_neg c82] at H
                          have c82b0 : decide ((wrap64 ((wrap64 (((rd_T47 l2 x79_5).f0) - ((rd_T47 l2 (ji79)).f1))) * a0_0)) < (wrap64 (1000 * a0_3))) = false := decide_eq_false c82
                          clear c82
                          by_cases c89 : (wrap64 ((wrap64 (((rd_T47 l2 x79_5).f0) - ((rd_T47 l2 (ji79)).f1))) * a0_1)) ≥ (wrap64 (1000 * a0_4))
                          ·
                           rw [if_pos c89] at H
                           have c89b0 : decide ((wrap64 (1000 * a0_4)) ≤ (wrap64 ((wrap64 (((rd_T47 l2 x79_5).f0) - ((rd_T47 l2 (ji79)).f1))) * a0_1))) = true := decide_eq_true c89
                           clear c89
                           obtain rfl := Option.some.inj H
                           have p349 : 0 ≤ (x79_5 : Int) := of_decide_eq_true (zqD)
                           have q349 : x79_5 < (l2.length : Int) := of_decide_eq_true (zqD)
                           obtain ⟨ad349, e349, hx349_0, hx349_1⟩ := at_T47 HR2.out x79_5 p349 q349
                           cases e349
                           replace hx349_0 := (HB.out.cell (World.block_lt_of_cell? w _ hx349_0)).trans hx349_0
                           replace hx349_1 := (HB.out.cell (World.block_lt_of_cell? w _ hx349_1)).trans hx349_1
                           replace p349 := eq_true p349; replace q349 := eq_true q349
                           go_wp2_with (first | ((with_reducible refine gate_dst (N := 12) rfl ?_); (try (refine gate_guard (by rfl) ?_; dsimp only)); refine box_event ?hg (N := 12) ?hd (cs := #[.int .i64 0, .int .i64 0]) (t := 47) ?hr ?_; (case hd => rfl); (case hg => rfl); (case hr => first | (go_simp; done) | (go_simp; rfl)); intro gb350 hg w90 hbox hb; have n0_ := zA (blk_below (g := gb333) (o := .cells #[.int .i64 a0_0, .int .i64 a0_1, .int .i64 a0_2, .int .i64 a0_3, .int .i64 a0_4] 57 (0, 0)) (zqB BK333.out) hb); have n1_ := zA (blk_below (g := gb334) (o := .cells #[.int .i64 a1_0, .int .i64 a1_1] 47 (0, 0)) (zqB BK334.out) hb); have n2_ := zA (below_step (zqH HB.out GE333.out GE334.out) hb); have n3_ := zA (hbox); have n4_ := zA ((by rw [hg]; exact (below_size (zqH HB.out GE333.out GE334.out)) : w.heap.size ≤ gb350)); have n5_ := zA ((by rw [hg]; exact (below_size (zqH HB.out GE333.out GE334.out)) : w.heap.size ≤ gb350)); have n6_ := zA ((by rw [hg]; exact Nat.ne_of_lt (blk_lt (g := gb333) (o := .cells #[.int .i64 a0_0, .int .i64 a0_1, .int .i64 a0_2, .int .i64 a0_3, .int .i64 a0_4] 57 (0, 0)) (zqB BK333.out)) : gb333 ≠ gb350)); have n7_ := zA ((by rw [hg]; exact Nat.ne_of_gt (blk_lt (g := gb333) (o := .cells #[.int .i64 a0_0, .int .i64 a0_1, .int .i64 a0_2, .int .i64 a0_3, .int .i64 a0_4] 57 (0, 0)) (zqB BK333.out)) : gb350 ≠ gb333)); have n8_ := zA ((by rw [hg]; exact Nat.ne_of_lt (blk_lt (g := gb334) (o := .cells #[.int .i64 a1_0, .int .i64 a1_1] 47 (0, 0)) (zqB BK334.out)) : gb334 ≠ gb350)); have n9_ := zA ((by rw [hg]; exact Nat.ne_of_gt (blk_lt (g := gb334) (o := .cells #[.int .i64 a1_0, .int .i64 a1_1] 47 (0, 0)) (zqB BK334.out)) : gb350 ≠ gb334)); clear BK333; clear BK334; clear HB; have BK333 := n0_; have BK334 := n1_; have HB := n2_; have BK350 := n3_; have GW350 := n4_; have GE350 := n5_; have NB333_350 := n6_; have NB350_333 := n7_; have NB334_350 := n8_; have NB350_334 := n9_; clear n0_ n1_ n2_ n3_ n4_ n5_ n6_ n7_ n8_ n9_; clear hb hbox hg; have hnb91 := NB350_333.out; have hnc91 := NB333_350.out; have hnb92 := NB350_334.out; have hnc92 := NB334_350.out; have hcz93_0 : w90.cell? ⟨gb350, 0, none⟩ = some (.int .i64 0) := (blk_cell BK350.out 0).trans rfl; have hcz93_1 : w90.cell? ⟨gb350, 1, none⟩ = some (.int .i64 0) := (blk_cell BK350.out 1).trans rfl; have hfz93_0 := blk_frozen BK350.out 0; have hfz93_1 := blk_frozen BK350.out 1; have hnb94 := NB333_334.out; have hnc94 := NB334_333.out; have hcz95_0 : w90.cell? ⟨gb333, 0, none⟩ = some (.int .i64 a0_0) := (blk_cell BK333.out 0).trans rfl; have hcz95_1 : w90.cell? ⟨gb333, 1, none⟩ = some (.int .i64 a0_1) := (blk_cell BK333.out 1).trans rfl; have hcz95_2 : w90.cell? ⟨gb333, 2, none⟩ = some (.int .i64 a0_2) := (blk_cell BK333.out 2).trans rfl; have hcz95_3 : w90.cell? ⟨gb333, 3, none⟩ = some (.int .i64 a0_3) := (blk_cell BK333.out 3).trans rfl; have hcz95_4 : w90.cell? ⟨gb333, 4, none⟩ = some (.int .i64 a0_4) := (blk_cell BK333.out 4).trans rfl; have hfz95_0 := blk_frozen BK333.out 0; have hfz95_1 := blk_frozen BK333.out 1; have hfz95_2 := blk_frozen BK333.out 2; have hfz95_3 := blk_frozen BK333.out 3; have hfz95_4 := blk_frozen BK333.out 4; have p351 : 0 ≤ ((ji79) : Int) := of_decide_eq_true (zqD); have q351 : (ji79) < (l2.length : Int) := of_decide_eq_true (zqD); obtain ⟨ad351, e351, hx351_0, hx351_1⟩ := at_T47 HR2.out (ji79) p351 q351; obtain rfl : ad349 = ad351 := (by injection e351); have hn351_0 : ad349.block ≠ gb350 := Nat.ne_of_lt (Nat.lt_of_lt_of_le (by have := World.block_lt_of_cell? _ _ hx351_0; first | rwa [add_block] at this | exact this) GW350.out); have hn351_1 : ad349.block ≠ gb350 := Nat.ne_of_lt (Nat.lt_of_lt_of_le (by have := World.block_lt_of_cell? _ _ hx351_0; first | rwa [add_block] at this | exact this) GW350.out); replace hx351_0 := (HB.out.cell (World.block_lt_of_cell? w _ hx351_0)).trans hx351_0; replace hx351_1 := (HB.out.cell (World.block_lt_of_cell? w _ hx351_1)).trans hx351_1; replace hx351_0 := (cell_far (p := ⟨gb350, 0, none⟩) (by first | (rw [add_block]; exact hn351_0) | (show (Addr.add _ _).block ≠ _; rw [add_block]; exact hn351_0) | exact hn351_0) (.int .i64 ((rd_T47 l2 x79_5).f0))).trans hx351_0; replace hx351_1 := (cell_far (p := ⟨gb350, 0, none⟩) (by first | (rw [add_block]; exact hn351_0) | (show (Addr.add _ _).block ≠ _; rw [add_block]; exact hn351_0) | exact hn351_0) (.int .i64 ((rd_T47 l2 x79_5).f0))).trans hx351_1; replace hx351_0 := (cell_far (p := ⟨gb350, 1, none⟩) (by first | (rw [add_block]; exact hn351_1) | (show (Addr.add _ _).block ≠ _; rw [add_block]; exact hn351_1) | exact hn351_1) (.int .i64 ((rd_T47 l2 x79_5).f1))).trans hx351_0; replace hx351_1 := (cell_far (p := ⟨gb350, 1, none⟩) (by first | (rw [add_block]; exact hn351_1) | (show (Addr.add _ _).block ≠ _; rw [add_block]; exact hn351_1) | exact hn351_1) (.int .i64 ((rd_T47 l2 x79_5).f1))).trans hx351_1; (try have hy351_0 := fun (n_ : Nat) => (show ((((w90.drewN n_).setCell ⟨gb350, 0, none⟩ (.int .i64 ((rd_T47 l2 x79_5).f0))).setCell ⟨gb350, 1, none⟩ (.int .i64 ((rd_T47 l2 x79_5).f1)))).cell? _ = some _ from hx351_0)); (try have hy351_1 := fun (n_ : Nat) => (show ((((w90.drewN n_).setCell ⟨gb350, 0, none⟩ (.int .i64 ((rd_T47 l2 x79_5).f0))).setCell ⟨gb350, 1, none⟩ (.int .i64 ((rd_T47 l2 x79_5).f1)))).cell? _ = some _ from hx351_1)); clear hn351_0; clear hn351_1; replace p351 := eq_true p351; replace q351 := eq_true q351))
                           repeat (go_quiet (first | ((with_reducible refine gate_dst (N := 12) rfl ?_); (try (refine gate_guard (by rfl) ?_; dsimp only)); refine box_event ?hg (N := 12) ?hd (cs := #[.int .i64 0, .int .i64 0]) (t := 47) ?hr ?_; (case hd => rfl); (case hg => rfl); (case hr => first | (go_simp; done) | (go_simp; rfl)); intro gb350 hg w90 hbox hb; have n0_ := zA (blk_below (g := gb333) (o := .cells #[.int .i64 a0_0, .int .i64 a0_1, .int .i64 a0_2, .int .i64 a0_3, .int .i64 a0_4] 57 (0, 0)) (zqB BK333.out) hb); have n1_ := zA (blk_below (g := gb334) (o := .cells #[.int .i64 a1_0, .int .i64 a1_1] 47 (0, 0)) (zqB BK334.out) hb); have n2_ := zA (below_step (zqH HB.out GE333.out GE334.out) hb); have n3_ := zA (hbox); have n4_ := zA ((by rw [hg]; exact (below_size (zqH HB.out GE333.out GE334.out)) : w.heap.size ≤ gb350)); have n5_ := zA ((by rw [hg]; exact (below_size (zqH HB.out GE333.out GE334.out)) : w.heap.size ≤ gb350)); have n6_ := zA ((by rw [hg]; exact Nat.ne_of_lt (blk_lt (g := gb333) (o := .cells #[.int .i64 a0_0, .int .i64 a0_1, .int .i64 a0_2, .int .i64 a0_3, .int .i64 a0_4] 57 (0, 0)) (zqB BK333.out)) : gb333 ≠ gb350)); have n7_ := zA ((by rw [hg]; exact Nat.ne_of_gt (blk_lt (g := gb333) (o := .cells #[.int .i64 a0_0, .int .i64 a0_1, .int .i64 a0_2, .int .i64 a0_3, .int .i64 a0_4] 57 (0, 0)) (zqB BK333.out)) : gb350 ≠ gb333)); have n8_ := zA ((by rw [hg]; exact Nat.ne_of_lt (blk_lt (g := gb334) (o := .cells #[.int .i64 a1_0, .int .i64 a1_1] 47 (0, 0)) (zqB BK334.out)) : gb334 ≠ gb350)); have n9_ := zA ((by rw [hg]; exact Nat.ne_of_gt (blk_lt (g := gb334) (o := .cells #[.int .i64 a1_0, .int .i64 a1_1] 47 (0, 0)) (zqB BK334.out)) : gb350 ≠ gb334)); clear BK333; clear BK334; clear HB; have BK333 := n0_; have BK334 := n1_; have HB := n2_; have BK350 := n3_; have GW350 := n4_; have GE350 := n5_; have NB333_350 := n6_; have NB350_333 := n7_; have NB334_350 := n8_; have NB350_334 := n9_; clear n0_ n1_ n2_ n3_ n4_ n5_ n6_ n7_ n8_ n9_; clear hb hbox hg; have hnb91 := NB350_333.out; have hnc91 := NB333_350.out; have hnb92 := NB350_334.out; have hnc92 := NB334_350.out; have hcz93_0 : w90.cell? ⟨gb350, 0, none⟩ = some (.int .i64 0) := (blk_cell BK350.out 0).trans rfl; have hcz93_1 : w90.cell? ⟨gb350, 1, none⟩ = some (.int .i64 0) := (blk_cell BK350.out 1).trans rfl; have hfz93_0 := blk_frozen BK350.out 0; have hfz93_1 := blk_frozen BK350.out 1; have hnb94 := NB333_334.out; have hnc94 := NB334_333.out; have hcz95_0 : w90.cell? ⟨gb333, 0, none⟩ = some (.int .i64 a0_0) := (blk_cell BK333.out 0).trans rfl; have hcz95_1 : w90.cell? ⟨gb333, 1, none⟩ = some (.int .i64 a0_1) := (blk_cell BK333.out 1).trans rfl; have hcz95_2 : w90.cell? ⟨gb333, 2, none⟩ = some (.int .i64 a0_2) := (blk_cell BK333.out 2).trans rfl; have hcz95_3 : w90.cell? ⟨gb333, 3, none⟩ = some (.int .i64 a0_3) := (blk_cell BK333.out 3).trans rfl; have hcz95_4 : w90.cell? ⟨gb333, 4, none⟩ = some (.int .i64 a0_4) := (blk_cell BK333.out 4).trans rfl; have hfz95_0 := blk_frozen BK333.out 0; have hfz95_1 := blk_frozen BK333.out 1; have hfz95_2 := blk_frozen BK333.out 2; have hfz95_3 := blk_frozen BK333.out 3; have hfz95_4 := blk_frozen BK333.out 4; have p351 : 0 ≤ ((ji79) : Int) := of_decide_eq_true (zqD); have q351 : (ji79) < (l2.length : Int) := of_decide_eq_true (zqD); obtain ⟨ad351, e351, hx351_0, hx351_1⟩ := at_T47 HR2.out (ji79) p351 q351; obtain rfl : ad349 = ad351 := (by injection e351); have hn351_0 : ad349.block ≠ gb350 := Nat.ne_of_lt (Nat.lt_of_lt_of_le (by have := World.block_lt_of_cell? _ _ hx351_0; first | rwa [add_block] at this | exact this) GW350.out); have hn351_1 : ad349.block ≠ gb350 := Nat.ne_of_lt (Nat.lt_of_lt_of_le (by have := World.block_lt_of_cell? _ _ hx351_0; first | rwa [add_block] at this | exact this) GW350.out); replace hx351_0 := (HB.out.cell (World.block_lt_of_cell? w _ hx351_0)).trans hx351_0; replace hx351_1 := (HB.out.cell (World.block_lt_of_cell? w _ hx351_1)).trans hx351_1; replace hx351_0 := (cell_far (p := ⟨gb350, 0, none⟩) (by first | (rw [add_block]; exact hn351_0) | (show (Addr.add _ _).block ≠ _; rw [add_block]; exact hn351_0) | exact hn351_0) (.int .i64 ((rd_T47 l2 x79_5).f0))).trans hx351_0; replace hx351_1 := (cell_far (p := ⟨gb350, 0, none⟩) (by first | (rw [add_block]; exact hn351_0) | (show (Addr.add _ _).block ≠ _; rw [add_block]; exact hn351_0) | exact hn351_0) (.int .i64 ((rd_T47 l2 x79_5).f0))).trans hx351_1; replace hx351_0 := (cell_far (p := ⟨gb350, 1, none⟩) (by first | (rw [add_block]; exact hn351_1) | (show (Addr.add _ _).block ≠ _; rw [add_block]; exact hn351_1) | exact hn351_1) (.int .i64 ((rd_T47 l2 x79_5).f1))).trans hx351_0; replace hx351_1 := (cell_far (p := ⟨gb350, 1, none⟩) (by first | (rw [add_block]; exact hn351_1) | (show (Addr.add _ _).block ≠ _; rw [add_block]; exact hn351_1) | exact hn351_1) (.int .i64 ((rd_T47 l2 x79_5).f1))).trans hx351_1; (try have hy351_0 := fun (n_ : Nat) => (show ((((w90.drewN n_).setCell ⟨gb350, 0, none⟩ (.int .i64 ((rd_T47 l2 x79_5).f0))).setCell ⟨gb350, 1, none⟩ (.int .i64 ((rd_T47 l2 x79_5).f1)))).cell? _ = some _ from hx351_0)); (try have hy351_1 := fun (n_ : Nat) => (show ((((w90.drewN n_).setCell ⟨gb350, 0, none⟩ (.int .i64 ((rd_T47 l2 x79_5).f0))).setCell ⟨gb350, 1, none⟩ (.int .i64 ((rd_T47 l2 x79_5).f1)))).cell? _ = some _ from hx351_1)); clear hn351_0; clear hn351_1; replace p351 := eq_true p351; replace q351 := eq_true q351)); try go_wp2_with (first | ((with_reducible refine gate_dst (N := 12) rfl ?_); (try (refine gate_guard (by rfl) ?_; dsimp only)); refine box_event ?hg (N := 12) ?hd (cs := #[.int .i64 0, .int .i64 0]) (t := 47) ?hr ?_; (case hd => rfl); (case hg => rfl); (case hr => first | (go_simp; done) | (go_simp; rfl)); intro gb350 hg w90 hbox hb; have n0_ := zA (blk_below (g := gb333) (o := .cells #[.int .i64 a0_0, .int .i64 a0_1, .int .i64 a0_2, .int .i64 a0_3, .int .i64 a0_4] 57 (0, 0)) (zqB BK333.out) hb); have n1_ := zA (blk_below (g := gb334) (o := .cells #[.int .i64 a1_0, .int .i64 a1_1] 47 (0, 0)) (zqB BK334.out) hb); have n2_ := zA (below_step (zqH HB.out GE333.out GE334.out) hb); have n3_ := zA (hbox); have n4_ := zA ((by rw [hg]; exact (below_size (zqH HB.out GE333.out GE334.out)) : w.heap.size ≤ gb350)); have n5_ := zA ((by rw [hg]; exact (below_size (zqH HB.out GE333.out GE334.out)) : w.heap.size ≤ gb350)); have n6_ := zA ((by rw [hg]; exact Nat.ne_of_lt (blk_lt (g := gb333) (o := .cells #[.int .i64 a0_0, .int .i64 a0_1, .int .i64 a0_2, .int .i64 a0_3, .int .i64 a0_4] 57 (0, 0)) (zqB BK333.out)) : gb333 ≠ gb350)); have n7_ := zA ((by rw [hg]; exact Nat.ne_of_gt (blk_lt (g := gb333) (o := .cells #[.int .i64 a0_0, .int .i64 a0_1, .int .i64 a0_2, .int .i64 a0_3, .int .i64 a0_4] 57 (0, 0)) (zqB BK333.out)) : gb350 ≠ gb333)); have n8_ := zA ((by rw [hg]; exact Nat.ne_of_lt (blk_lt (g := gb334) (o := .cells #[.int .i64 a1_0, .int .i64 a1_1] 47 (0, 0)) (zqB BK334.out)) : gb334 ≠ gb350)); have n9_ := zA ((by rw [hg]; exact Nat.ne_of_gt (blk_lt (g := gb334) (o := .cells #[.int .i64 a1_0, .int .i64 a1_1] 47 (0, 0)) (zqB BK334.out)) : gb350 ≠ gb334)); clear BK333; clear BK334; clear HB; have BK333 := n0_; have BK334 := n1_; have HB := n2_; have BK350 := n3_; have GW350 := n4_; have GE350 := n5_; have NB333_350 := n6_; have NB350_333 := n7_; have NB334_350 := n8_; have NB350_334 := n9_; clear n0_ n1_ n2_ n3_ n4_ n5_ n6_ n7_ n8_ n9_; clear hb hbox hg; have hnb91 := NB350_333.out; have hnc91 := NB333_350.out; have hnb92 := NB350_334.out; have hnc92 := NB334_350.out; have hcz93_0 : w90.cell? ⟨gb350, 0, none⟩ = some (.int .i64 0) := (blk_cell BK350.out 0).trans rfl; have hcz93_1 : w90.cell? ⟨gb350, 1, none⟩ = some (.int .i64 0) := (blk_cell BK350.out 1).trans rfl; have hfz93_0 := blk_frozen BK350.out 0; have hfz93_1 := blk_frozen BK350.out 1; have hnb94 := NB333_334.out; have hnc94 := NB334_333.out; have hcz95_0 : w90.cell? ⟨gb333, 0, none⟩ = some (.int .i64 a0_0) := (blk_cell BK333.out 0).trans rfl; have hcz95_1 : w90.cell? ⟨gb333, 1, none⟩ = some (.int .i64 a0_1) := (blk_cell BK333.out 1).trans rfl; have hcz95_2 : w90.cell? ⟨gb333, 2, none⟩ = some (.int .i64 a0_2) := (blk_cell BK333.out 2).trans rfl; have hcz95_3 : w90.cell? ⟨gb333, 3, none⟩ = some (.int .i64 a0_3) := (blk_cell BK333.out 3).trans rfl; have hcz95_4 : w90.cell? ⟨gb333, 4, none⟩ = some (.int .i64 a0_4) := (blk_cell BK333.out 4).trans rfl; have hfz95_0 := blk_frozen BK333.out 0; have hfz95_1 := blk_frozen BK333.out 1; have hfz95_2 := blk_frozen BK333.out 2; have hfz95_3 := blk_frozen BK333.out 3; have hfz95_4 := blk_frozen BK333.out 4; have p351 : 0 ≤ ((ji79) : Int) := of_decide_eq_true (zqD); have q351 : (ji79) < (l2.length : Int) := of_decide_eq_true (zqD); obtain ⟨ad351, e351, hx351_0, hx351_1⟩ := at_T47 HR2.out (ji79) p351 q351; obtain rfl : ad349 = ad351 := (by injection e351); have hn351_0 : ad349.block ≠ gb350 := Nat.ne_of_lt (Nat.lt_of_lt_of_le (by have := World.block_lt_of_cell? _ _ hx351_0; first | rwa [add_block] at this | exact this) GW350.out); have hn351_1 : ad349.block ≠ gb350 := Nat.ne_of_lt (Nat.lt_of_lt_of_le (by have := World.block_lt_of_cell? _ _ hx351_0; first | rwa [add_block] at this | exact this) GW350.out); replace hx351_0 := (HB.out.cell (World.block_lt_of_cell? w _ hx351_0)).trans hx351_0; replace hx351_1 := (HB.out.cell (World.block_lt_of_cell? w _ hx351_1)).trans hx351_1; replace hx351_0 := (cell_far (p := ⟨gb350, 0, none⟩) (by first | (rw [add_block]; exact hn351_0) | (show (Addr.add _ _).block ≠ _; rw [add_block]; exact hn351_0) | exact hn351_0) (.int .i64 ((rd_T47 l2 x79_5).f0))).trans hx351_0; replace hx351_1 := (cell_far (p := ⟨gb350, 0, none⟩) (by first | (rw [add_block]; exact hn351_0) | (show (Addr.add _ _).block ≠ _; rw [add_block]; exact hn351_0) | exact hn351_0) (.int .i64 ((rd_T47 l2 x79_5).f0))).trans hx351_1; replace hx351_0 := (cell_far (p := ⟨gb350, 1, none⟩) (by first | (rw [add_block]; exact hn351_1) | (show (Addr.add _ _).block ≠ _; rw [add_block]; exact hn351_1) | exact hn351_1) (.int .i64 ((rd_T47 l2 x79_5).f1))).trans hx351_0; replace hx351_1 := (cell_far (p := ⟨gb350, 1, none⟩) (by first | (rw [add_block]; exact hn351_1) | (show (Addr.add _ _).block ≠ _; rw [add_block]; exact hn351_1) | exact hn351_1) (.int .i64 ((rd_T47 l2 x79_5).f1))).trans hx351_1; (try have hy351_0 := fun (n_ : Nat) => (show ((((w90.drewN n_).setCell ⟨gb350, 0, none⟩ (.int .i64 ((rd_T47 l2 x79_5).f0))).setCell ⟨gb350, 1, none⟩ (.int .i64 ((rd_T47 l2 x79_5).f1)))).cell? _ = some _ from hx351_0)); (try have hy351_1 := fun (n_ : Nat) => (show ((((w90.drewN n_).setCell ⟨gb350, 0, none⟩ (.int .i64 ((rd_T47 l2 x79_5).f0))).setCell ⟨gb350, 1, none⟩ (.int .i64 ((rd_T47 l2 x79_5).f1)))).cell? _ = some _ from hx351_1)); clear hn351_0; clear hn351_1; replace p351 := eq_true p351; replace q351 := eq_true q351)))
                           go_ret
                           exact ⟨by first | rfl | (simp [errW_none, errW_some] <;> rfl) | (simp only [← hji79]; first | rfl | (simp [errW_none, errW_some] <;> rfl)) | (simp [*, errW_none, errW_some] <;> rfl), zqI HB.out GE333.out GE334.out GE350.out⟩
                          ·
                           rw [if_neg c89] at H
                           have c89b0 : decide ((wrap64 (1000 * a0_4)) ≤ (wrap64 ((wrap64 (((rd_T47 l2 x79_5).f0) - ((rd_T47 l2 (ji79)).f1))) * a0_1))) = false := decide_eq_false c89
                           clear c89
                           have H' := zA H
                           clear H
                           have p349 : 0 ≤ (x79_5 : Int) := of_decide_eq_true (zqD)
                           have q349 : x79_5 < (l2.length : Int) := of_decide_eq_true (zqD)
                           obtain ⟨ad349, e349, hx349_0, hx349_1⟩ := at_T47 HR2.out x79_5 p349 q349
                           cases e349
                           replace hx349_0 := (HB.out.cell (World.block_lt_of_cell? w _ hx349_0)).trans hx349_0
                           replace hx349_1 := (HB.out.cell (World.block_lt_of_cell? w _ hx349_1)).trans hx349_1
                           replace p349 := eq_true p349; replace q349 := eq_true q349
                           go_wp2_with (first | ((with_reducible refine gate_dst (N := 12) rfl ?_); (try (refine gate_guard (by rfl) ?_; dsimp only)); refine box_event ?hg (N := 12) ?hd (cs := #[.int .i64 0, .int .i64 0]) (t := 47) ?hr ?_; (case hd => rfl); (case hg => rfl); (case hr => first | (go_simp; done) | (go_simp; rfl)); intro gb350 hg w96 hbox hb; have n0_ := zA (blk_below (g := gb333) (o := .cells #[.int .i64 a0_0, .int .i64 a0_1, .int .i64 a0_2, .int .i64 a0_3, .int .i64 a0_4] 57 (0, 0)) (zqB BK333.out) hb); have n1_ := zA (blk_below (g := gb334) (o := .cells #[.int .i64 a1_0, .int .i64 a1_1] 47 (0, 0)) (zqB BK334.out) hb); have n2_ := zA (below_step (zqH HB.out GE333.out GE334.out) hb); have n3_ := zA (hbox); have n4_ := zA ((by rw [hg]; exact (below_size (zqH HB.out GE333.out GE334.out)) : w.heap.size ≤ gb350)); have n5_ := zA ((by rw [hg]; exact (below_size (zqH HB.out GE333.out GE334.out)) : w.heap.size ≤ gb350)); have n6_ := zA ((by rw [hg]; exact Nat.ne_of_lt (blk_lt (g := gb333) (o := .cells #[.int .i64 a0_0, .int .i64 a0_1, .int .i64 a0_2, .int .i64 a0_3, .int .i64 a0_4] 57 (0, 0)) (zqB BK333.out)) : gb333 ≠ gb350)); have n7_ := zA ((by rw [hg]; exact Nat.ne_of_gt (blk_lt (g := gb333) (o := .cells #[.int .i64 a0_0, .int .i64 a0_1, .int .i64 a0_2, .int .i64 a0_3, .int .i64 a0_4] 57 (0, 0)) (zqB BK333.out)) : gb350 ≠ gb333)); have n8_ := zA ((by rw [hg]; exact Nat.ne_of_lt (blk_lt (g := gb334) (o := .cells #[.int .i64 a1_0, .int .i64 a1_1] 47 (0, 0)) (zqB BK334.out)) : gb334 ≠ gb350)); have n9_ := zA ((by rw [hg]; exact Nat.ne_of_gt (blk_lt (g := gb334) (o := .cells #[.int .i64 a1_0, .int .i64 a1_1] 47 (0, 0)) (zqB BK334.out)) : gb350 ≠ gb334)); clear BK333; clear BK334; clear HB; have BK333 := n0_; have BK334 := n1_; have HB := n2_; have BK350 := n3_; have GW350 := n4_; have GE350 := n5_; have NB333_350 := n6_; have NB350_333 := n7_; have NB334_350 := n8_; have NB350_334 := n9_; clear n0_ n1_ n2_ n3_ n4_ n5_ n6_ n7_ n8_ n9_; clear hb hbox hg; have hnb97 := NB350_333.out; have hnc97 := NB333_350.out; have hnb98 := NB350_334.out; have hnc98 := NB334_350.out; have hcz99_0 : w96.cell? ⟨gb350, 0, none⟩ = some (.int .i64 0) := (blk_cell BK350.out 0).trans rfl; have hcz99_1 : w96.cell? ⟨gb350, 1, none⟩ = some (.int .i64 0) := (blk_cell BK350.out 1).trans rfl; have hfz99_0 := blk_frozen BK350.out 0; have hfz99_1 := blk_frozen BK350.out 1; have hnb100 := NB333_334.out; have hnc100 := NB334_333.out; have hcz101_0 : w96.cell? ⟨gb333, 0, none⟩ = some (.int .i64 a0_0) := (blk_cell BK333.out 0).trans rfl; have hcz101_1 : w96.cell? ⟨gb333, 1, none⟩ = some (.int .i64 a0_1) := (blk_cell BK333.out 1).trans rfl; have hcz101_2 : w96.cell? ⟨gb333, 2, none⟩ = some (.int .i64 a0_2) := (blk_cell BK333.out 2).trans rfl; have hcz101_3 : w96.cell? ⟨gb333, 3, none⟩ = some (.int .i64 a0_3) := (blk_cell BK333.out 3).trans rfl; have hcz101_4 : w96.cell? ⟨gb333, 4, none⟩ = some (.int .i64 a0_4) := (blk_cell BK333.out 4).trans rfl; have hfz101_0 := blk_frozen BK333.out 0; have hfz101_1 := blk_frozen BK333.out 1; have hfz101_2 := blk_frozen BK333.out 2; have hfz101_3 := blk_frozen BK333.out 3; have hfz101_4 := blk_frozen BK333.out 4; have p351 : 0 ≤ ((ji79) : Int) := of_decide_eq_true (zqD); have q351 : (ji79) < (l2.length : Int) := of_decide_eq_true (zqD); obtain ⟨ad351, e351, hx351_0, hx351_1⟩ := at_T47 HR2.out (ji79) p351 q351; obtain rfl : ad349 = ad351 := (by injection e351); have hn351_0 : ad349.block ≠ gb350 := Nat.ne_of_lt (Nat.lt_of_lt_of_le (by have := World.block_lt_of_cell? _ _ hx351_0; first | rwa [add_block] at this | exact this) GW350.out); have hn351_1 : ad349.block ≠ gb350 := Nat.ne_of_lt (Nat.lt_of_lt_of_le (by have := World.block_lt_of_cell? _ _ hx351_0; first | rwa [add_block] at this | exact this) GW350.out); replace hx351_0 := (HB.out.cell (World.block_lt_of_cell? w _ hx351_0)).trans hx351_0; replace hx351_1 := (HB.out.cell (World.block_lt_of_cell? w _ hx351_1)).trans hx351_1; replace hx351_0 := (cell_far (p := ⟨gb350, 0, none⟩) (by first | (rw [add_block]; exact hn351_0) | (show (Addr.add _ _).block ≠ _; rw [add_block]; exact hn351_0) | exact hn351_0) (.int .i64 ((rd_T47 l2 x79_5).f0))).trans hx351_0; replace hx351_1 := (cell_far (p := ⟨gb350, 0, none⟩) (by first | (rw [add_block]; exact hn351_0) | (show (Addr.add _ _).block ≠ _; rw [add_block]; exact hn351_0) | exact hn351_0) (.int .i64 ((rd_T47 l2 x79_5).f0))).trans hx351_1; replace hx351_0 := (cell_far (p := ⟨gb350, 1, none⟩) (by first | (rw [add_block]; exact hn351_1) | (show (Addr.add _ _).block ≠ _; rw [add_block]; exact hn351_1) | exact hn351_1) (.int .i64 ((rd_T47 l2 x79_5).f1))).trans hx351_0; replace hx351_1 := (cell_far (p := ⟨gb350, 1, none⟩) (by first | (rw [add_block]; exact hn351_1) | (show (Addr.add _ _).block ≠ _; rw [add_block]; exact hn351_1) | exact hn351_1) (.int .i64 ((rd_T47 l2 x79_5).f1))).trans hx351_1; (try have hy351_0 := fun (n_ : Nat) => (show ((((w96.drewN n_).setCell ⟨gb350, 0, none⟩ (.int .i64 ((rd_T47 l2 x79_5).f0))).setCell ⟨gb350, 1, none⟩ (.int .i64 ((rd_T47 l2 x79_5).f1)))).cell? _ = some _ from hx351_0)); (try have hy351_1 := fun (n_ : Nat) => (show ((((w96.drewN n_).setCell ⟨gb350, 0, none⟩ (.int .i64 ((rd_T47 l2 x79_5).f0))).setCell ⟨gb350, 1, none⟩ (.int .i64 ((rd_T47 l2 x79_5).f1)))).cell? _ = some _ from hx351_1)); clear hn351_0; clear hn351_1; replace p351 := eq_true p351; replace q351 := eq_true q351))
                           repeat (go_quiet (first | ((with_reducible refine gate_dst (N := 12) rfl ?_); (try (refine gate_guard (by rfl) ?_; dsimp only)); refine box_event ?hg (N := 12) ?hd (cs := #[.int .i64 0, .int .i64 0]) (t := 47) ?hr ?_; (case hd => rfl); (case hg => rfl); (case hr => first | (go_simp; done) | (go_simp; rfl)); intro gb350 hg w96 hbox hb; have n0_ := zA (blk_below (g := gb333) (o := .cells #[.int .i64 a0_0, .int .i64 a0_1, .int .i64 a0_2, .int .i64 a0_3, .int .i64 a0_4] 57 (0, 0)) (zqB BK333.out) hb); have n1_ := zA (blk_below (g := gb334) (o := .cells #[.int .i64 a1_0, .int .i64 a1_1] 47 (0, 0)) (zqB BK334.out) hb); have n2_ := zA (below_step (zqH HB.out GE333.out GE334.out) hb); have n3_ := zA (hbox); have n4_ := zA ((by rw [hg]; exact (below_size (zqH HB.out GE333.out GE334.out)) : w.heap.size ≤ gb350)); have n5_ := zA ((by rw [hg]; exact (below_size (zqH HB.out GE333.out GE334.out)) : w.heap.size ≤ gb350)); have n6_ := zA ((by rw [hg]; exact Nat.ne_of_lt (blk_lt (g := gb333) (o := .cells #[.int .i64 a0_0, .int .i64 a0_1, .int .i64 a0_2, .int .i64 a0_3, .int .i64 a0_4] 57 (0, 0)) (zqB BK333.out)) : gb333 ≠ gb350)); have n7_ := zA ((by rw [hg]; exact Nat.ne_of_gt (blk_lt (g := gb333) (o := .cells #[.int .i64 a0_0, .int .i64 a0_1, .int .i64 a0_2, .int .i64 a0_3, .int .i64 a0_4] 57 (0, 0)) (zqB BK333.out)) : gb350 ≠ gb333)); have n8_ := zA ((by rw [hg]; exact Nat.ne_of_lt (blk_lt (g := gb334) (o := .cells #[.int .i64 a1_0, .int .i64 a1_1] 47 (0, 0)) (zqB BK334.out)) : gb334 ≠ gb350)); have n9_ := zA ((by rw [hg]; exact Nat.ne_of_gt (blk_lt (g := gb334) (o := .cells #[.int .i64 a1_0, .int .i64 a1_1] 47 (0, 0)) (zqB BK334.out)) : gb350 ≠ gb334)); clear BK333; clear BK334; clear HB; have BK333 := n0_; have BK334 := n1_; have HB := n2_; have BK350 := n3_; have GW350 := n4_; have GE350 := n5_; have NB333_350 := n6_; have NB350_333 := n7_; have NB334_350 := n8_; have NB350_334 := n9_; clear n0_ n1_ n2_ n3_ n4_ n5_ n6_ n7_ n8_ n9_; clear hb hbox hg; have hnb97 := NB350_333.out; have hnc97 := NB333_350.out; have hnb98 := NB350_334.out; have hnc98 := NB334_350.out; have hcz99_0 : w96.cell? ⟨gb350, 0, none⟩ = some (.int .i64 0) := (blk_cell BK350.out 0).trans rfl; have hcz99_1 : w96.cell? ⟨gb350, 1, none⟩ = some (.int .i64 0) := (blk_cell BK350.out 1).trans rfl; have hfz99_0 := blk_frozen BK350.out 0; have hfz99_1 := blk_frozen BK350.out 1; have hnb100 := NB333_334.out; have hnc100 := NB334_333.out; have hcz101_0 : w96.cell? ⟨gb333, 0, none⟩ = some (.int .i64 a0_0) := (blk_cell BK333.out 0).trans rfl; have hcz101_1 : w96.cell? ⟨gb333, 1, none⟩ = some (.int .i64 a0_1) := (blk_cell BK333.out 1).trans rfl; have hcz101_2 : w96.cell? ⟨gb333, 2, none⟩ = some (.int .i64 a0_2) := (blk_cell BK333.out 2).trans rfl; have hcz101_3 : w96.cell? ⟨gb333, 3, none⟩ = some (.int .i64 a0_3) := (blk_cell BK333.out 3).trans rfl; have hcz101_4 : w96.cell? ⟨gb333, 4, none⟩ = some (.int .i64 a0_4) := (blk_cell BK333.out 4).trans rfl; have hfz101_0 := blk_frozen BK333.out 0; have hfz101_1 := blk_frozen BK333.out 1; have hfz101_2 := blk_frozen BK333.out 2; have hfz101_3 := blk_frozen BK333.out 3; have hfz101_4 := blk_frozen BK333.out 4; have p351 : 0 ≤ ((ji79) : Int) := of_decide_eq_true (zqD); have q351 : (ji79) < (l2.length : Int) := of_decide_eq_true (zqD); obtain ⟨ad351, e351, hx351_0, hx351_1⟩ := at_T47 HR2.out (ji79) p351 q351; obtain rfl : ad349 = ad351 := (by injection e351); have hn351_0 : ad349.block ≠ gb350 := Nat.ne_of_lt (Nat.lt_of_lt_of_le (by have := World.block_lt_of_cell? _ _ hx351_0; first | rwa [add_block] at this | exact this) GW350.out); have hn351_1 : ad349.block ≠ gb350 := Nat.ne_of_lt (Nat.lt_of_lt_of_le (by have := World.block_lt_of_cell? _ _ hx351_0; first | rwa [add_block] at this | exact this) GW350.out); replace hx351_0 := (HB.out.cell (World.block_lt_of_cell? w _ hx351_0)).trans hx351_0; replace hx351_1 := (HB.out.cell (World.block_lt_of_cell? w _ hx351_1)).trans hx351_1; replace hx351_0 := (cell_far (p := ⟨gb350, 0, none⟩) (by first | (rw [add_block]; exact hn351_0) | (show (Addr.add _ _).block ≠ _; rw [add_block]; exact hn351_0) | exact hn351_0) (.int .i64 ((rd_T47 l2 x79_5).f0))).trans hx351_0; replace hx351_1 := (cell_far (p := ⟨gb350, 0, none⟩) (by first | (rw [add_block]; exact hn351_0) | (show (Addr.add _ _).block ≠ _; rw [add_block]; exact hn351_0) | exact hn351_0) (.int .i64 ((rd_T47 l2 x79_5).f0))).trans hx351_1; replace hx351_0 := (cell_far (p := ⟨gb350, 1, none⟩) (by first | (rw [add_block]; exact hn351_1) | (show (Addr.add _ _).block ≠ _; rw [add_block]; exact hn351_1) | exact hn351_1) (.int .i64 ((rd_T47 l2 x79_5).f1))).trans hx351_0; replace hx351_1 := (cell_far (p := ⟨gb350, 1, none⟩) (by first | (rw [add_block]; exact hn351_1) | (show (Addr.add _ _).block ≠ _; rw [add_block]; exact hn351_1) | exact hn351_1) (.int .i64 ((rd_T47 l2 x79_5).f1))).trans hx351_1; (try have hy351_0 := fun (n_ : Nat) => (show ((((w96.drewN n_).setCell ⟨gb350, 0, none⟩ (.int .i64 ((rd_T47 l2 x79_5).f0))).setCell ⟨gb350, 1, none⟩ (.int .i64 ((rd_T47 l2 x79_5).f1)))).cell? _ = some _ from hx351_0)); (try have hy351_1 := fun (n_ : Nat) => (show ((((w96.drewN n_).setCell ⟨gb350, 0, none⟩ (.int .i64 ((rd_T47 l2 x79_5).f0))).setCell ⟨gb350, 1, none⟩ (.int .i64 ((rd_T47 l2 x79_5).f1)))).cell? _ = some _ from hx351_1)); clear hn351_0; clear hn351_1; replace p351 := eq_true p351; replace q351 := eq_true q351)); try go_wp2_with (first | ((with_reducible refine gate_dst (N := 12) rfl ?_); (try (refine gate_guard (by rfl) ?_; dsimp only)); refine box_event ?hg (N := 12) ?hd (cs := #[.int .i64 0, .int .i64 0]) (t := 47) ?hr ?_; (case hd => rfl); (case hg => rfl); (case hr => first | (go_simp; done) | (go_simp; rfl)); intro gb350 hg w96 hbox hb; have n0_ := zA (blk_below (g := gb333) (o := .cells #[.int .i64 a0_0, .int .i64 a0_1, .int .i64 a0_2, .int .i64 a0_3, .int .i64 a0_4] 57 (0, 0)) (zqB BK333.out) hb); have n1_ := zA (blk_below (g := gb334) (o := .cells #[.int .i64 a1_0, .int .i64 a1_1] 47 (0, 0)) (zqB BK334.out) hb); have n2_ := zA (below_step (zqH HB.out GE333.out GE334.out) hb); have n3_ := zA (hbox); have n4_ := zA ((by rw [hg]; exact (below_size (zqH HB.out GE333.out GE334.out)) : w.heap.size ≤ gb350)); have n5_ := zA ((by rw [hg]; exact (below_size (zqH HB.out GE333.out GE334.out)) : w.heap.size ≤ gb350)); have n6_ := zA ((by rw [hg]; exact Nat.ne_of_lt (blk_lt (g := gb333) (o := .cells #[.int .i64 a0_0, .int .i64 a0_1, .int .i64 a0_2, .int .i64 a0_3, .int .i64 a0_4] 57 (0, 0)) (zqB BK333.out)) : gb333 ≠ gb350)); have n7_ := zA ((by rw [hg]; exact Nat.ne_of_gt (blk_lt (g := gb333) (o := .cells #[.int .i64 a0_0, .int .i64 a0_1, .int .i64 a0_2, .int .i64 a0_3, .int .i64 a0_4] 57 (0, 0)) (zqB BK333.out)) : gb350 ≠ gb333)); have n8_ := zA ((by rw [hg]; exact Nat.ne_of_lt (blk_lt (g := gb334) (o := .cells #[.int .i64 a1_0, .int .i64 a1_1] 47 (0, 0)) (zqB BK334.out)) : gb334 ≠ gb350)); have n9_ := zA ((by rw [hg]; exact Nat.ne_of_gt (blk_lt (g := gb334) (o := .cells #[.int .i64 a1_0, .int .i64 a1_1] 47 (0, 0)) (zqB BK334.out)) : gb350 ≠ gb334)); clear BK333; clear BK334; clear HB; have BK333 := n0_; have BK334 := n1_; have HB := n2_; have BK350 := n3_; have GW350 := n4_; have GE350 := n5_; have NB333_350 := n6_; have NB350_333 := n7_; have NB334_350 := n8_; have NB350_334 := n9_; clear n0_ n1_ n2_ n3_ n4_ n5_ n6_ n7_ n8_ n9_; clear hb hbox hg; have hnb97 := NB350_333.out; have hnc97 := NB333_350.out; have hnb98 := NB350_334.out; have hnc98 := NB334_350.out; have hcz99_0 : w96.cell? ⟨gb350, 0, none⟩ = some (.int .i64 0) := (blk_cell BK350.out 0).trans rfl; have hcz99_1 : w96.cell? ⟨gb350, 1, none⟩ = some (.int .i64 0) := (blk_cell BK350.out 1).trans rfl; have hfz99_0 := blk_frozen BK350.out 0; have hfz99_1 := blk_frozen BK350.out 1; have hnb100 := NB333_334.out; have hnc100 := NB334_333.out; have hcz101_0 : w96.cell? ⟨gb333, 0, none⟩ = some (.int .i64 a0_0) := (blk_cell BK333.out 0).trans rfl; have hcz101_1 : w96.cell? ⟨gb333, 1, none⟩ = some (.int .i64 a0_1) := (blk_cell BK333.out 1).trans rfl; have hcz101_2 : w96.cell? ⟨gb333, 2, none⟩ = some (.int .i64 a0_2) := (blk_cell BK333.out 2).trans rfl; have hcz101_3 : w96.cell? ⟨gb333, 3, none⟩ = some (.int .i64 a0_3) := (blk_cell BK333.out 3).trans rfl; have hcz101_4 : w96.cell? ⟨gb333, 4, none⟩ = some (.int .i64 a0_4) := (blk_cell BK333.out 4).trans rfl; have hfz101_0 := blk_frozen BK333.out 0; have hfz101_1 := blk_frozen BK333.out 1; have hfz101_2 := blk_frozen BK333.out 2; have hfz101_3 := blk_frozen BK333.out 3; have hfz101_4 := blk_frozen BK333.out 4; have p351 : 0 ≤ ((ji79) : Int) := of_decide_eq_true (zqD); have q351 : (ji79) < (l2.length : Int) := of_decide_eq_true (zqD); obtain ⟨ad351, e351, hx351_0, hx351_1⟩ := at_T47 HR2.out (ji79) p351 q351; obtain rfl : ad349 = ad351 := (by injection e351); have hn351_0 : ad349.block ≠ gb350 := Nat.ne_of_lt (Nat.lt_of_lt_of_le (by have := World.block_lt_of_cell? _ _ hx351_0; first | rwa [add_block] at this | exact this) GW350.out); have hn351_1 : ad349.block ≠ gb350 := Nat.ne_of_lt (Nat.lt_of_lt_of_le (by have := World.block_lt_of_cell? _ _ hx351_0; first | rwa [add_block] at this | exact this) GW350.out); replace hx351_0 := (HB.out.cell (World.block_lt_of_cell? w _ hx351_0)).trans hx351_0; replace hx351_1 := (HB.out.cell (World.block_lt_of_cell? w _ hx351_1)).trans hx351_1; replace hx351_0 := (cell_far (p := ⟨gb350, 0, none⟩) (by first | (rw [add_block]; exact hn351_0) | (show (Addr.add _ _).block ≠ _; rw [add_block]; exact hn351_0) | exact hn351_0) (.int .i64 ((rd_T47 l2 x79_5).f0))).trans hx351_0; replace hx351_1 := (cell_far (p := ⟨gb350, 0, none⟩) (by first | (rw [add_block]; exact hn351_0) | (show (Addr.add _ _).block ≠ _; rw [add_block]; exact hn351_0) | exact hn351_0) (.int .i64 ((rd_T47 l2 x79_5).f0))).trans hx351_1; replace hx351_0 := (cell_far (p := ⟨gb350, 1, none⟩) (by first | (rw [add_block]; exact hn351_1) | (show (Addr.add _ _).block ≠ _; rw [add_block]; exact hn351_1) | exact hn351_1) (.int .i64 ((rd_T47 l2 x79_5).f1))).trans hx351_0; replace hx351_1 := (cell_far (p := ⟨gb350, 1, none⟩) (by first | (rw [add_block]; exact hn351_1) | (show (Addr.add _ _).block ≠ _; rw [add_block]; exact hn351_1) | exact hn351_1) (.int .i64 ((rd_T47 l2 x79_5).f1))).trans hx351_1; (try have hy351_0 := fun (n_ : Nat) => (show ((((w96.drewN n_).setCell ⟨gb350, 0, none⟩ (.int .i64 ((rd_T47 l2 x79_5).f0))).setCell ⟨gb350, 1, none⟩ (.int .i64 ((rd_T47 l2 x79_5).f1)))).cell? _ = some _ from hx351_0)); (try have hy351_1 := fun (n_ : Nat) => (show ((((w96.drewN n_).setCell ⟨gb350, 0, none⟩ (.int .i64 ((rd_T47 l2 x79_5).f0))).setCell ⟨gb350, 1, none⟩ (.int .i64 ((rd_T47 l2 x79_5).f1)))).cell? _ = some _ from hx351_1)); clear hn351_0; clear hn351_1; replace p351 := eq_true p351; replace q351 := eq_true q351)))
                           go_roundg k5
                           case measure => have := HJ3.out; have := HK2.out; have := HJ35.out; have := HK4.out; have := HK5.out; omega
                           case rel => exact ⟨(wrap64 (x79_5 + 1)), zqQ, H', ⟨by have := HJ3.out; have := HK2.out; have := HJ35.out; have := HK4.out; have := HK5.out; omega⟩, ⟨by (with_reducible repeat (first | refine blk_drewN ?_ _ | refine blk_drew ?_ | refine blk_alloc ?_ _)); refine blk_far ?_ NB333_350.out _; (with_reducible repeat (first | refine blk_drewN ?_ _ | refine blk_drew ?_ | refine blk_alloc ?_ _)); refine blk_far ?_ NB333_350.out _; (with_reducible repeat (first | refine blk_drewN ?_ _ | refine blk_drew ?_ | refine blk_alloc ?_ _)); exact BK333.out⟩, ⟨by (with_reducible repeat (first | refine blk_drewN ?_ _ | refine blk_drew ?_ | refine blk_alloc ?_ _)); refine blk_far ?_ NB334_350.out _; (with_reducible repeat (first | refine blk_drewN ?_ _ | refine blk_drew ?_ | refine blk_alloc ?_ _)); refine blk_far ?_ NB334_350.out _; (with_reducible repeat (first | refine blk_drewN ?_ _ | refine blk_drew ?_ | refine blk_alloc ?_ _)); exact BK334.out⟩, ⟨zqI HB.out GE333.out GE334.out GE350.out⟩⟩
                        ·
                         rw [if_neg c81] at H
                         exact absurd H (by simp)
                       ·
                        rw [if_neg c80] at H
                        exact absurd H (by simp)
                    ·
                     rw [if_neg c64] at H
                     exact absurd H (by simp)
                   ·
                    rw [if_neg c63] at H
                    exact absurd H (by simp)
                  ·
                   rw [if_neg c62] at H
                   have c62b0 : decide (x79_5 < (l2.length : Int)) = false := decide_eq_false c62
                   clear c62
                   obtain rfl := Option.some.inj H
                   go_wp2
                   repeat (go_quiet (fail); try go_wp2)
                   go_ret
                   exact ⟨zqR, zqH HB.out GE333.out GE334.out⟩
            ·
             rw [if_neg c47] at H
             exact absurd H (by simp)
end Go.Proofs.Ytegffliopblajaa.P
end
section
namespace Go.Proofs.Ytegffliopblajaa.P
open Go.RowKit Go.Proofs.YtegffliopblajaaW.PrintWords Go.Proofs.YtegffliopblajaaW.PrintLast Go.Proofs.YtegffliopblajaaW.PrintMore
attribute [local go_sem] max2_int min2_int max_two min_two max_three min_three max_four min_four
set_option linter.unusedVariables false
set_option linter.unusedSimpArgs false
attribute [local go_sem high] eqA47
def pianolalaw03_J.f  : Option (Int × (List (S47))) := some (2, (([(⟨0, 4⟩ : S47), (⟨3, 9⟩ : S47), (⟨6, 8⟩ : S47), (⟨5, 7⟩ : S47), (⟨10, 12⟩ : S47)] : List (S47))))
set_option maxHeartbeats 8000000 in
set_option maxRecDepth 100000 in
theorem pianolalaw03_J.calls  (r1 : Int) (r2 : List (S47)) (w : World) (h : pianolalaw03_J.f  = some (r1, r2)) :
  Calls Try.prog 46 #[] w fun e w' => ∃ v1_ : Value, e = .returned (.agg #[.int .i64 r1, v1_]) ∧ Kd.R k47 47 w' w.heap.size (fun _ => True) v1_ r2 ∧ Below w.heap.size w w' := by
 have hu24 := Try.underlying24
 have hu47 := Try.underlying47
 have HB := zA (Below.refl w.heap.size w)
 have H : (some (2, (([(⟨0, 4⟩ : S47), (⟨3, 9⟩ : S47), (⟨6, 8⟩ : S47), (⟨5, 7⟩ : S47), (⟨10, 12⟩ : S47)] : List (S47))))) = some (r1, r2) := h
 clear h
 obtain ⟨y634, hy634⟩ : ∃ y_ : List (S47), y_ = (([(⟨0, 4⟩ : S47), (⟨3, 9⟩ : S47), (⟨6, 8⟩ : S47), (⟨5, 7⟩ : S47), (⟨10, 12⟩ : S47)] : List (S47))) := ⟨_, rfl⟩
 replace H : (some (2, y634)) = some (r1, r2) := zqF hy634 H
 have Ny634 := zA hy634
 clear hy634
 simp only [Option.some.injEq, Prod.mk.injEq] at H
 obtain ⟨rfl, rfl⟩ := H
 go_enter Try.func46, Try.ntmps46
 go_wp2_with (first | ((with_reducible refine gate_dst (N := 0) rfl ?_); refine box_event ?hg (N := 0) ?hd (cs := #[.int .i64 0, .slice none 0 0]) (t := 24) ?hr ?_; (case hd => rfl); (case hg => rfl); (case hr => first | (go_simp; done) | (go_simp; rfl)); intro gb633 hg w1 hbox hb; have n0_ := zA (below_step (zqA HB.out) hb); have n1_ := zA (hbox); have n2_ := zA ((by rw [hg]; exact (below_size (zqA HB.out)) : w.heap.size ≤ gb633)); have n3_ := zA ((by rw [hg]; exact (below_size (zqA HB.out)) : w.heap.size ≤ gb633)); clear HB; have HB := n0_; have BK633 := n1_; have GW633 := n2_; have GE633 := n3_; clear n0_ n1_ n2_ n3_; clear hb hbox hg) | ((with_reducible refine gate_dst (N := 6) rfl ?_); refine Kd.R_lit k47 _ 47 ?hg (N := 6) ?hd (xs := ([(⟨0, 4⟩ : S47), (⟨3, 9⟩ : S47), (⟨6, 8⟩ : S47), (⟨5, 7⟩ : S47), (⟨10, 12⟩ : S47)] : List (S47))) (inner := [.int .i64 0, .int .i64 4, .int .i64 3, .int .i64 9, .int .i64 6, .int .i64 8, .int .i64 5, .int .i64 7, .int .i64 10, .int .i64 12]) (ok := fun _ => True) (okp := fun _ => True) ?hr ?hp (fun _ hk => hk) trivial (Below.refl _ _) (Nat.le_refl _) (by simp) ?_; (case hd => rfl); (case hg => rfl); (case hr => first | (go_simp; done) | (go_simp; rfl)); (case hp => exact (Reps.c2 (show Kd.M k47 _ _ _ (⟨0, 4⟩ : S47) [.int .i64 0, .int .i64 4] from (k47_mkM _ _ _ (⟨0, 4⟩ : S47) )) (Reps.c2 (show Kd.M k47 _ _ _ (⟨3, 9⟩ : S47) [.int .i64 3, .int .i64 9] from (k47_mkM _ _ _ (⟨3, 9⟩ : S47) )) (Reps.c2 (show Kd.M k47 _ _ _ (⟨6, 8⟩ : S47) [.int .i64 6, .int .i64 8] from (k47_mkM _ _ _ (⟨6, 8⟩ : S47) )) (Reps.c2 (show Kd.M k47 _ _ _ (⟨5, 7⟩ : S47) [.int .i64 5, .int .i64 7] from (k47_mkM _ _ _ (⟨5, 7⟩ : S47) )) (Reps.c2 (show Kd.M k47 _ _ _ (⟨10, 12⟩ : S47) [.int .i64 10, .int .i64 12] from (k47_mkM _ _ _ (⟨10, 12⟩ : S47) )) (Reps.none _ _))))))); intro v635 w2 ho3 hb hg_ hnew_; clear hg_ hnew_; (first | rw [← Ny634.out] at ho3 | (simp only [Int.reduceToNat] at ho3; rw [← Ny634.out] at ho3)); have n0_ := zA (Kd.R_lower ho3 (below_size (zqG HB.out GE633.out))); have n1_ := zA (blk_below (g := gb633) (o := .cells #[.int .i64 0, .slice none 0 0] 24 (0, 0)) (zqB BK633.out) hb); have n2_ := zA (below_step (zqG HB.out GE633.out) hb); clear BK633; clear HB; have HO636 := n0_; have BK633 := n1_; have HB := n2_; clear n0_ n1_ n2_; clear hb ho3; obtain ⟨Ao4, co4, eo4⟩ := Kd.R_slice HO636.out; subst eo4; have hcz5_0 : w2.cell? ⟨gb633, 0, none⟩ = some (.int .i64 0) := (blk_cell BK633.out 0).trans rfl; have hcz5_1 : w2.cell? ⟨gb633, 1, none⟩ = some (.slice none 0 0) := (blk_cell BK633.out 1).trans rfl; have hfz5_0 := blk_frozen BK633.out 0; have hfz5_1 := blk_frozen BK633.out 1))
 refine bodyPost_ret (results_cell_row rfl _ _ gb633 24 #[.int .i64 2, .slice Ao4 y634.length co4] (0, 0) _ rfl (by (with_reducible repeat (first | refine blk_drewN ?_ _ | refine blk_drew ?_ | refine blk_alloc ?_ _)); refine blk_put (cs := #[.int .i64 2, .slice none 0 0]) ?_ 1 _ rfl; (with_reducible repeat (first | refine blk_drewN ?_ _ | refine blk_drew ?_ | refine blk_alloc ?_ _)); refine blk_put (cs := #[.int .i64 0, .slice none 0 0]) ?_ 0 _ rfl; (with_reducible repeat (first | refine blk_drewN ?_ _ | refine blk_drew ?_ | refine blk_alloc ?_ _)); exact BK633.out) Try.underlying24 rfl (by kernel_rfl)) rfl ?_
 exact ⟨_, zqR, by (with_reducible repeat (first | apply Kd.R_alloc | apply Kd.R_drewN | apply Kd.R_drew)); exact Kd.R_mono (Kd.R_far (p := ⟨gb633, 1, none⟩) (Kd.R_far (p := ⟨gb633, 0, none⟩) (Kd.R_types HO636.out BK633.out (by decide)) (fun _ hk => hk.2) (.int .i64 2)) (fun _ hk => hk.2) (.slice Ao4 y634.length co4)) (fun _ hk => trivial), zqG HB.out GE633.out⟩
def pianolalaw03_P.f  : Option (Int × Int × Int × Int × Int) := some (980, 1020, 51, 10, 21)
set_option maxHeartbeats 8000000 in
set_option maxRecDepth 100000 in
theorem pianolalaw03_P.calls  (r1 : Int) (r2 : Int) (r3 : Int) (r4 : Int) (r5 : Int) (w : World) (h : pianolalaw03_P.f  = some (r1, r2, r3, r4, r5)) :
  Calls Try.prog 47 #[] w fun e w' => e = .returned (.agg #[.int .i64 r1, .int .i64 r2, .int .i64 r3, .int .i64 r4, .int .i64 r5]) ∧ Below w.heap.size w w' := by
 have hu57 := Try.underlying57
 have hu55 := Try.underlying55
 have HB := zA (Below.refl w.heap.size w)
 have H : (some (980, 1020, 51, 10, 21)) = some (r1, r2, r3, r4, r5) := h
 clear h
 simp only [Option.some.injEq, Prod.mk.injEq] at H
 obtain ⟨rfl, rfl, rfl, rfl, rfl⟩ := H
 go_enter Try.func47, Try.ntmps47
 go_wp2_with (first | ((with_reducible refine gate_dst (N := 0) rfl ?_); refine box_event ?hg (N := 0) ?hd (cs := #[.int .i64 0, .int .i64 0, .int .i64 0, .int .i64 0, .int .i64 0]) (t := 57) ?hr ?_; (case hd => rfl); (case hg => rfl); (case hr => first | (go_simp; done) | (go_simp; rfl)); intro gb637 hg w1 hbox hb; have n0_ := zA (below_step (zqA HB.out) hb); have n1_ := zA (hbox); have n2_ := zA ((by rw [hg]; exact (below_size (zqA HB.out)) : w.heap.size ≤ gb637)); have n3_ := zA ((by rw [hg]; exact (below_size (zqA HB.out)) : w.heap.size ≤ gb637)); clear HB; have HB := n0_; have BK637 := n1_; have GW637 := n2_; have GE637 := n3_; clear n0_ n1_ n2_ n3_; clear hb hbox hg; have hcz2_0 : w1.cell? ⟨gb637, 0, none⟩ = some (.int .i64 0) := (blk_cell BK637.out 0).trans rfl; have hcz2_1 : w1.cell? ⟨gb637, 1, none⟩ = some (.int .i64 0) := (blk_cell BK637.out 1).trans rfl; have hcz2_2 : w1.cell? ⟨gb637, 2, none⟩ = some (.int .i64 0) := (blk_cell BK637.out 2).trans rfl; have hcz2_3 : w1.cell? ⟨gb637, 3, none⟩ = some (.int .i64 0) := (blk_cell BK637.out 3).trans rfl; have hcz2_4 : w1.cell? ⟨gb637, 4, none⟩ = some (.int .i64 0) := (blk_cell BK637.out 4).trans rfl; have hfz2_0 := blk_frozen BK637.out 0; have hfz2_1 := blk_frozen BK637.out 1; have hfz2_2 := blk_frozen BK637.out 2; have hfz2_3 := blk_frozen BK637.out 3; have hfz2_4 := blk_frozen BK637.out 4))
 refine bodyPost_ret (results_cell_row rfl _ _ gb637 57 #[.int .i64 980, .int .i64 1020, .int .i64 51, .int .i64 10, .int .i64 21] (0, 0) _ rfl (by (with_reducible repeat (first | refine blk_drewN ?_ _ | refine blk_drew ?_ | refine blk_alloc ?_ _)); refine blk_put (cs := #[.int .i64 980, .int .i64 1020, .int .i64 51, .int .i64 10, .int .i64 0]) ?_ 4 _ rfl; (with_reducible repeat (first | refine blk_drewN ?_ _ | refine blk_drew ?_ | refine blk_alloc ?_ _)); refine blk_put (cs := #[.int .i64 980, .int .i64 1020, .int .i64 51, .int .i64 0, .int .i64 0]) ?_ 3 _ rfl; (with_reducible repeat (first | refine blk_drewN ?_ _ | refine blk_drew ?_ | refine blk_alloc ?_ _)); refine blk_put (cs := #[.int .i64 980, .int .i64 1020, .int .i64 0, .int .i64 0, .int .i64 0]) ?_ 2 _ rfl; (with_reducible repeat (first | refine blk_drewN ?_ _ | refine blk_drew ?_ | refine blk_alloc ?_ _)); refine blk_put (cs := #[.int .i64 980, .int .i64 0, .int .i64 0, .int .i64 0, .int .i64 0]) ?_ 1 _ rfl; (with_reducible repeat (first | refine blk_drewN ?_ _ | refine blk_drew ?_ | refine blk_alloc ?_ _)); refine blk_put (cs := #[.int .i64 0, .int .i64 0, .int .i64 0, .int .i64 0, .int .i64 0]) ?_ 0 _ rfl; (with_reducible repeat (first | refine blk_drewN ?_ _ | refine blk_drew ?_ | refine blk_alloc ?_ _)); exact BK637.out) Try.underlying57 rfl (by kernel_rfl)) rfl ?_
 exact ⟨zqR, zqG HB.out GE637.out⟩
def pianolalaw03_slots.l0 : Nat → List (S47) → List (S47) → Int → Option (Bool)
  | 0, _, _, _ => none
  | k + 1, x0, x1, x5 => if x5 < (x0.length : Int) then (if 0 ≤ x5 then (if x5 < (x1.length : Int) then (if (!(((rd_T47 x0 x5).f0) == ((rd_T47 x1 x5).f0)) || (!(((rd_T47 x0 x5).f1) == ((rd_T47 x1 x5).f1)))) = true then (some false) else (pianolalaw03_slots.l0 k x0 x1 (wrap64 (x5 + 1)))) else (none)) else (none)) else (some true)
def pianolalaw03_slots.f (k : Nat) (l0 : List (S47)) (l1 : List (S47)) : Option (Bool) := if (l0.length : Int) = (l1.length : Int) then (pianolalaw03_slots.l0 k l0 l1 0) else (some false)
set_option maxHeartbeats 8000000 in
set_option maxRecDepth 100000 in
theorem pianolalaw03_slots.calls (k : Nat) (A0 : Option Addr) (c0 : Nat) (l0 : List (S47)) (A1 : Option Addr) (c1 : Nat) (l1 : List (S47)) (r : Bool) (w : World) (hr0 : Kd.C k47 w A0 l0.length l0) (hc0 : l0.length ≤ c0) (hr1 : Kd.C k47 w A1 l1.length l1) (hc1 : l1.length ≤ c1) (h : pianolalaw03_slots.f k l0 l1 = some r) :
  Calls Try.prog 48 #[.slice A0 l0.length c0, .slice A1 l1.length c1] w fun e w' => e = .returned (.bool r) ∧ Drawn0 w w' := by
 have hu47 := Try.underlying47
 have HR0 := zA hr0
 have HC0 := zA hc0
 clear hr0 hc0
 have HR1 := zA hr1
 have HC1 := zA hc1
 clear hr1 hc1
 have H : (if (l0.length : Int) = (l1.length : Int) then (pianolalaw03_slots.l0 k l0 l1 0) else (some false)) = some r := h
 clear h
 by_cases c3 : (l0.length : Int) = (l1.length : Int)
 ·
  rw [if_pos c3] at H
  have c3b0 : ((l0.length : Int) == (l1.length : Int)) = true := beq_iff_eq.mpr c3
  have c3b1 : ((l0.length : Int) != (l1.length : Int)) = false := bne_eq_false_iff_eq.mpr c3
  have c3b2 : (l0.length == l1.length) = true := by first | simpa using c3 | (simp at c3 ⊢; omega)
  clear c3
  have H' := zA H
  clear H
  go_enter Try.func48, Try.ntmps48
  go_wp2
  repeat (go_quiet (fail); try go_wp2)
  go_loopg [5] k (fun kq v5 w' => ∃ (x5_1 : Int), v5 = .int .i64 x5_1 ∧ Aside0 (pianolalaw03_slots.l0 kq l0 l1 x5_1 = some r) ∧ Aside0 (kq ≤ k) ∧ Drawn0 w w')
  case atStart => exact ⟨(0), zqQ, H', ⟨Nat.le_refl _⟩, by repeat (first | exact Drawn0.refl _ | apply Drawn0.step)⟩
  case round =>
   clear H'
   try clear c1
   try clear p2
   try clear c3
   try clear c3b0
   try clear c3b1
   try clear c3b2
   obtain ⟨x5_1, rfl, HA, HK1, ⟨m1, rfl⟩⟩ := hrel
   cases gk with
   | zero => exact absurd HA.out (by simp [pianolalaw03_slots.l0])
   | succ k1 =>
    have H := HA.out
    clear HA
    simp only [pianolalaw03_slots.l0] at H
    by_cases c4 : x5_1 < (l0.length : Int)
    ·
     rw [if_pos c4] at H
     have c4b0 : decide (x5_1 < (l0.length : Int)) = true := decide_eq_true c4
     clear c4
     by_cases c5 : 0 ≤ x5_1
     ·
      rw [if_pos c5] at H
      have c5b0 : decide (0 ≤ x5_1) = true := decide_eq_true c5
      clear c5
      by_cases c6 : x5_1 < (l1.length : Int)
      ·
       rw [if_pos c6] at H
       have c6b0 : decide (x5_1 < (l1.length : Int)) = true := decide_eq_true c6
       clear c6
       by_cases c7 : (!(((rd_T47 l0 x5_1).f0) == ((rd_T47 l1 x5_1).f0)) || (!(((rd_T47 l0 x5_1).f1) == ((rd_T47 l1 x5_1).f1)))) = true
       ·
        rw [if_pos c7] at H
        have c7b0 : (!(((rd_T47 l0 x5_1).f0) == ((rd_T47 l1 x5_1).f0)) || (!(((rd_T47 l0 x5_1).f1) == ((rd_T47 l1 x5_1).f1)))) = true := c7
        clear c7
        obtain rfl := Option.some.inj H
        have p638 : 0 ≤ (x5_1 : Int) := of_decide_eq_true (zqD)
        have q638 : x5_1 < (l0.length : Int) := of_decide_eq_true (zqD)
        obtain ⟨ad638, e638, hx638_0, hx638_1⟩ := at_T47 HR0.out x5_1 p638 q638
        cases e638; replace p638 := eq_true p638; replace q638 := eq_true q638
        have p639 : 0 ≤ (x5_1 : Int) := of_decide_eq_true (zqD)
        have q639 : x5_1 < (l1.length : Int) := of_decide_eq_true (zqD)
        obtain ⟨ad639, e639, hx639_0, hx639_1⟩ := at_T47 HR1.out x5_1 p639 q639
        cases e639; replace p639 := eq_true p639; replace q639 := eq_true q639
        go_wp2
        repeat (go_quiet (fail); try go_wp2)
        go_ret
        exact ⟨by first | rfl | (simp; done) | (simp [*]; done), by repeat (first | exact Drawn0.refl _ | apply Drawn0.step)⟩
       ·
        rw [if_neg c7] at H
        have c7b0 : (!(((rd_T47 l0 x5_1).f0) == ((rd_T47 l1 x5_1).f0)) || (!(((rd_T47 l0 x5_1).f1) == ((rd_T47 l1 x5_1).f1)))) = false := by simpa using c7
        clear c7
        have H' := zA H
        clear H
        have p638 : 0 ≤ (x5_1 : Int) := of_decide_eq_true (zqD)
        have q638 : x5_1 < (l0.length : Int) := of_decide_eq_true (zqD)
        obtain ⟨ad638, e638, hx638_0, hx638_1⟩ := at_T47 HR0.out x5_1 p638 q638
        cases e638; replace p638 := eq_true p638; replace q638 := eq_true q638
        have p639 : 0 ≤ (x5_1 : Int) := of_decide_eq_true (zqD)
        have q639 : x5_1 < (l1.length : Int) := of_decide_eq_true (zqD)
        obtain ⟨ad639, e639, hx639_0, hx639_1⟩ := at_T47 HR1.out x5_1 p639 q639
        cases e639; replace p639 := eq_true p639; replace q639 := eq_true q639
        go_wp2
        repeat (go_quiet (fail); try go_wp2)
        go_roundg k1
        case measure => have := HK1.out; omega
        case rel => exact ⟨(wrap64 (x5_1 + 1)), zqQ, H', ⟨by have := HK1.out; omega⟩, by repeat (first | exact Drawn0.refl _ | apply Drawn0.step)⟩
      ·
       rw [if_neg c6] at H
       exact absurd H (by simp)
     ·
      rw [if_neg c5] at H
      exact absurd H (by simp)
    ·
     rw [if_neg c4] at H
     have c4b0 : decide (x5_1 < (l0.length : Int)) = false := decide_eq_false c4
     clear c4
     obtain rfl := Option.some.inj H
     go_wp2
     repeat (go_quiet (fail); try go_wp2)
     go_ret
     exact ⟨by first | rfl | (simp; done) | (simp [*]; done), by repeat (first | exact Drawn0.refl _ | apply Drawn0.step)⟩
 ·
  rw [if_neg c3] at H
  have c3b0 : ((l0.length : Int) == (l1.length : Int)) = false := beq_eq_false_iff_ne.mpr c3
  have c3b1 : ((l0.length : Int) != (l1.length : Int)) = true := bne_iff_ne.mpr c3
  have c3b2 : (l0.length == l1.length) = false := by first | simpa using c3 | (simp at c3 ⊢; omega)
  obtain rfl := Option.some.inj H
  go_enter Try.func48, Try.ntmps48
  go_wp2
  repeat (go_quiet (fail); try go_wp2)
  go_ret
  exact ⟨by first | rfl | (simp; done) | (simp [*]; done), by repeat (first | exact Drawn0.refl _ | apply Drawn0.step)⟩
end Go.Proofs.Ytegffliopblajaa.P
end
section
namespace Go.Proofs.Ytegffliopblajaa.P
open Go.RowKit Go.Stb Go.Sort Go.Proofs.YtegffliopblajaaW.PrintWords Go.Proofs.YtegffliopblajaaW.PrintLast Go.Proofs.YtegffliopblajaaW.PrintMore
set_option linter.unusedVariables false
set_option linter.unusedSimpArgs false
theorem ordF_uniq {l : List S47} {d : List (Fin l.length)} (hp : d.Perm (List.finRange l.length)) (hs : d.Pairwise (fun x y => ltS l y x = false)) : ordF l = d := by
  have h1 : (ordF l).Pairwise (fun x y => (!ltS l y x) = true) := List.pairwise_mergeSort (fun a b c h1 h2 => by
    simp only [Bool.not_eq_true'] at *
    exact (ltS_swo l).ntrans c b a h2 h1) (fun a b => by
    cases h : ltS l b a
    · rfl
    · have : ltS l a b = false := by
        cases h2 : ltS l a b
        · rfl
        · have := (ltS_swo l).trans _ _ _ h h2
          rw [(ltS_swo l).irrefl] at this; cases this
      simp [this]) _
  have h2 : (ordF l).Pairwise (fun x y => ltS l y x = false) := h1.imp (fun h => by simpa using h)
  exact ((List.mergeSort_perm _ _).trans hp.symm).eq_of_pairwise (fun x y _ _ hxy hyx => ltS_total l x y hyx hxy) h2 hs
def exJ : List S47 := [⟨0, 4⟩, ⟨3, 9⟩, ⟨6, 8⟩, ⟨5, 7⟩, ⟨10, 12⟩]
theorem exJ_f : pianolalaw03_J.f = some (2, exJ) := by kernel_rfl
theorem exP_f : pianolalaw03_P.f = some (980, 1020, 51, 10, 21) := by kernel_rfl
theorem exJ_ord : ordL exJ = [0, 1, 3, 2, 4] := by
  unfold ordL
  rw [ordF_uniq (l := exJ) (d := [⟨0, by decide⟩, ⟨1, by decide⟩, ⟨3, by decide⟩, ⟨2, by decide⟩, ⟨4, by decide⟩]) (by decide) (by decide)]
  rfl
theorem exJ_check : punch_Check.f 2 exJ = some 0 := by kernel_rfl
theorem exJ_plan : planL 2 exJ = [0, 1, 0, 2, 0] := by
  unfold planL
  rw [exJ_ord]
  kernel_rfl
theorem exJ_passes : punch_Passes.f 2 exJ = some ([0, 1, 0, 2, 0], 3, 0) := by
  unfold punch_Passes.f
  rw [exJ_check, exJ_plan]
  kernel_rfl
theorem exJ_crowd : punch_Crowd.f 2 exJ 6 = some ([1, 2, 3], 0) := by kernel_rfl
theorem exJ_sort : sortI (exJ.map S47.f0) = [0, 3, 5, 6, 10] := (sortI_uniq (by decide) (by decide)).symm
theorem exJ_most : mostL 2 exJ = (5, 3) := by
  unfold mostL
  rw [exJ_sort]
  kernel_rfl
theorem exJ_prove : punch_Prove.f 2 exJ = some (5, 0) := by
  unfold punch_Prove.f
  rw [exJ_check, exJ_most]
  kernel_rfl
theorem exJ_add : punch_Add.f 2 exJ [0, 1, 0, 2, 0] 12 13 = some (1, 0) := by kernel_rfl
theorem exP_bars : punch_Bars.f 980 1020 51 10 21 = some (1, 50, 11, 20, 0) := by kernel_rfl
theorem exP_bridge : punch_Bridge.f 100 980 1020 51 10 21 100 151 = some ([⟨100, 139⟩, ⟨150, 151⟩], 0) := by kernel_rfl
theorem exJ_verify : punch_Verify.f 2 exJ [0, 1, 2, 2, 0] = some (0, 14) := by kernel_rfl
end Go.Proofs.Ytegffliopblajaa.P
end
