/- Words and contracts for a claim. -/
import Derived.Test.YtegffliopblajaaPunchFewest4

section
namespace Go.Proofs.Ytegffliopblajaa.P
open Go.RowKit Go.Proofs.YtegffliopblajaaW.PrintWords Go.Proofs.YtegffliopblajaaW.PrintLast Go.Proofs.YtegffliopblajaaW.PrintMore
attribute [local go_sem] max2_int min2_int max_two min_two max_three min_three max_four min_four
set_option linter.unusedVariables false
set_option linter.unusedSimpArgs false
mutual
def pianolalaw03_PunchFewest.j0 : Nat → Int → Bool → Int → Int → Int → Int → Int → Int → Int → Int → Int → Option (Bool)
  | 0, _, _, _, _, _, _, _, _, _, _, _ => none
  | k + 1, x1, x48, x615000, x615001, x615002, x615003, x615004, x621000, x621001, x622000, x622001 => if x48 = true then (some false) else ((punch_Bridge.f k x615000 x615001 x615002 x615003 x615004 3 (wrap64 (3 + (wrap64 (1 + (Int.tmod (wrap64 (x1)) 26)))))).bind fun bt624 => (pianolalaw03_PunchFewest.l0 k (wrap64 (1 + (Int.tmod (wrap64 (x1)) 26))) bt624.1 bt624.2 1 x615000 x615001 x615002 x615003 x615004 x621000 x621001 x622000 x622001 3 (wrap64 (3 + (wrap64 (1 + (Int.tmod (wrap64 (x1)) 26)))))))
def pianolalaw03_PunchFewest.l0 : Nat → Int → List (S47) → Int → Int → Int → Int → Int → Int → Int → Int → Int → Int → Int → Int → Int → Option (Bool)
  | 0, _, _, _, _, _, _, _, _, _, _, _, _, _, _, _ => none
  | k + 1, x9, x11, x12, x13, x615000, x615001, x615002, x615003, x615004, x621000, x621001, x622000, x622001, x624000, x624001 => if x13 ≤ 14 then ((pianolalaw03_divided.f k x621000 x621001 x622000 x622001 x9 x13).bind fun t629 => (if t629 = true then (if x12 = 0 then (if (x11.length : Int) = x13 then ((punch_Holds.f k x615000 x615001 x615002 x615003 x615004 x624000 x624001 x11).bind fun t630 => (pianolalaw03_PunchFewest.j2 k x9 x11 x13 (t630 != 0) x621000 x621001 x622000 x622001)) else (pianolalaw03_PunchFewest.j2 k x9 x11 x13 true x621000 x621001 x622000 x622001)) else (pianolalaw03_PunchFewest.j2 k x9 x11 x13 true x621000 x621001 x622000 x622001)) else (pianolalaw03_PunchFewest.l0 k x9 x11 x12 (wrap64 (x13 + 1)) x615000 x615001 x615002 x615003 x615004 x621000 x621001 x622000 x622001 x624000 x624001))) else (if x12 = 20 then (if (x11.length : Int) = 0 then ((pianolalaw03_works.f).bind fun t628 => (some t628)) else (some false)) else (some false))
def pianolalaw03_PunchFewest.j2 : Nat → Int → List (S47) → Int → Bool → Int → Int → Int → Int → Option (Bool)
  | 0, _, _, _, _, _, _, _, _ => none
  | k + 1, x9, x11, x13, x86, x621000, x621001, x622000, x622001 => if x86 = true then (some false) else (pianolalaw03_PunchFewest.l1 k x9 x11 x13 x621001 x621000 x621001 x622000 x622001)
def pianolalaw03_PunchFewest.l1 : Nat → Int → List (S47) → Int → Int → Int → Int → Int → Int → Option (Bool)
  | 0, _, _, _, _, _, _, _, _ => none
  | k + 1, x9, x11, x13, x14, x621000, x621001, x622000, x622001 => if x13 > 1 then (if 0 < (x11.length : Int) then (pianolalaw03_PunchFewest.j4 k x9 x11 x13 x14 (decide (x14 > (wrap64 (((rd_T47 x11 0).f1) - ((rd_T47 x11 0).f0))))) x621000 x621001 x622000 x622001) else (none)) else (pianolalaw03_PunchFewest.j4 k x9 x11 x13 x14 false x621000 x621001 x622000 x622001)
def pianolalaw03_PunchFewest.j4 : Nat → Int → List (S47) → Int → Int → Bool → Int → Int → Int → Int → Option (Bool)
  | 0, _, _, _, _, _, _, _, _, _ => none
  | k + 1, x9, x11, x13, x14, x103, x621000, x621001, x622000, x622001 => if x103 = true then (pianolalaw03_PunchFewest.l2 k x9 x11 x13 x14 (mx 1 x622000) x621000 x621001 x622000 x622001) else ((pianolalaw03_works.f).bind fun t633 => (some t633))
def pianolalaw03_PunchFewest.l2 : Nat → Int → List (S47) → Int → Int → Int → Int → Int → Int → Int → Option (Bool)
  | 0, _, _, _, _, _, _, _, _, _ => none
  | k + 1, x9, x11, x13, x14, x15, x621000, x621001, x622000, x622001 => if x15 ≤ x622001 then (if (wrap64 ((wrap64 (x9 - x14)) - x15)) ≥ 1 then ((pianolalaw03_divided.f k x621000 x621001 x622000 x622001 (wrap64 ((wrap64 (x9 - x14)) - x15)) (wrap64 (x13 - 1))).bind fun t634 => (if t634 = true then (some false) else (pianolalaw03_PunchFewest.l2 k x9 x11 x13 x14 (wrap64 (x15 + 1)) x621000 x621001 x622000 x622001))) else (pianolalaw03_PunchFewest.l2 k x9 x11 x13 x14 (wrap64 (x15 + 1)) x621000 x621001 x622000 x622001)) else (pianolalaw03_PunchFewest.l1 k x9 x11 x13 (wrap64 (x14 - 1)) x621000 x621001 x622000 x622001)
end
def pianolalaw03_PunchFewest.f (k : Nat) (a0_0 : Int) (a0_1 : Int) (a0_2 : Int) (a0_3 : Int) (a0_4 : Int) (a1 : Int) : Option (Bool) := (pianolalaw03_Sheet_made.f a0_0 a0_1 a0_2 a0_3 a0_4).bind fun bt609 => ((punch_Bars.f bt609.1 bt609.2.1 bt609.2.2.1 bt609.2.2.2.1 bt609.2.2.2.2).bind fun bt615 => (if bt615.2.2.2.2 = 0 then (if bt615.1 = 1 then (if bt615.2.1 > 20 then (pianolalaw03_PunchFewest.j0 k a1 true bt609.1 bt609.2.1 bt609.2.2.1 bt609.2.2.2.1 bt609.2.2.2.2 bt615.1 bt615.2.1 bt615.2.2.1 bt615.2.2.2.1) else (if bt615.2.2.2.1 > 20 then (pianolalaw03_PunchFewest.j0 k a1 true bt609.1 bt609.2.1 bt609.2.2.1 bt609.2.2.2.1 bt609.2.2.2.2 bt615.1 bt615.2.1 bt615.2.2.1 bt615.2.2.2.1) else (pianolalaw03_PunchFewest.j0 k a1 (decide (bt615.2.2.1 < 0)) bt609.1 bt609.2.1 bt609.2.2.1 bt609.2.2.2.1 bt609.2.2.2.2 bt615.1 bt615.2.1 bt615.2.2.1 bt615.2.2.2.1))) else (pianolalaw03_PunchFewest.j0 k a1 true bt609.1 bt609.2.1 bt609.2.2.1 bt609.2.2.2.1 bt609.2.2.2.2 bt615.1 bt615.2.1 bt615.2.2.1 bt615.2.2.2.1)) else (if bt615.2.2.2.2 = 20 then ((pianolalaw03_works.f).bind fun t622 => (some t622)) else (some false))))
theorem pianolalaw03_PunchFewest.j0_no {r : Bool} : ∀ {k : Nat} {x1 : Int} {x615000 : Int} {x615001 : Int} {x615002 : Int} {x615003 : Int} {x615004 : Int} {x621000 : Int} {x621001 : Int} {x622000 : Int} {x622001 : Int}, pianolalaw03_PunchFewest.j0 k x1 true x615000 x615001 x615002 x615003 x615004 x621000 x621001 x622000 x622001 = some r → r = true → False
  | 0, _, _, _, _, _, _, _, _, _, _ => by
    intro h
    simp [pianolalaw03_PunchFewest.j0] at h
  | k + 1, _, _, _, _, _, _, _, _, _, _ => by
    intro h hr
    rw [pianolalaw03_PunchFewest.j0, if_pos rfl] at h
    subst hr
    exact absurd (Option.some.inj h) (by decide)
theorem pianolalaw03_PunchFewest.j2_no {r : Bool} : ∀ {k : Nat} {x9 : Int} {x11 : List (S47)} {x13 : Int} {x621000 : Int} {x621001 : Int} {x622000 : Int} {x622001 : Int}, pianolalaw03_PunchFewest.j2 k x9 x11 x13 true x621000 x621001 x622000 x622001 = some r → r = true → False
  | 0, _, _, _, _, _, _, _ => by
    intro h
    simp [pianolalaw03_PunchFewest.j2] at h
  | k + 1, _, _, _, _, _, _, _ => by
    intro h hr
    rw [pianolalaw03_PunchFewest.j2, if_pos rfl] at h
    subst hr
    exact absurd (Option.some.inj h) (by decide)
set_option maxHeartbeats 8000000 in
set_option maxRecDepth 100000 in
theorem pianolalaw03_PunchFewest.calls (k : Nat) (a0_0 : Int) (a0_1 : Int) (a0_2 : Int) (a0_3 : Int) (a0_4 : Int) (a1 : Int) (r : Bool) (hrt : r = true) (w : World) (h : pianolalaw03_PunchFewest.f k a0_0 a0_1 a0_2 a0_3 a0_4 a1 = some r) :
  Calls Try.prog 13 #[.agg #[.int .u8 a0_0, .int .u8 a0_1, .int .u8 a0_2, .int .u8 a0_3, .int .u8 a0_4], .int .u8 a1] w fun e w' => e = .returned (.bool r) ∧ Below w.heap.size w w' := by
 have HRT := zA hrt
 clear hrt
 have hu86 := Try.underlying86
 have hu57 := Try.underlying57
 have hu55 := Try.underlying55
 have hu47 := Try.underlying47
 have HB := zA (Below.refl w.heap.size w)
 have H : ((pianolalaw03_Sheet_made.f a0_0 a0_1 a0_2 a0_3 a0_4).bind fun bt609 => ((punch_Bars.f bt609.1 bt609.2.1 bt609.2.2.1 bt609.2.2.2.1 bt609.2.2.2.2).bind fun bt615 => (if bt615.2.2.2.2 = 0 then (if bt615.1 = 1 then (if bt615.2.1 > 20 then (pianolalaw03_PunchFewest.j0 k a1 true bt609.1 bt609.2.1 bt609.2.2.1 bt609.2.2.2.1 bt609.2.2.2.2 bt615.1 bt615.2.1 bt615.2.2.1 bt615.2.2.2.1) else (if bt615.2.2.2.1 > 20 then (pianolalaw03_PunchFewest.j0 k a1 true bt609.1 bt609.2.1 bt609.2.2.1 bt609.2.2.2.1 bt609.2.2.2.2 bt615.1 bt615.2.1 bt615.2.2.1 bt615.2.2.2.1) else (pianolalaw03_PunchFewest.j0 k a1 (decide (bt615.2.2.1 < 0)) bt609.1 bt609.2.1 bt609.2.2.1 bt609.2.2.2.1 bt609.2.2.2.2 bt615.1 bt615.2.1 bt615.2.2.1 bt615.2.2.2.1))) else (pianolalaw03_PunchFewest.j0 k a1 true bt609.1 bt609.2.1 bt609.2.2.1 bt609.2.2.2.1 bt609.2.2.2.2 bt615.1 bt615.2.1 bt615.2.2.1 bt615.2.2.2.1)) else (if bt615.2.2.2.2 = 20 then ((pianolalaw03_works.f).bind fun t622 => (some t622)) else (some false))))) = some r := h
 clear h
 replace H := Option.bind_eq_some_iff.mp H
 obtain ⟨⟨t609, t610, t611, t612, t613⟩, A30, H⟩ := H
 replace H : ((punch_Bars.f t609 t610 t611 t612 t613).bind fun bt615 => (if bt615.2.2.2.2 = 0 then (if bt615.1 = 1 then (if bt615.2.1 > 20 then (pianolalaw03_PunchFewest.j0 k a1 true t609 t610 t611 t612 t613 bt615.1 bt615.2.1 bt615.2.2.1 bt615.2.2.2.1) else (if bt615.2.2.2.1 > 20 then (pianolalaw03_PunchFewest.j0 k a1 true t609 t610 t611 t612 t613 bt615.1 bt615.2.1 bt615.2.2.1 bt615.2.2.2.1) else (pianolalaw03_PunchFewest.j0 k a1 (decide (bt615.2.2.1 < 0)) t609 t610 t611 t612 t613 bt615.1 bt615.2.1 bt615.2.2.1 bt615.2.2.2.1))) else (pianolalaw03_PunchFewest.j0 k a1 true t609 t610 t611 t612 t613 bt615.1 bt615.2.1 bt615.2.2.1 bt615.2.2.2.1)) else (if bt615.2.2.2.2 = 20 then ((pianolalaw03_works.f).bind fun t622 => (some t622)) else (some false)))) = some r := H
 have A3 := zA A30
 clear A30
 replace H := Option.bind_eq_some_iff.mp H
 obtain ⟨⟨t615, t616, t617, t618, t619⟩, A40, H⟩ := H
 replace H : (if t619 = 0 then (if t615 = 1 then (if t616 > 20 then (pianolalaw03_PunchFewest.j0 k a1 true t609 t610 t611 t612 t613 t615 t616 t617 t618) else (if t618 > 20 then (pianolalaw03_PunchFewest.j0 k a1 true t609 t610 t611 t612 t613 t615 t616 t617 t618) else (pianolalaw03_PunchFewest.j0 k a1 (decide (t617 < 0)) t609 t610 t611 t612 t613 t615 t616 t617 t618))) else (pianolalaw03_PunchFewest.j0 k a1 true t609 t610 t611 t612 t613 t615 t616 t617 t618)) else (if t619 = 20 then ((pianolalaw03_works.f).bind fun t622 => (some t622)) else (some false))) = some r := H
 have A4 := zA A40
 clear A40
 by_cases c5 : t619 = 0
 ·
  rw [if_pos c5] at H
  have c5b0 : (t619 == 0) = true := beq_iff_eq.mpr c5
  have c5b1 : (t619 != 0) = false := bne_eq_false_iff_eq.mpr c5
  clear c5
  have HC6 := zA H
  clear H
  go_enter Try.func13, Try.ntmps13
  go_upto_region 5 with (first | ((with_reducible refine gate_dst (N := 2) rfl ?_); (try (refine gate_guard (by rfl) ?_; dsimp only)); refine box_event ?hg (N := 2) ?hd (cs := #[.int .u8 a0_0, .int .u8 a0_1, .int .u8 a0_2, .int .u8 a0_3, .int .u8 a0_4]) (t := 86) ?hr ?_; (case hd => rfl); (case hg => rfl); (case hr => first | (go_simp; done) | (go_simp; rfl)); intro gb608 hg w7 hbox hb; have n0_ := zA (below_step (zqA HB.out) hb); have n1_ := zA (hbox); have n2_ := zA ((by rw [hg]; exact (below_size (zqA HB.out)) : w.heap.size ≤ gb608)); have n3_ := zA ((by rw [hg]; exact (below_size (zqA HB.out)) : w.heap.size ≤ gb608)); clear HB; have HB := n0_; have BK608 := n1_; have GW608 := n2_; have GE608 := n3_; clear n0_ n1_ n2_ n3_; clear hb hbox hg; have hcz8_0 : w7.cell? ⟨gb608, 0, none⟩ = some (.int .u8 a0_0) := (blk_cell BK608.out 0).trans rfl; have hcz8_1 : w7.cell? ⟨gb608, 1, none⟩ = some (.int .u8 a0_1) := (blk_cell BK608.out 1).trans rfl; have hcz8_2 : w7.cell? ⟨gb608, 2, none⟩ = some (.int .u8 a0_2) := (blk_cell BK608.out 2).trans rfl; have hcz8_3 : w7.cell? ⟨gb608, 3, none⟩ = some (.int .u8 a0_3) := (blk_cell BK608.out 3).trans rfl; have hcz8_4 : w7.cell? ⟨gb608, 4, none⟩ = some (.int .u8 a0_4) := (blk_cell BK608.out 4).trans rfl; have hfz8_0 := blk_frozen BK608.out 0; have hfz8_1 := blk_frozen BK608.out 1; have hfz8_2 := blk_frozen BK608.out 2; have hfz8_3 := blk_frozen BK608.out 3; have hfz8_4 := blk_frozen BK608.out 4) | (go_at_call 42; (with_reducible refine (pianolalaw03_Sheet_made.calls a0_0 a0_1 a0_2 a0_3 a0_4 t609 t610 t611 t612 t613 _ A3.out).mono ?_); rintro e w9 ⟨rfl, hb⟩; have n0_ := zA (blk_below (g := gb608) (o := .cells #[.int .u8 a0_0, .int .u8 a0_1, .int .u8 a0_2, .int .u8 a0_3, .int .u8 a0_4] 86 (0, 0)) (zqB BK608.out) hb); have n1_ := zA (below_step (zqG HB.out GE608.out) hb); clear BK608; clear HB; have BK608 := n0_; have HB := n1_; clear n0_ n1_; (try clear hb); (try clear hb2); (try clear hk); (try clear hi)) | ((with_reducible refine gate_dst (N := 5) rfl ?_); (try (refine gate_guard (by rfl) ?_; dsimp only)); refine box_event ?hg (N := 5) ?hd (cs := #[.int .i64 0, .int .i64 0, .int .i64 0, .int .i64 0, .int .i64 0]) (t := 57) ?hr ?_; (case hd => rfl); (case hg => rfl); (case hr => first | (go_simp; done) | (go_simp; rfl)); intro gb614 hg w10 hbox hb; have n0_ := zA (blk_below (g := gb608) (o := .cells #[.int .u8 a0_0, .int .u8 a0_1, .int .u8 a0_2, .int .u8 a0_3, .int .u8 a0_4] 86 (0, 0)) (zqB BK608.out) hb); have n1_ := zA (below_step (zqG HB.out GE608.out) hb); have n2_ := zA (hbox); have n3_ := zA ((by rw [hg]; exact (below_size (zqG HB.out GE608.out)) : w.heap.size ≤ gb614)); have n4_ := zA ((by rw [hg]; exact (below_size (zqG HB.out GE608.out)) : w.heap.size ≤ gb614)); have n5_ := zA ((by rw [hg]; exact Nat.ne_of_lt (blk_lt (g := gb608) (o := .cells #[.int .u8 a0_0, .int .u8 a0_1, .int .u8 a0_2, .int .u8 a0_3, .int .u8 a0_4] 86 (0, 0)) (zqB BK608.out)) : gb608 ≠ gb614)); have n6_ := zA ((by rw [hg]; exact Nat.ne_of_gt (blk_lt (g := gb608) (o := .cells #[.int .u8 a0_0, .int .u8 a0_1, .int .u8 a0_2, .int .u8 a0_3, .int .u8 a0_4] 86 (0, 0)) (zqB BK608.out)) : gb614 ≠ gb608)); clear BK608; clear HB; have BK608 := n0_; have HB := n1_; have BK614 := n2_; have GW614 := n3_; have GE614 := n4_; have NB608_614 := n5_; have NB614_608 := n6_; clear n0_ n1_ n2_ n3_ n4_ n5_ n6_; clear hb hbox hg; have hnb11 := NB614_608.out; have hnc11 := NB608_614.out; have hcz12_0 : w10.cell? ⟨gb614, 0, none⟩ = some (.int .i64 0) := (blk_cell BK614.out 0).trans rfl; have hcz12_1 : w10.cell? ⟨gb614, 1, none⟩ = some (.int .i64 0) := (blk_cell BK614.out 1).trans rfl; have hcz12_2 : w10.cell? ⟨gb614, 2, none⟩ = some (.int .i64 0) := (blk_cell BK614.out 2).trans rfl; have hcz12_3 : w10.cell? ⟨gb614, 3, none⟩ = some (.int .i64 0) := (blk_cell BK614.out 3).trans rfl; have hcz12_4 : w10.cell? ⟨gb614, 4, none⟩ = some (.int .i64 0) := (blk_cell BK614.out 4).trans rfl; have hfz12_0 := blk_frozen BK614.out 0; have hfz12_1 := blk_frozen BK614.out 1; have hfz12_2 := blk_frozen BK614.out 2; have hfz12_3 := blk_frozen BK614.out 3; have hfz12_4 := blk_frozen BK614.out 4) | (go_at_call 30; (with_reducible refine (punch_Bars.calls t609 t610 t611 t612 t613 t615 t616 t617 t618 t619 _ A4.out).mono ?_); rintro e w13 ⟨rfl, hb⟩; have n0_ := zA (blk_below (g := gb608) (o := .cells #[.int .u8 a0_0, .int .u8 a0_1, .int .u8 a0_2, .int .u8 a0_3, .int .u8 a0_4] 86 (0, 0)) (by (with_reducible repeat (first | refine blk_drewN ?_ _ | refine blk_drew ?_ | refine blk_alloc ?_ _)); refine blk_far ?_ NB608_614.out _; (with_reducible repeat (first | refine blk_drewN ?_ _ | refine blk_drew ?_ | refine blk_alloc ?_ _)); refine blk_far ?_ NB608_614.out _; (with_reducible repeat (first | refine blk_drewN ?_ _ | refine blk_drew ?_ | refine blk_alloc ?_ _)); refine blk_far ?_ NB608_614.out _; (with_reducible repeat (first | refine blk_drewN ?_ _ | refine blk_drew ?_ | refine blk_alloc ?_ _)); refine blk_far ?_ NB608_614.out _; (with_reducible repeat (first | refine blk_drewN ?_ _ | refine blk_drew ?_ | refine blk_alloc ?_ _)); refine blk_far ?_ NB608_614.out _; (with_reducible repeat (first | refine blk_drewN ?_ _ | refine blk_drew ?_ | refine blk_alloc ?_ _)); exact BK608.out) hb); have n1_ := zA (blk_below (g := gb614) (o := .cells #[.int .i64 t609, .int .i64 t610, .int .i64 t611, .int .i64 t612, .int .i64 t613] 57 (0, 0)) (by (with_reducible repeat (first | refine blk_drewN ?_ _ | refine blk_drew ?_ | refine blk_alloc ?_ _)); refine blk_put (cs := #[.int .i64 t609, .int .i64 t610, .int .i64 t611, .int .i64 t612, .int .i64 0]) ?_ 4 _ rfl; (with_reducible repeat (first | refine blk_drewN ?_ _ | refine blk_drew ?_ | refine blk_alloc ?_ _)); refine blk_put (cs := #[.int .i64 t609, .int .i64 t610, .int .i64 t611, .int .i64 0, .int .i64 0]) ?_ 3 _ rfl; (with_reducible repeat (first | refine blk_drewN ?_ _ | refine blk_drew ?_ | refine blk_alloc ?_ _)); refine blk_put (cs := #[.int .i64 t609, .int .i64 t610, .int .i64 0, .int .i64 0, .int .i64 0]) ?_ 2 _ rfl; (with_reducible repeat (first | refine blk_drewN ?_ _ | refine blk_drew ?_ | refine blk_alloc ?_ _)); refine blk_put (cs := #[.int .i64 t609, .int .i64 0, .int .i64 0, .int .i64 0, .int .i64 0]) ?_ 1 _ rfl; (with_reducible repeat (first | refine blk_drewN ?_ _ | refine blk_drew ?_ | refine blk_alloc ?_ _)); refine blk_put (cs := #[.int .i64 0, .int .i64 0, .int .i64 0, .int .i64 0, .int .i64 0]) ?_ 0 _ rfl; (with_reducible repeat (first | refine blk_drewN ?_ _ | refine blk_drew ?_ | refine blk_alloc ?_ _)); exact BK614.out) hb); have n2_ := zA (below_step (zqH HB.out GE608.out GE614.out) hb); clear BK608; clear BK614; clear HB; have BK608 := n0_; have BK614 := n1_; have HB := n2_; clear n0_ n1_ n2_; (try clear hb); (try clear hb2); (try clear hk); (try clear hi)) | ((with_reducible refine gate_dst (N := 6) rfl ?_); (try (refine gate_guard (by rfl) ?_; dsimp only)); refine box_event ?hg (N := 6) ?hd (cs := #[.int .i64 0, .int .i64 0]) (t := 55) ?hr ?_; (case hd => rfl); (case hg => rfl); (case hr => first | (go_simp; done) | (go_simp; rfl)); intro gb620 hg w14 hbox hb; have n0_ := zA (blk_below (g := gb608) (o := .cells #[.int .u8 a0_0, .int .u8 a0_1, .int .u8 a0_2, .int .u8 a0_3, .int .u8 a0_4] 86 (0, 0)) (zqB BK608.out) hb); have n1_ := zA (blk_below (g := gb614) (o := .cells #[.int .i64 t609, .int .i64 t610, .int .i64 t611, .int .i64 t612, .int .i64 t613] 57 (0, 0)) (zqB BK614.out) hb); have n2_ := zA (below_step (zqH HB.out GE608.out GE614.out) hb); have n3_ := zA (hbox); have n4_ := zA ((by rw [hg]; exact (below_size (zqH HB.out GE608.out GE614.out)) : w.heap.size ≤ gb620)); have n5_ := zA ((by rw [hg]; exact (below_size (zqH HB.out GE608.out GE614.out)) : w.heap.size ≤ gb620)); have n6_ := zA ((by rw [hg]; exact Nat.ne_of_lt (blk_lt (g := gb608) (o := .cells #[.int .u8 a0_0, .int .u8 a0_1, .int .u8 a0_2, .int .u8 a0_3, .int .u8 a0_4] 86 (0, 0)) (zqB BK608.out)) : gb608 ≠ gb620)); have n7_ := zA ((by rw [hg]; exact Nat.ne_of_gt (blk_lt (g := gb608) (o := .cells #[.int .u8 a0_0, .int .u8 a0_1, .int .u8 a0_2, .int .u8 a0_3, .int .u8 a0_4] 86 (0, 0)) (zqB BK608.out)) : gb620 ≠ gb608)); have n8_ := zA ((by rw [hg]; exact Nat.ne_of_lt (blk_lt (g := gb614) (o := .cells #[.int .i64 t609, .int .i64 t610, .int .i64 t611, .int .i64 t612, .int .i64 t613] 57 (0, 0)) (zqB BK614.out)) : gb614 ≠ gb620)); have n9_ := zA ((by rw [hg]; exact Nat.ne_of_gt (blk_lt (g := gb614) (o := .cells #[.int .i64 t609, .int .i64 t610, .int .i64 t611, .int .i64 t612, .int .i64 t613] 57 (0, 0)) (zqB BK614.out)) : gb620 ≠ gb614)); clear BK608; clear BK614; clear HB; have BK608 := n0_; have BK614 := n1_; have HB := n2_; have BK620 := n3_; have GW620 := n4_; have GE620 := n5_; have NB608_620 := n6_; have NB620_608 := n7_; have NB614_620 := n8_; have NB620_614 := n9_; clear n0_ n1_ n2_ n3_ n4_ n5_ n6_ n7_ n8_ n9_; clear hb hbox hg) | ((with_reducible refine gate_dst (N := 7) rfl ?_); (try (refine gate_guard (by rfl) ?_; dsimp only)); refine box_event ?hg (N := 7) ?hd (cs := #[.int .i64 0, .int .i64 0]) (t := 55) ?hr ?_; (case hd => rfl); (case hg => rfl); (case hr => first | (go_simp; done) | (go_simp; rfl)); intro gb621 hg w15 hbox hb; have n0_ := zA (blk_below (g := gb608) (o := .cells #[.int .u8 a0_0, .int .u8 a0_1, .int .u8 a0_2, .int .u8 a0_3, .int .u8 a0_4] 86 (0, 0)) (zqB BK608.out) hb); have n1_ := zA (blk_below (g := gb614) (o := .cells #[.int .i64 t609, .int .i64 t610, .int .i64 t611, .int .i64 t612, .int .i64 t613] 57 (0, 0)) (zqB BK614.out) hb); have n2_ := zA (blk_below (g := gb620) (o := .cells #[.int .i64 0, .int .i64 0] 55 (0, 0)) (zqB BK620.out) hb); have n3_ := zA (below_step (zqI HB.out GE608.out GE614.out GE620.out) hb); have n4_ := zA (hbox); have n5_ := zA ((by rw [hg]; exact (below_size (zqI HB.out GE608.out GE614.out GE620.out)) : w.heap.size ≤ gb621)); have n6_ := zA ((by rw [hg]; exact (below_size (zqI HB.out GE608.out GE614.out GE620.out)) : w.heap.size ≤ gb621)); have n7_ := zA ((by rw [hg]; exact Nat.ne_of_lt (blk_lt (g := gb608) (o := .cells #[.int .u8 a0_0, .int .u8 a0_1, .int .u8 a0_2, .int .u8 a0_3, .int .u8 a0_4] 86 (0, 0)) (zqB BK608.out)) : gb608 ≠ gb621)); have n8_ := zA ((by rw [hg]; exact Nat.ne_of_gt (blk_lt (g := gb608) (o := .cells #[.int .u8 a0_0, .int .u8 a0_1, .int .u8 a0_2, .int .u8 a0_3, .int .u8 a0_4] 86 (0, 0)) (zqB BK608.out)) : gb621 ≠ gb608)); have n9_ := zA ((by rw [hg]; exact Nat.ne_of_lt (blk_lt (g := gb614) (o := .cells #[.int .i64 t609, .int .i64 t610, .int .i64 t611, .int .i64 t612, .int .i64 t613] 57 (0, 0)) (zqB BK614.out)) : gb614 ≠ gb621)); have n10_ := zA ((by rw [hg]; exact Nat.ne_of_gt (blk_lt (g := gb614) (o := .cells #[.int .i64 t609, .int .i64 t610, .int .i64 t611, .int .i64 t612, .int .i64 t613] 57 (0, 0)) (zqB BK614.out)) : gb621 ≠ gb614)); have n11_ := zA ((by rw [hg]; exact Nat.ne_of_lt (blk_lt (g := gb620) (o := .cells #[.int .i64 0, .int .i64 0] 55 (0, 0)) (zqB BK620.out)) : gb620 ≠ gb621)); have n12_ := zA ((by rw [hg]; exact Nat.ne_of_gt (blk_lt (g := gb620) (o := .cells #[.int .i64 0, .int .i64 0] 55 (0, 0)) (zqB BK620.out)) : gb621 ≠ gb620)); clear BK608; clear BK614; clear BK620; clear HB; have BK608 := n0_; have BK614 := n1_; have BK620 := n2_; have HB := n3_; have BK621 := n4_; have GW621 := n5_; have GE621 := n6_; have NB608_621 := n7_; have NB621_608 := n8_; have NB614_621 := n9_; have NB621_614 := n10_; have NB620_621 := n11_; have NB621_620 := n12_; clear n0_ n1_ n2_ n3_ n4_ n5_ n6_ n7_ n8_ n9_ n10_ n11_ n12_; clear hb hbox hg; have hnb16 := NB620_608.out; have hnc16 := NB608_620.out; have hnb17 := NB620_614.out; have hnc17 := NB614_620.out; have hnb18 := NB620_621.out; have hnc18 := NB621_620.out; have hcz19_0 : w15.cell? ⟨gb620, 0, none⟩ = some (.int .i64 0) := (blk_cell BK620.out 0).trans rfl; have hcz19_1 : w15.cell? ⟨gb620, 1, none⟩ = some (.int .i64 0) := (blk_cell BK620.out 1).trans rfl; have hfz19_0 := blk_frozen BK620.out 0; have hfz19_1 := blk_frozen BK620.out 1; have hnb20 := NB621_608.out; have hnc20 := NB608_621.out; have hnb21 := NB621_614.out; have hnc21 := NB614_621.out; have hcz22_0 : w15.cell? ⟨gb621, 0, none⟩ = some (.int .i64 0) := (blk_cell BK621.out 0).trans rfl; have hcz22_1 : w15.cell? ⟨gb621, 1, none⟩ = some (.int .i64 0) := (blk_cell BK621.out 1).trans rfl; have hfz22_0 := blk_frozen BK621.out 0; have hfz22_1 := blk_frozen BK621.out 1))
  repeat (go_quiet (first | ((with_reducible refine gate_dst (N := 2) rfl ?_); (try (refine gate_guard (by rfl) ?_; dsimp only)); refine box_event ?hg (N := 2) ?hd (cs := #[.int .u8 a0_0, .int .u8 a0_1, .int .u8 a0_2, .int .u8 a0_3, .int .u8 a0_4]) (t := 86) ?hr ?_; (case hd => rfl); (case hg => rfl); (case hr => first | (go_simp; done) | (go_simp; rfl)); intro gb608 hg w7 hbox hb; have n0_ := zA (below_step (zqA HB.out) hb); have n1_ := zA (hbox); have n2_ := zA ((by rw [hg]; exact (below_size (zqA HB.out)) : w.heap.size ≤ gb608)); have n3_ := zA ((by rw [hg]; exact (below_size (zqA HB.out)) : w.heap.size ≤ gb608)); clear HB; have HB := n0_; have BK608 := n1_; have GW608 := n2_; have GE608 := n3_; clear n0_ n1_ n2_ n3_; clear hb hbox hg; have hcz8_0 : w7.cell? ⟨gb608, 0, none⟩ = some (.int .u8 a0_0) := (blk_cell BK608.out 0).trans rfl; have hcz8_1 : w7.cell? ⟨gb608, 1, none⟩ = some (.int .u8 a0_1) := (blk_cell BK608.out 1).trans rfl; have hcz8_2 : w7.cell? ⟨gb608, 2, none⟩ = some (.int .u8 a0_2) := (blk_cell BK608.out 2).trans rfl; have hcz8_3 : w7.cell? ⟨gb608, 3, none⟩ = some (.int .u8 a0_3) := (blk_cell BK608.out 3).trans rfl; have hcz8_4 : w7.cell? ⟨gb608, 4, none⟩ = some (.int .u8 a0_4) := (blk_cell BK608.out 4).trans rfl; have hfz8_0 := blk_frozen BK608.out 0; have hfz8_1 := blk_frozen BK608.out 1; have hfz8_2 := blk_frozen BK608.out 2; have hfz8_3 := blk_frozen BK608.out 3; have hfz8_4 := blk_frozen BK608.out 4) | (go_at_call 42; (with_reducible refine (pianolalaw03_Sheet_made.calls a0_0 a0_1 a0_2 a0_3 a0_4 t609 t610 t611 t612 t613 _ A3.out).mono ?_); rintro e w9 ⟨rfl, hb⟩; have n0_ := zA (blk_below (g := gb608) (o := .cells #[.int .u8 a0_0, .int .u8 a0_1, .int .u8 a0_2, .int .u8 a0_3, .int .u8 a0_4] 86 (0, 0)) (zqB BK608.out) hb); have n1_ := zA (below_step (zqG HB.out GE608.out) hb); clear BK608; clear HB; have BK608 := n0_; have HB := n1_; clear n0_ n1_; (try clear hb); (try clear hb2); (try clear hk); (try clear hi)) | ((with_reducible refine gate_dst (N := 5) rfl ?_); (try (refine gate_guard (by rfl) ?_; dsimp only)); refine box_event ?hg (N := 5) ?hd (cs := #[.int .i64 0, .int .i64 0, .int .i64 0, .int .i64 0, .int .i64 0]) (t := 57) ?hr ?_; (case hd => rfl); (case hg => rfl); (case hr => first | (go_simp; done) | (go_simp; rfl)); intro gb614 hg w10 hbox hb; have n0_ := zA (blk_below (g := gb608) (o := .cells #[.int .u8 a0_0, .int .u8 a0_1, .int .u8 a0_2, .int .u8 a0_3, .int .u8 a0_4] 86 (0, 0)) (zqB BK608.out) hb); have n1_ := zA (below_step (zqG HB.out GE608.out) hb); have n2_ := zA (hbox); have n3_ := zA ((by rw [hg]; exact (below_size (zqG HB.out GE608.out)) : w.heap.size ≤ gb614)); have n4_ := zA ((by rw [hg]; exact (below_size (zqG HB.out GE608.out)) : w.heap.size ≤ gb614)); have n5_ := zA ((by rw [hg]; exact Nat.ne_of_lt (blk_lt (g := gb608) (o := .cells #[.int .u8 a0_0, .int .u8 a0_1, .int .u8 a0_2, .int .u8 a0_3, .int .u8 a0_4] 86 (0, 0)) (zqB BK608.out)) : gb608 ≠ gb614)); have n6_ := zA ((by rw [hg]; exact Nat.ne_of_gt (blk_lt (g := gb608) (o := .cells #[.int .u8 a0_0, .int .u8 a0_1, .int .u8 a0_2, .int .u8 a0_3, .int .u8 a0_4] 86 (0, 0)) (zqB BK608.out)) : gb614 ≠ gb608)); clear BK608; clear HB; have BK608 := n0_; have HB := n1_; have BK614 := n2_; have GW614 := n3_; have GE614 := n4_; have NB608_614 := n5_; have NB614_608 := n6_; clear n0_ n1_ n2_ n3_ n4_ n5_ n6_; clear hb hbox hg; have hnb11 := NB614_608.out; have hnc11 := NB608_614.out; have hcz12_0 : w10.cell? ⟨gb614, 0, none⟩ = some (.int .i64 0) := (blk_cell BK614.out 0).trans rfl; have hcz12_1 : w10.cell? ⟨gb614, 1, none⟩ = some (.int .i64 0) := (blk_cell BK614.out 1).trans rfl; have hcz12_2 : w10.cell? ⟨gb614, 2, none⟩ = some (.int .i64 0) := (blk_cell BK614.out 2).trans rfl; have hcz12_3 : w10.cell? ⟨gb614, 3, none⟩ = some (.int .i64 0) := (blk_cell BK614.out 3).trans rfl; have hcz12_4 : w10.cell? ⟨gb614, 4, none⟩ = some (.int .i64 0) := (blk_cell BK614.out 4).trans rfl; have hfz12_0 := blk_frozen BK614.out 0; have hfz12_1 := blk_frozen BK614.out 1; have hfz12_2 := blk_frozen BK614.out 2; have hfz12_3 := blk_frozen BK614.out 3; have hfz12_4 := blk_frozen BK614.out 4) | (go_at_call 30; (with_reducible refine (punch_Bars.calls t609 t610 t611 t612 t613 t615 t616 t617 t618 t619 _ A4.out).mono ?_); rintro e w13 ⟨rfl, hb⟩; have n0_ := zA (blk_below (g := gb608) (o := .cells #[.int .u8 a0_0, .int .u8 a0_1, .int .u8 a0_2, .int .u8 a0_3, .int .u8 a0_4] 86 (0, 0)) (by (with_reducible repeat (first | refine blk_drewN ?_ _ | refine blk_drew ?_ | refine blk_alloc ?_ _)); refine blk_far ?_ NB608_614.out _; (with_reducible repeat (first | refine blk_drewN ?_ _ | refine blk_drew ?_ | refine blk_alloc ?_ _)); refine blk_far ?_ NB608_614.out _; (with_reducible repeat (first | refine blk_drewN ?_ _ | refine blk_drew ?_ | refine blk_alloc ?_ _)); refine blk_far ?_ NB608_614.out _; (with_reducible repeat (first | refine blk_drewN ?_ _ | refine blk_drew ?_ | refine blk_alloc ?_ _)); refine blk_far ?_ NB608_614.out _; (with_reducible repeat (first | refine blk_drewN ?_ _ | refine blk_drew ?_ | refine blk_alloc ?_ _)); refine blk_far ?_ NB608_614.out _; (with_reducible repeat (first | refine blk_drewN ?_ _ | refine blk_drew ?_ | refine blk_alloc ?_ _)); exact BK608.out) hb); have n1_ := zA (blk_below (g := gb614) (o := .cells #[.int .i64 t609, .int .i64 t610, .int .i64 t611, .int .i64 t612, .int .i64 t613] 57 (0, 0)) (by (with_reducible repeat (first | refine blk_drewN ?_ _ | refine blk_drew ?_ | refine blk_alloc ?_ _)); refine blk_put (cs := #[.int .i64 t609, .int .i64 t610, .int .i64 t611, .int .i64 t612, .int .i64 0]) ?_ 4 _ rfl; (with_reducible repeat (first | refine blk_drewN ?_ _ | refine blk_drew ?_ | refine blk_alloc ?_ _)); refine blk_put (cs := #[.int .i64 t609, .int .i64 t610, .int .i64 t611, .int .i64 0, .int .i64 0]) ?_ 3 _ rfl; (with_reducible repeat (first | refine blk_drewN ?_ _ | refine blk_drew ?_ | refine blk_alloc ?_ _)); refine blk_put (cs := #[.int .i64 t609, .int .i64 t610, .int .i64 0, .int .i64 0, .int .i64 0]) ?_ 2 _ rfl; (with_reducible repeat (first | refine blk_drewN ?_ _ | refine blk_drew ?_ | refine blk_alloc ?_ _)); refine blk_put (cs := #[.int .i64 t609, .int .i64 0, .int .i64 0, .int .i64 0, .int .i64 0]) ?_ 1 _ rfl; (with_reducible repeat (first | refine blk_drewN ?_ _ | refine blk_drew ?_ | refine blk_alloc ?_ _)); refine blk_put (cs := #[.int .i64 0, .int .i64 0, .int .i64 0, .int .i64 0, .int .i64 0]) ?_ 0 _ rfl; (with_reducible repeat (first | refine blk_drewN ?_ _ | refine blk_drew ?_ | refine blk_alloc ?_ _)); exact BK614.out) hb); have n2_ := zA (below_step (zqH HB.out GE608.out GE614.out) hb); clear BK608; clear BK614; clear HB; have BK608 := n0_; have BK614 := n1_; have HB := n2_; clear n0_ n1_ n2_; (try clear hb); (try clear hb2); (try clear hk); (try clear hi)) | ((with_reducible refine gate_dst (N := 6) rfl ?_); (try (refine gate_guard (by rfl) ?_; dsimp only)); refine box_event ?hg (N := 6) ?hd (cs := #[.int .i64 0, .int .i64 0]) (t := 55) ?hr ?_; (case hd => rfl); (case hg => rfl); (case hr => first | (go_simp; done) | (go_simp; rfl)); intro gb620 hg w14 hbox hb; have n0_ := zA (blk_below (g := gb608) (o := .cells #[.int .u8 a0_0, .int .u8 a0_1, .int .u8 a0_2, .int .u8 a0_3, .int .u8 a0_4] 86 (0, 0)) (zqB BK608.out) hb); have n1_ := zA (blk_below (g := gb614) (o := .cells #[.int .i64 t609, .int .i64 t610, .int .i64 t611, .int .i64 t612, .int .i64 t613] 57 (0, 0)) (zqB BK614.out) hb); have n2_ := zA (below_step (zqH HB.out GE608.out GE614.out) hb); have n3_ := zA (hbox); have n4_ := zA ((by rw [hg]; exact (below_size (zqH HB.out GE608.out GE614.out)) : w.heap.size ≤ gb620)); have n5_ := zA ((by rw [hg]; exact (below_size (zqH HB.out GE608.out GE614.out)) : w.heap.size ≤ gb620)); have n6_ := zA ((by rw [hg]; exact Nat.ne_of_lt (blk_lt (g := gb608) (o := .cells #[.int .u8 a0_0, .int .u8 a0_1, .int .u8 a0_2, .int .u8 a0_3, .int .u8 a0_4] 86 (0, 0)) (zqB BK608.out)) : gb608 ≠ gb620)); have n7_ := zA ((by rw [hg]; exact Nat.ne_of_gt (blk_lt (g := gb608) (o := .cells #[.int .u8 a0_0, .int .u8 a0_1, .int .u8 a0_2, .int .u8 a0_3, .int .u8 a0_4] 86 (0, 0)) (zqB BK608.out)) : gb620 ≠ gb608)); have n8_ := zA ((by rw [hg]; exact Nat.ne_of_lt (blk_lt (g := gb614) (o := .cells #[.int .i64 t609, .int .i64 t610, .int .i64 t611, .int .i64 t612, .int .i64 t613] 57 (0, 0)) (zqB BK614.out)) : gb614 ≠ gb620)); have n9_ := zA ((by rw [hg]; exact Nat.ne_of_gt (blk_lt (g := gb614) (o := .cells #[.int .i64 t609, .int .i64 t610, .int .i64 t611, .int .i64 t612, .int .i64 t613] 57 (0, 0)) (zqB BK614.out)) : gb620 ≠ gb614)); clear BK608; clear BK614; clear HB; have BK608 := n0_; have BK614 := n1_; have HB := n2_; have BK620 := n3_; have GW620 := n4_; have GE620 := n5_; have NB608_620 := n6_; have NB620_608 := n7_; have NB614_620 := n8_; have NB620_614 := n9_; clear n0_ n1_ n2_ n3_ n4_ n5_ n6_ n7_ n8_ n9_; clear hb hbox hg) | ((with_reducible refine gate_dst (N := 7) rfl ?_); (try (refine gate_guard (by rfl) ?_; dsimp only)); refine box_event ?hg (N := 7) ?hd (cs := #[.int .i64 0, .int .i64 0]) (t := 55) ?hr ?_; (case hd => rfl); (case hg => rfl); (case hr => first | (go_simp; done) | (go_simp; rfl)); intro gb621 hg w15 hbox hb; have n0_ := zA (blk_below (g := gb608) (o := .cells #[.int .u8 a0_0, .int .u8 a0_1, .int .u8 a0_2, .int .u8 a0_3, .int .u8 a0_4] 86 (0, 0)) (zqB BK608.out) hb); have n1_ := zA (blk_below (g := gb614) (o := .cells #[.int .i64 t609, .int .i64 t610, .int .i64 t611, .int .i64 t612, .int .i64 t613] 57 (0, 0)) (zqB BK614.out) hb); have n2_ := zA (blk_below (g := gb620) (o := .cells #[.int .i64 0, .int .i64 0] 55 (0, 0)) (zqB BK620.out) hb); have n3_ := zA (below_step (zqI HB.out GE608.out GE614.out GE620.out) hb); have n4_ := zA (hbox); have n5_ := zA ((by rw [hg]; exact (below_size (zqI HB.out GE608.out GE614.out GE620.out)) : w.heap.size ≤ gb621)); have n6_ := zA ((by rw [hg]; exact (below_size (zqI HB.out GE608.out GE614.out GE620.out)) : w.heap.size ≤ gb621)); have n7_ := zA ((by rw [hg]; exact Nat.ne_of_lt (blk_lt (g := gb608) (o := .cells #[.int .u8 a0_0, .int .u8 a0_1, .int .u8 a0_2, .int .u8 a0_3, .int .u8 a0_4] 86 (0, 0)) (zqB BK608.out)) : gb608 ≠ gb621)); have n8_ := zA ((by rw [hg]; exact Nat.ne_of_gt (blk_lt (g := gb608) (o := .cells #[.int .u8 a0_0, .int .u8 a0_1, .int .u8 a0_2, .int .u8 a0_3, .int .u8 a0_4] 86 (0, 0)) (zqB BK608.out)) : gb621 ≠ gb608)); have n9_ := zA ((by rw [hg]; exact Nat.ne_of_lt (blk_lt (g := gb614) (o := .cells #[.int .i64 t609, .int .i64 t610, .int .i64 t611, .int .i64 t612, .int .i64 t613] 57 (0, 0)) (zqB BK614.out)) : gb614 ≠ gb621)); have n10_ := zA ((by rw [hg]; exact Nat.ne_of_gt (blk_lt (g := gb614) (o := .cells #[.int .i64 t609, .int .i64 t610, .int .i64 t611, .int .i64 t612, .int .i64 t613] 57 (0, 0)) (zqB BK614.out)) : gb621 ≠ gb614)); have n11_ := zA ((by rw [hg]; exact Nat.ne_of_lt (blk_lt (g := gb620) (o := .cells #[.int .i64 0, .int .i64 0] 55 (0, 0)) (zqB BK620.out)) : gb620 ≠ gb621)); have n12_ := zA ((by rw [hg]; exact Nat.ne_of_gt (blk_lt (g := gb620) (o := .cells #[.int .i64 0, .int .i64 0] 55 (0, 0)) (zqB BK620.out)) : gb621 ≠ gb620)); clear BK608; clear BK614; clear BK620; clear HB; have BK608 := n0_; have BK614 := n1_; have BK620 := n2_; have HB := n3_; have BK621 := n4_; have GW621 := n5_; have GE621 := n6_; have NB608_621 := n7_; have NB621_608 := n8_; have NB614_621 := n9_; have NB621_614 := n10_; have NB620_621 := n11_; have NB621_620 := n12_; clear n0_ n1_ n2_ n3_ n4_ n5_ n6_ n7_ n8_ n9_ n10_ n11_ n12_; clear hb hbox hg; have hnb16 := NB620_608.out; have hnc16 := NB608_620.out; have hnb17 := NB620_614.out; have hnc17 := NB614_620.out; have hnb18 := NB620_621.out; have hnc18 := NB621_620.out; have hcz19_0 : w15.cell? ⟨gb620, 0, none⟩ = some (.int .i64 0) := (blk_cell BK620.out 0).trans rfl; have hcz19_1 : w15.cell? ⟨gb620, 1, none⟩ = some (.int .i64 0) := (blk_cell BK620.out 1).trans rfl; have hfz19_0 := blk_frozen BK620.out 0; have hfz19_1 := blk_frozen BK620.out 1; have hnb20 := NB621_608.out; have hnc20 := NB608_621.out; have hnb21 := NB621_614.out; have hnc21 := NB614_621.out; have hcz22_0 : w15.cell? ⟨gb621, 0, none⟩ = some (.int .i64 0) := (blk_cell BK621.out 0).trans rfl; have hcz22_1 : w15.cell? ⟨gb621, 1, none⟩ = some (.int .i64 0) := (blk_cell BK621.out 1).trans rfl; have hfz22_0 := blk_frozen BK621.out 0; have hfz22_1 := blk_frozen BK621.out 1)); go_upto_region 5 with (first | ((with_reducible refine gate_dst (N := 2) rfl ?_); (try (refine gate_guard (by rfl) ?_; dsimp only)); refine box_event ?hg (N := 2) ?hd (cs := #[.int .u8 a0_0, .int .u8 a0_1, .int .u8 a0_2, .int .u8 a0_3, .int .u8 a0_4]) (t := 86) ?hr ?_; (case hd => rfl); (case hg => rfl); (case hr => first | (go_simp; done) | (go_simp; rfl)); intro gb608 hg w7 hbox hb; have n0_ := zA (below_step (zqA HB.out) hb); have n1_ := zA (hbox); have n2_ := zA ((by rw [hg]; exact (below_size (zqA HB.out)) : w.heap.size ≤ gb608)); have n3_ := zA ((by rw [hg]; exact (below_size (zqA HB.out)) : w.heap.size ≤ gb608)); clear HB; have HB := n0_; have BK608 := n1_; have GW608 := n2_; have GE608 := n3_; clear n0_ n1_ n2_ n3_; clear hb hbox hg; have hcz8_0 : w7.cell? ⟨gb608, 0, none⟩ = some (.int .u8 a0_0) := (blk_cell BK608.out 0).trans rfl; have hcz8_1 : w7.cell? ⟨gb608, 1, none⟩ = some (.int .u8 a0_1) := (blk_cell BK608.out 1).trans rfl; have hcz8_2 : w7.cell? ⟨gb608, 2, none⟩ = some (.int .u8 a0_2) := (blk_cell BK608.out 2).trans rfl; have hcz8_3 : w7.cell? ⟨gb608, 3, none⟩ = some (.int .u8 a0_3) := (blk_cell BK608.out 3).trans rfl; have hcz8_4 : w7.cell? ⟨gb608, 4, none⟩ = some (.int .u8 a0_4) := (blk_cell BK608.out 4).trans rfl; have hfz8_0 := blk_frozen BK608.out 0; have hfz8_1 := blk_frozen BK608.out 1; have hfz8_2 := blk_frozen BK608.out 2; have hfz8_3 := blk_frozen BK608.out 3; have hfz8_4 := blk_frozen BK608.out 4) | (go_at_call 42; (with_reducible refine (pianolalaw03_Sheet_made.calls a0_0 a0_1 a0_2 a0_3 a0_4 t609 t610 t611 t612 t613 _ A3.out).mono ?_); rintro e w9 ⟨rfl, hb⟩; have n0_ := zA (blk_below (g := gb608) (o := .cells #[.int .u8 a0_0, .int .u8 a0_1, .int .u8 a0_2, .int .u8 a0_3, .int .u8 a0_4] 86 (0, 0)) (zqB BK608.out) hb); have n1_ := zA (below_step (zqG HB.out GE608.out) hb); clear BK608; clear HB; have BK608 := n0_; have HB := n1_; clear n0_ n1_; (try clear hb); (try clear hb2); (try clear hk); (try clear hi)) | ((with_reducible refine gate_dst (N := 5) rfl ?_); (try (refine gate_guard (by rfl) ?_; dsimp only)); refine box_event ?hg (N := 5) ?hd (cs := #[.int .i64 0, .int .i64 0, .int .i64 0, .int .i64 0, .int .i64 0]) (t := 57) ?hr ?_; (case hd => rfl); (case hg => rfl); (case hr => first | (go_simp; done) | (go_simp; rfl)); intro gb614 hg w10 hbox hb; have n0_ := zA (blk_below (g := gb608) (o := .cells #[.int .u8 a0_0, .int .u8 a0_1, .int .u8 a0_2, .int .u8 a0_3, .int .u8 a0_4] 86 (0, 0)) (zqB BK608.out) hb); have n1_ := zA (below_step (zqG HB.out GE608.out) hb); have n2_ := zA (hbox); have n3_ := zA ((by rw [hg]; exact (below_size (zqG HB.out GE608.out)) : w.heap.size ≤ gb614)); have n4_ := zA ((by rw [hg]; exact (below_size (zqG HB.out GE608.out)) : w.heap.size ≤ gb614)); have n5_ := zA ((by rw [hg]; exact Nat.ne_of_lt (blk_lt (g := gb608) (o := .cells #[.int .u8 a0_0, .int .u8 a0_1, .int .u8 a0_2, .int .u8 a0_3, .int .u8 a0_4] 86 (0, 0)) (zqB BK608.out)) : gb608 ≠ gb614)); have n6_ := zA ((by rw [hg]; exact Nat.ne_of_gt (blk_lt (g := gb608) (o := .cells #[.int .u8 a0_0, .int .u8 a0_1, .int .u8 a0_2, .int .u8 a0_3, .int .u8 a0_4] 86 (0, 0)) (zqB BK608.out)) : gb614 ≠ gb608)); clear BK608; clear HB; have BK608 := n0_; have HB := n1_; have BK614 := n2_; have GW614 := n3_; have GE614 := n4_; have NB608_614 := n5_; have NB614_608 := n6_; clear n0_ n1_ n2_ n3_ n4_ n5_ n6_; clear hb hbox hg; have hnb11 := NB614_608.out; have hnc11 := NB608_614.out; have hcz12_0 : w10.cell? ⟨gb614, 0, none⟩ = some (.int .i64 0) := (blk_cell BK614.out 0).trans rfl; have hcz12_1 : w10.cell? ⟨gb614, 1, none⟩ = some (.int .i64 0) := (blk_cell BK614.out 1).trans rfl; have hcz12_2 : w10.cell? ⟨gb614, 2, none⟩ = some (.int .i64 0) := (blk_cell BK614.out 2).trans rfl; have hcz12_3 : w10.cell? ⟨gb614, 3, none⟩ = some (.int .i64 0) := (blk_cell BK614.out 3).trans rfl; have hcz12_4 : w10.cell? ⟨gb614, 4, none⟩ = some (.int .i64 0) := (blk_cell BK614.out 4).trans rfl; have hfz12_0 := blk_frozen BK614.out 0; have hfz12_1 := blk_frozen BK614.out 1; have hfz12_2 := blk_frozen BK614.out 2; have hfz12_3 := blk_frozen BK614.out 3; have hfz12_4 := blk_frozen BK614.out 4) | (go_at_call 30; (with_reducible refine (punch_Bars.calls t609 t610 t611 t612 t613 t615 t616 t617 t618 t619 _ A4.out).mono ?_); rintro e w13 ⟨rfl, hb⟩; have n0_ := zA (blk_below (g := gb608) (o := .cells #[.int .u8 a0_0, .int .u8 a0_1, .int .u8 a0_2, .int .u8 a0_3, .int .u8 a0_4] 86 (0, 0)) (by (with_reducible repeat (first | refine blk_drewN ?_ _ | refine blk_drew ?_ | refine blk_alloc ?_ _)); refine blk_far ?_ NB608_614.out _; (with_reducible repeat (first | refine blk_drewN ?_ _ | refine blk_drew ?_ | refine blk_alloc ?_ _)); refine blk_far ?_ NB608_614.out _; (with_reducible repeat (first | refine blk_drewN ?_ _ | refine blk_drew ?_ | refine blk_alloc ?_ _)); refine blk_far ?_ NB608_614.out _; (with_reducible repeat (first | refine blk_drewN ?_ _ | refine blk_drew ?_ | refine blk_alloc ?_ _)); refine blk_far ?_ NB608_614.out _; (with_reducible repeat (first | refine blk_drewN ?_ _ | refine blk_drew ?_ | refine blk_alloc ?_ _)); refine blk_far ?_ NB608_614.out _; (with_reducible repeat (first | refine blk_drewN ?_ _ | refine blk_drew ?_ | refine blk_alloc ?_ _)); exact BK608.out) hb); have n1_ := zA (blk_below (g := gb614) (o := .cells #[.int .i64 t609, .int .i64 t610, .int .i64 t611, .int .i64 t612, .int .i64 t613] 57 (0, 0)) (by (with_reducible repeat (first | refine blk_drewN ?_ _ | refine blk_drew ?_ | refine blk_alloc ?_ _)); refine blk_put (cs := #[.int .i64 t609, .int .i64 t610, .int .i64 t611, .int .i64 t612, .int .i64 0]) ?_ 4 _ rfl; (with_reducible repeat (first | refine blk_drewN ?_ _ | refine blk_drew ?_ | refine blk_alloc ?_ _)); refine blk_put (cs := #[.int .i64 t609, .int .i64 t610, .int .i64 t611, .int .i64 0, .int .i64 0]) ?_ 3 _ rfl; (with_reducible repeat (first | refine blk_drewN ?_ _ | refine blk_drew ?_ | refine blk_alloc ?_ _)); refine blk_put (cs := #[.int .i64 t609, .int .i64 t610, .int .i64 0, .int .i64 0, .int .i64 0]) ?_ 2 _ rfl; (with_reducible repeat (first | refine blk_drewN ?_ _ | refine blk_drew ?_ | refine blk_alloc ?_ _)); refine blk_put (cs := #[.int .i64 t609, .int .i64 0, .int .i64 0, .int .i64 0, .int .i64 0]) ?_ 1 _ rfl; (with_reducible repeat (first | refine blk_drewN ?_ _ | refine blk_drew ?_ | refine blk_alloc ?_ _)); refine blk_put (cs := #[.int .i64 0, .int .i64 0, .int .i64 0, .int .i64 0, .int .i64 0]) ?_ 0 _ rfl; (with_reducible repeat (first | refine blk_drewN ?_ _ | refine blk_drew ?_ | refine blk_alloc ?_ _)); exact BK614.out) hb); have n2_ := zA (below_step (zqH HB.out GE608.out GE614.out) hb); clear BK608; clear BK614; clear HB; have BK608 := n0_; have BK614 := n1_; have HB := n2_; clear n0_ n1_ n2_; (try clear hb); (try clear hb2); (try clear hk); (try clear hi)) | ((with_reducible refine gate_dst (N := 6) rfl ?_); (try (refine gate_guard (by rfl) ?_; dsimp only)); refine box_event ?hg (N := 6) ?hd (cs := #[.int .i64 0, .int .i64 0]) (t := 55) ?hr ?_; (case hd => rfl); (case hg => rfl); (case hr => first | (go_simp; done) | (go_simp; rfl)); intro gb620 hg w14 hbox hb; have n0_ := zA (blk_below (g := gb608) (o := .cells #[.int .u8 a0_0, .int .u8 a0_1, .int .u8 a0_2, .int .u8 a0_3, .int .u8 a0_4] 86 (0, 0)) (zqB BK608.out) hb); have n1_ := zA (blk_below (g := gb614) (o := .cells #[.int .i64 t609, .int .i64 t610, .int .i64 t611, .int .i64 t612, .int .i64 t613] 57 (0, 0)) (zqB BK614.out) hb); have n2_ := zA (below_step (zqH HB.out GE608.out GE614.out) hb); have n3_ := zA (hbox); have n4_ := zA ((by rw [hg]; exact (below_size (zqH HB.out GE608.out GE614.out)) : w.heap.size ≤ gb620)); have n5_ := zA ((by rw [hg]; exact (below_size (zqH HB.out GE608.out GE614.out)) : w.heap.size ≤ gb620)); have n6_ := zA ((by rw [hg]; exact Nat.ne_of_lt (blk_lt (g := gb608) (o := .cells #[.int .u8 a0_0, .int .u8 a0_1, .int .u8 a0_2, .int .u8 a0_3, .int .u8 a0_4] 86 (0, 0)) (zqB BK608.out)) : gb608 ≠ gb620)); have n7_ := zA ((by rw [hg]; exact Nat.ne_of_gt (blk_lt (g := gb608) (o := .cells #[.int .u8 a0_0, .int .u8 a0_1, .int .u8 a0_2, .int .u8 a0_3, .int .u8 a0_4] 86 (0, 0)) (zqB BK608.out)) : gb620 ≠ gb608)); have n8_ := zA ((by rw [hg]; exact Nat.ne_of_lt (blk_lt (g := gb614) (o := .cells #[.int .i64 t609, .int .i64 t610, .int .i64 t611, .int .i64 t612, .int .i64 t613] 57 (0, 0)) (zqB BK614.out)) : gb614 ≠ gb620)); have n9_ := zA ((by rw [hg]; exact Nat.ne_of_gt (blk_lt (g := gb614) (o := .cells #[.int .i64 t609, .int .i64 t610, .int .i64 t611, .int .i64 t612, .int .i64 t613] 57 (0, 0)) (zqB BK614.out)) : gb620 ≠ gb614)); clear BK608; clear BK614; clear HB; have BK608 := n0_; have BK614 := n1_; have HB := n2_; have BK620 := n3_; have GW620 := n4_; have GE620 := n5_; have NB608_620 := n6_; have NB620_608 := n7_; have NB614_620 := n8_; have NB620_614 := n9_; clear n0_ n1_ n2_ n3_ n4_ n5_ n6_ n7_ n8_ n9_; clear hb hbox hg) | ((with_reducible refine gate_dst (N := 7) rfl ?_); (try (refine gate_guard (by rfl) ?_; dsimp only)); refine box_event ?hg (N := 7) ?hd (cs := #[.int .i64 0, .int .i64 0]) (t := 55) ?hr ?_; (case hd => rfl); (case hg => rfl); (case hr => first | (go_simp; done) | (go_simp; rfl)); intro gb621 hg w15 hbox hb; have n0_ := zA (blk_below (g := gb608) (o := .cells #[.int .u8 a0_0, .int .u8 a0_1, .int .u8 a0_2, .int .u8 a0_3, .int .u8 a0_4] 86 (0, 0)) (zqB BK608.out) hb); have n1_ := zA (blk_below (g := gb614) (o := .cells #[.int .i64 t609, .int .i64 t610, .int .i64 t611, .int .i64 t612, .int .i64 t613] 57 (0, 0)) (zqB BK614.out) hb); have n2_ := zA (blk_below (g := gb620) (o := .cells #[.int .i64 0, .int .i64 0] 55 (0, 0)) (zqB BK620.out) hb); have n3_ := zA (below_step (zqI HB.out GE608.out GE614.out GE620.out) hb); have n4_ := zA (hbox); have n5_ := zA ((by rw [hg]; exact (below_size (zqI HB.out GE608.out GE614.out GE620.out)) : w.heap.size ≤ gb621)); have n6_ := zA ((by rw [hg]; exact (below_size (zqI HB.out GE608.out GE614.out GE620.out)) : w.heap.size ≤ gb621)); have n7_ := zA ((by rw [hg]; exact Nat.ne_of_lt (blk_lt (g := gb608) (o := .cells #[.int .u8 a0_0, .int .u8 a0_1, .int .u8 a0_2, .int .u8 a0_3, .int .u8 a0_4] 86 (0, 0)) (zqB BK608.out)) : gb608 ≠ gb621)); have n8_ := zA ((by rw [hg]; exact Nat.ne_of_gt (blk_lt (g := gb608) (o := .cells #[.int .u8 a0_0, .int .u8 a0_1, .int .u8 a0_2, .int .u8 a0_3, .int .u8 a0_4] 86 (0, 0)) (zqB BK608.out)) : gb621 ≠ gb608)); have n9_ := zA ((by rw [hg]; exact Nat.ne_of_lt (blk_lt (g := gb614) (o := .cells #[.int .i64 t609, .int .i64 t610, .int .i64 t611, .int .i64 t612, .int .i64 t613] 57 (0, 0)) (zqB BK614.out)) : gb614 ≠ gb621)); have n10_ := zA ((by rw [hg]; exact Nat.ne_of_gt (blk_lt (g := gb614) (o := .cells #[.int .i64 t609, .int .i64 t610, .int .i64 t611, .int .i64 t612, .int .i64 t613] 57 (0, 0)) (zqB BK614.out)) : gb621 ≠ gb614)); have n11_ := zA ((by rw [hg]; exact Nat.ne_of_lt (blk_lt (g := gb620) (o := .cells #[.int .i64 0, .int .i64 0] 55 (0, 0)) (zqB BK620.out)) : gb620 ≠ gb621)); have n12_ := zA ((by rw [hg]; exact Nat.ne_of_gt (blk_lt (g := gb620) (o := .cells #[.int .i64 0, .int .i64 0] 55 (0, 0)) (zqB BK620.out)) : gb621 ≠ gb620)); clear BK608; clear BK614; clear BK620; clear HB; have BK608 := n0_; have BK614 := n1_; have BK620 := n2_; have HB := n3_; have BK621 := n4_; have GW621 := n5_; have GE621 := n6_; have NB608_621 := n7_; have NB621_608 := n8_; have NB614_621 := n9_; have NB621_614 := n10_; have NB620_621 := n11_; have NB621_620 := n12_; clear n0_ n1_ n2_ n3_ n4_ n5_ n6_ n7_ n8_ n9_ n10_ n11_ n12_; clear hb hbox hg; have hnb16 := NB620_608.out; have hnc16 := NB608_620.out; have hnb17 := NB620_614.out; have hnc17 := NB614_620.out; have hnb18 := NB620_621.out; have hnc18 := NB621_620.out; have hcz19_0 : w15.cell? ⟨gb620, 0, none⟩ = some (.int .i64 0) := (blk_cell BK620.out 0).trans rfl; have hcz19_1 : w15.cell? ⟨gb620, 1, none⟩ = some (.int .i64 0) := (blk_cell BK620.out 1).trans rfl; have hfz19_0 := blk_frozen BK620.out 0; have hfz19_1 := blk_frozen BK620.out 1; have hnb20 := NB621_608.out; have hnc20 := NB608_621.out; have hnb21 := NB621_614.out; have hnc21 := NB614_621.out; have hcz22_0 : w15.cell? ⟨gb621, 0, none⟩ = some (.int .i64 0) := (blk_cell BK621.out 0).trans rfl; have hcz22_1 : w15.cell? ⟨gb621, 1, none⟩ = some (.int .i64 0) := (blk_cell BK621.out 1).trans rfl; have hfz22_0 := blk_frozen BK621.out 0; have hfz22_1 := blk_frozen BK621.out 1)))
  (try simp only [Act.put, List.setIfInBounds_toArray, List.set_cons_zero, List.set_cons_succ])
  go_cut [48] (fun v48 wc => ∃ (kq : Nat) (x48_5 : Bool), v48 = .bool x48_5 ∧ Aside0 (pianolalaw03_PunchFewest.j0 kq a1 x48_5 t609 t610 t611 t612 t613 t615 t616 t617 t618 = some r) ∧ Aside0 (kq ≤ k) ∧ Aside0 (wc.heap[gb608]? = some (.cells #[.int .u8 a0_0, .int .u8 a0_1, .int .u8 a0_2, .int .u8 a0_3, .int .u8 a0_4] 86 (0, 0))) ∧ Aside0 (wc.heap[gb614]? = some (.cells #[.int .i64 t609, .int .i64 t610, .int .i64 t611, .int .i64 t612, .int .i64 t613] 57 (0, 0))) ∧ Aside0 (wc.heap[gb620]? = some (.cells #[.int .i64 t615, .int .i64 t616] 55 (0, 0))) ∧ Aside0 (wc.heap[gb621]? = some (.cells #[.int .i64 t617, .int .i64 t618] 55 (0, 0))) ∧ Aside0 (Below w.heap.size w wc))
  case first =>
   have H := HC6.out
   clear HC6
   by_cases c23 : t615 = 1
   ·
    rw [if_pos c23] at H
    have c23b0 : (t615 == 1) = true := beq_iff_eq.mpr c23
    have c23b1 : (t615 != 1) = false := bne_eq_false_iff_eq.mpr c23
    clear c23
    (first | rw [c23b0] | (simp only [i64_w, i32_w]; rw [c23b0]) | skip)
    by_cases c24 : t616 > 20
    ·
     rw [if_pos c24] at H
     exact (pianolalaw03_PunchFewest.j0_no H HRT.out).elim
    ·
     rw [if_neg c24] at H
     have c24b0 : decide (20 < t616) = false := decide_eq_false c24
     clear c24
     by_cases c29 : t618 > 20
     ·
      rw [if_pos c29] at H
      exact (pianolalaw03_PunchFewest.j0_no H HRT.out).elim
     ·
      rw [if_neg c29] at H
      have c29b0 : decide (20 < t618) = false := decide_eq_false c29
      clear c29
      have H' := zA H
      clear H
      have hnb37 := NB620_608.out
      have hnc37 := NB608_620.out
      have hnb38 := NB620_614.out
      have hnc38 := NB614_620.out
      have hnb39 := NB620_621.out
      have hnc39 := NB621_620.out
      have hcz40_0 : w15.cell? ⟨gb620, 0, none⟩ = some (.int .i64 0) := (blk_cell BK620.out 0).trans rfl
      have hcz40_1 : w15.cell? ⟨gb620, 1, none⟩ = some (.int .i64 0) := (blk_cell BK620.out 1).trans rfl
      have hfz40_0 := blk_frozen BK620.out 0
      have hfz40_1 := blk_frozen BK620.out 1
      have hnb41 := NB621_608.out
      have hnc41 := NB608_621.out
      have hnb42 := NB621_614.out
      have hnc42 := NB614_621.out
      have hcz43_0 : w15.cell? ⟨gb621, 0, none⟩ = some (.int .i64 0) := (blk_cell BK621.out 0).trans rfl
      have hcz43_1 : w15.cell? ⟨gb621, 1, none⟩ = some (.int .i64 0) := (blk_cell BK621.out 1).trans rfl
      have hfz43_0 := blk_frozen BK621.out 0
      have hfz43_1 := blk_frozen BK621.out 1
      go_wp2
      repeat (go_quiet (fail); try go_wp2)
      go_meet
      case rel => exact ⟨_, (decide (t617 < 0)), zqQ, H', ⟨by first | omega | exact Nat.le_refl _⟩, ⟨by (with_reducible repeat (first | refine blk_drewN ?_ _ | refine blk_drew ?_ | refine blk_alloc ?_ _)); refine blk_far ?_ NB608_621.out _; (with_reducible repeat (first | refine blk_drewN ?_ _ | refine blk_drew ?_ | refine blk_alloc ?_ _)); refine blk_far ?_ NB608_621.out _; (with_reducible repeat (first | refine blk_drewN ?_ _ | refine blk_drew ?_ | refine blk_alloc ?_ _)); refine blk_far ?_ NB608_620.out _; (with_reducible repeat (first | refine blk_drewN ?_ _ | refine blk_drew ?_ | refine blk_alloc ?_ _)); refine blk_far ?_ NB608_620.out _; (with_reducible repeat (first | refine blk_drewN ?_ _ | refine blk_drew ?_ | refine blk_alloc ?_ _)); exact BK608.out⟩, ⟨by (with_reducible repeat (first | refine blk_drewN ?_ _ | refine blk_drew ?_ | refine blk_alloc ?_ _)); refine blk_far ?_ NB614_621.out _; (with_reducible repeat (first | refine blk_drewN ?_ _ | refine blk_drew ?_ | refine blk_alloc ?_ _)); refine blk_far ?_ NB614_621.out _; (with_reducible repeat (first | refine blk_drewN ?_ _ | refine blk_drew ?_ | refine blk_alloc ?_ _)); refine blk_far ?_ NB614_620.out _; (with_reducible repeat (first | refine blk_drewN ?_ _ | refine blk_drew ?_ | refine blk_alloc ?_ _)); refine blk_far ?_ NB614_620.out _; (with_reducible repeat (first | refine blk_drewN ?_ _ | refine blk_drew ?_ | refine blk_alloc ?_ _)); exact BK614.out⟩, ⟨by (with_reducible repeat (first | refine blk_drewN ?_ _ | refine blk_drew ?_ | refine blk_alloc ?_ _)); refine blk_far ?_ NB620_621.out _; (with_reducible repeat (first | refine blk_drewN ?_ _ | refine blk_drew ?_ | refine blk_alloc ?_ _)); refine blk_far ?_ NB620_621.out _; (with_reducible repeat (first | refine blk_drewN ?_ _ | refine blk_drew ?_ | refine blk_alloc ?_ _)); refine blk_put (cs := #[.int .i64 t615, .int .i64 0]) ?_ 1 _ rfl; (with_reducible repeat (first | refine blk_drewN ?_ _ | refine blk_drew ?_ | refine blk_alloc ?_ _)); refine blk_put (cs := #[.int .i64 0, .int .i64 0]) ?_ 0 _ rfl; (with_reducible repeat (first | refine blk_drewN ?_ _ | refine blk_drew ?_ | refine blk_alloc ?_ _)); exact BK620.out⟩, ⟨by (with_reducible repeat (first | refine blk_drewN ?_ _ | refine blk_drew ?_ | refine blk_alloc ?_ _)); refine blk_put (cs := #[.int .i64 t617, .int .i64 0]) ?_ 1 _ rfl; (with_reducible repeat (first | refine blk_drewN ?_ _ | refine blk_drew ?_ | refine blk_alloc ?_ _)); refine blk_put (cs := #[.int .i64 0, .int .i64 0]) ?_ 0 _ rfl; (with_reducible repeat (first | refine blk_drewN ?_ _ | refine blk_drew ?_ | refine blk_alloc ?_ _)); refine blk_far ?_ NB621_620.out _; (with_reducible repeat (first | refine blk_drewN ?_ _ | refine blk_drew ?_ | refine blk_alloc ?_ _)); refine blk_far ?_ NB621_620.out _; (with_reducible repeat (first | refine blk_drewN ?_ _ | refine blk_drew ?_ | refine blk_alloc ?_ _)); exact BK621.out⟩, ⟨zqJ HB.out GE608.out GE614.out GE620.out GE621.out⟩⟩
   ·
    rw [if_neg c23] at H
    exact (pianolalaw03_PunchFewest.j0_no H HRT.out).elim
  case rest =>
   clear HC6
   try clear c1
   try clear c2
   try clear p2
   try clear c3
   try clear c4
   try clear c5
   try clear c5b0
   try clear c5b1
   try clear c11
   try clear c13
   try clear c16
   try clear c17
   try clear c18
   try clear c20
   try clear c21
   try clear c23
   try clear c23b0
   try clear c23b1
   try clear c24
   try clear c24b0
   try clear c25
   try clear c26
   try clear c27
   try clear c29
   try clear c29b0
   try clear c30
   try clear c31
   try clear c32
   try clear c34
   try clear c35
   try clear c37
   try clear c38
   try clear c39
   try clear c41
   try clear c42
   try clear c44
   try clear c45
   try clear c46
   try clear hcz12_0
   try clear hcz12_1
   try clear hcz12_2
   try clear hcz12_3
   try clear hcz12_4
   try clear hcz19_0
   try clear hcz19_1
   try clear hcz22_0
   try clear hcz22_1
   try clear hcz28_0
   try clear hcz28_1
   try clear hcz33_0
   try clear hcz33_1
   try clear hcz36_0
   try clear hcz36_1
   try clear hcz40_0
   try clear hcz40_1
   try clear hcz43_0
   try clear hcz43_1
   try clear hcz47_0
   try clear hcz47_1
   try clear hcz8_0
   try clear hcz8_1
   try clear hcz8_2
   try clear hcz8_3
   try clear hcz8_4
   try clear hfz12_0
   try clear hfz12_1
   try clear hfz12_2
   try clear hfz12_3
   try clear hfz12_4
   try clear hfz19_0
   try clear hfz19_1
   try clear hfz22_0
   try clear hfz22_1
   try clear hfz28_0
   try clear hfz28_1
   try clear hfz33_0
   try clear hfz33_1
   try clear hfz36_0
   try clear hfz36_1
   try clear hfz40_0
   try clear hfz40_1
   try clear hfz43_0
   try clear hfz43_1
   try clear hfz47_0
   try clear hfz47_1
   try clear hfz8_0
   try clear hfz8_1
   try clear hfz8_2
   try clear hfz8_3
   try clear hfz8_4
   obtain ⟨kq, x48_5, rfl, HA, HJ5, BK608, BK614, BK620, BK621, HB⟩ := hcut
   cases kq with
   | zero => exact absurd HA.out (by simp [pianolalaw03_PunchFewest.j0])
   | succ kj5 =>
    have H := HA.out
    clear HA
    simp only [pianolalaw03_PunchFewest.j0] at H
    by_cases c48 : x48_5 = true
    ·
     subst c48
     have H1 : (some false) = some r := by rw [if_pos rfl] at H; exact H
     clear H; have H := H1; clear H1
     exact absurd ((Option.some.inj H).trans HRT.out) (by decide)
    ·
     replace c48 := Bool.eq_false_iff.mpr c48
     subst c48
     have H1 : ((punch_Bridge.f kj5 t609 t610 t611 t612 t613 3 (wrap64 (3 + (wrap64 (1 + (Int.tmod (wrap64 (a1)) 26)))))).bind fun bt624 => (pianolalaw03_PunchFewest.l0 kj5 (wrap64 (1 + (Int.tmod (wrap64 (a1)) 26))) bt624.1 bt624.2 1 t609 t610 t611 t612 t613 t615 t616 t617 t618 3 (wrap64 (3 + (wrap64 (1 + (Int.tmod (wrap64 (a1)) 26))))))) = some r := by rw [if_neg (show ¬ (false = true) by decide)] at H; exact H
     clear H; have H := H1; clear H1
     replace H := Option.bind_eq_some_iff.mp H
     obtain ⟨⟨t624, t627⟩, A490, H⟩ := H
     replace H : (pianolalaw03_PunchFewest.l0 kj5 (wrap64 (1 + (Int.tmod (wrap64 (a1)) 26))) t624 t627 1 t609 t610 t611 t612 t613 t615 t616 t617 t618 3 (wrap64 (3 + (wrap64 (1 + (Int.tmod (wrap64 (a1)) 26)))))) = some r := H
     have A49 := zA A490
     clear A490
     have H' := zA H
     clear H
     go_wp2_with (first | ((with_reducible refine gate_dst (N := 10) rfl ?_); (try (refine gate_guard (by rfl) ?_; dsimp only)); refine box_event ?hg (N := 10) ?hd (cs := #[.int .i64 0, .int .i64 0]) (t := 47) ?hr ?_; (case hd => rfl); (case hg => rfl); (case hr => first | (go_simp; done) | (go_simp; rfl)); intro gb623 hg w50 hbox hb; have n0_ := zA (blk_below (g := gb608) (o := .cells #[.int .u8 a0_0, .int .u8 a0_1, .int .u8 a0_2, .int .u8 a0_3, .int .u8 a0_4] 86 (0, 0)) (zqB BK608.out) hb); have n1_ := zA (blk_below (g := gb614) (o := .cells #[.int .i64 t609, .int .i64 t610, .int .i64 t611, .int .i64 t612, .int .i64 t613] 57 (0, 0)) (zqB BK614.out) hb); have n2_ := zA (blk_below (g := gb620) (o := .cells #[.int .i64 t615, .int .i64 t616] 55 (0, 0)) (zqB BK620.out) hb); have n3_ := zA (blk_below (g := gb621) (o := .cells #[.int .i64 t617, .int .i64 t618] 55 (0, 0)) (zqB BK621.out) hb); have n4_ := zA (below_step (zqJ HB.out GE608.out GE614.out GE620.out GE621.out) hb); have n5_ := zA (hbox); have n6_ := zA ((by rw [hg]; exact (below_size (zqJ HB.out GE608.out GE614.out GE620.out GE621.out)) : w.heap.size ≤ gb623)); have n7_ := zA ((by rw [hg]; exact (below_size (zqJ HB.out GE608.out GE614.out GE620.out GE621.out)) : w.heap.size ≤ gb623)); have n8_ := zA ((by rw [hg]; exact Nat.ne_of_lt (blk_lt (g := gb608) (o := .cells #[.int .u8 a0_0, .int .u8 a0_1, .int .u8 a0_2, .int .u8 a0_3, .int .u8 a0_4] 86 (0, 0)) (zqB BK608.out)) : gb608 ≠ gb623)); have n9_ := zA ((by rw [hg]; exact Nat.ne_of_gt (blk_lt (g := gb608) (o := .cells #[.int .u8 a0_0, .int .u8 a0_1, .int .u8 a0_2, .int .u8 a0_3, .int .u8 a0_4] 86 (0, 0)) (zqB BK608.out)) : gb623 ≠ gb608)); have n10_ := zA ((by rw [hg]; exact Nat.ne_of_lt (blk_lt (g := gb614) (o := .cells #[.int .i64 t609, .int .i64 t610, .int .i64 t611, .int .i64 t612, .int .i64 t613] 57 (0, 0)) (zqB BK614.out)) : gb614 ≠ gb623)); have n11_ := zA ((by rw [hg]; exact Nat.ne_of_gt (blk_lt (g := gb614) (o := .cells #[.int .i64 t609, .int .i64 t610, .int .i64 t611, .int .i64 t612, .int .i64 t613] 57 (0, 0)) (zqB BK614.out)) : gb623 ≠ gb614)); have n12_ := zA ((by rw [hg]; exact Nat.ne_of_lt (blk_lt (g := gb620) (o := .cells #[.int .i64 t615, .int .i64 t616] 55 (0, 0)) (zqB BK620.out)) : gb620 ≠ gb623)); have n13_ := zA ((by rw [hg]; exact Nat.ne_of_gt (blk_lt (g := gb620) (o := .cells #[.int .i64 t615, .int .i64 t616] 55 (0, 0)) (zqB BK620.out)) : gb623 ≠ gb620)); have n14_ := zA ((by rw [hg]; exact Nat.ne_of_lt (blk_lt (g := gb621) (o := .cells #[.int .i64 t617, .int .i64 t618] 55 (0, 0)) (zqB BK621.out)) : gb621 ≠ gb623)); have n15_ := zA ((by rw [hg]; exact Nat.ne_of_gt (blk_lt (g := gb621) (o := .cells #[.int .i64 t617, .int .i64 t618] 55 (0, 0)) (zqB BK621.out)) : gb623 ≠ gb621)); clear BK608; clear BK614; clear BK620; clear BK621; clear HB; have BK608 := n0_; have BK614 := n1_; have BK620 := n2_; have BK621 := n3_; have HB := n4_; have BK623 := n5_; have GW623 := n6_; have GE623 := n7_; have NB608_623 := n8_; have NB623_608 := n9_; have NB614_623 := n10_; have NB623_614 := n11_; have NB620_623 := n12_; have NB623_620 := n13_; have NB621_623 := n14_; have NB623_621 := n15_; clear n0_ n1_ n2_ n3_ n4_ n5_ n6_ n7_ n8_ n9_ n10_ n11_ n12_ n13_ n14_ n15_; clear hb hbox hg; have hnb51 := NB623_608.out; have hnc51 := NB608_623.out; have hnb52 := NB623_614.out; have hnc52 := NB614_623.out; have hnb53 := NB623_620.out; have hnc53 := NB620_623.out; have hnb54 := NB623_621.out; have hnc54 := NB621_623.out; have hcz55_0 : w50.cell? ⟨gb623, 0, none⟩ = some (.int .i64 0) := (blk_cell BK623.out 0).trans rfl; have hcz55_1 : w50.cell? ⟨gb623, 1, none⟩ = some (.int .i64 0) := (blk_cell BK623.out 1).trans rfl; have hfz55_0 := blk_frozen BK623.out 0; have hfz55_1 := blk_frozen BK623.out 1; have hnb56 := NB614_608.out; have hnc56 := NB608_614.out; have hnb57 := NB614_620.out; have hnc57 := NB620_614.out; have hnb58 := NB614_621.out; have hnc58 := NB621_614.out; have hcz59_0 : w50.cell? ⟨gb614, 0, none⟩ = some (.int .i64 t609) := (blk_cell BK614.out 0).trans rfl; have hcz59_1 : w50.cell? ⟨gb614, 1, none⟩ = some (.int .i64 t610) := (blk_cell BK614.out 1).trans rfl; have hcz59_2 : w50.cell? ⟨gb614, 2, none⟩ = some (.int .i64 t611) := (blk_cell BK614.out 2).trans rfl; have hcz59_3 : w50.cell? ⟨gb614, 3, none⟩ = some (.int .i64 t612) := (blk_cell BK614.out 3).trans rfl; have hcz59_4 : w50.cell? ⟨gb614, 4, none⟩ = some (.int .i64 t613) := (blk_cell BK614.out 4).trans rfl; have hfz59_0 := blk_frozen BK614.out 0; have hfz59_1 := blk_frozen BK614.out 1; have hfz59_2 := blk_frozen BK614.out 2; have hfz59_3 := blk_frozen BK614.out 3; have hfz59_4 := blk_frozen BK614.out 4) | (go_at_call 32; (with_reducible refine (punch_Bridge.calls kj5 t609 t610 t611 t612 t613 3 (wrap64 (3 + (wrap64 (1 + (Int.tmod (wrap64 (a1)) 26))))) t624 t627 _ A49.out).mono ?_); rintro e w60 ⟨v625, rfl, ho0, hb⟩; have n0_ := zA (Kd.R_lower (Kd.R_newB ho0 (g := gb623) (o := .cells #[.int .i64 3, .int .i64 (wrap64 (3 + (wrap64 (1 + (Int.tmod (wrap64 (a1)) 26)))))] 47 (0, 0)) (by (with_reducible repeat (first | refine blk_drewN ?_ _ | refine blk_drew ?_ | refine blk_alloc ?_ _)); refine blk_put (cs := #[.int .i64 3, .int .i64 0]) ?_ 1 _ rfl; (with_reducible repeat (first | refine blk_drewN ?_ _ | refine blk_drew ?_ | refine blk_alloc ?_ _)); refine blk_put (cs := #[.int .i64 0, .int .i64 0]) ?_ 0 _ rfl; (with_reducible repeat (first | refine blk_drewN ?_ _ | refine blk_drew ?_ | refine blk_alloc ?_ _)); exact BK623.out)) (below_size (by repeat (first | (with_reducible first | exact HB.out | apply below_alloc | apply pw_below_drewN | apply below_drew1 | refine below_set ?_ GE608.out | refine below_set ?_ GE614.out | refine below_set ?_ GE620.out | refine below_set ?_ GE621.out | refine below_set ?_ GE623.out) | exact HB.out)))); have n1_ := zA (blk_below (g := gb608) (o := .cells #[.int .u8 a0_0, .int .u8 a0_1, .int .u8 a0_2, .int .u8 a0_3, .int .u8 a0_4] 86 (0, 0)) (by (with_reducible repeat (first | refine blk_drewN ?_ _ | refine blk_drew ?_ | refine blk_alloc ?_ _)); refine blk_far ?_ NB608_623.out _; (with_reducible repeat (first | refine blk_drewN ?_ _ | refine blk_drew ?_ | refine blk_alloc ?_ _)); refine blk_far ?_ NB608_623.out _; (with_reducible repeat (first | refine blk_drewN ?_ _ | refine blk_drew ?_ | refine blk_alloc ?_ _)); exact BK608.out) hb); have n2_ := zA (blk_below (g := gb614) (o := .cells #[.int .i64 t609, .int .i64 t610, .int .i64 t611, .int .i64 t612, .int .i64 t613] 57 (0, 0)) (by (with_reducible repeat (first | refine blk_drewN ?_ _ | refine blk_drew ?_ | refine blk_alloc ?_ _)); refine blk_far ?_ NB614_623.out _; (with_reducible repeat (first | refine blk_drewN ?_ _ | refine blk_drew ?_ | refine blk_alloc ?_ _)); refine blk_far ?_ NB614_623.out _; (with_reducible repeat (first | refine blk_drewN ?_ _ | refine blk_drew ?_ | refine blk_alloc ?_ _)); exact BK614.out) hb); have n3_ := zA (blk_below (g := gb620) (o := .cells #[.int .i64 t615, .int .i64 t616] 55 (0, 0)) (by (with_reducible repeat (first | refine blk_drewN ?_ _ | refine blk_drew ?_ | refine blk_alloc ?_ _)); refine blk_far ?_ NB620_623.out _; (with_reducible repeat (first | refine blk_drewN ?_ _ | refine blk_drew ?_ | refine blk_alloc ?_ _)); refine blk_far ?_ NB620_623.out _; (with_reducible repeat (first | refine blk_drewN ?_ _ | refine blk_drew ?_ | refine blk_alloc ?_ _)); exact BK620.out) hb); have n4_ := zA (blk_below (g := gb621) (o := .cells #[.int .i64 t617, .int .i64 t618] 55 (0, 0)) (by (with_reducible repeat (first | refine blk_drewN ?_ _ | refine blk_drew ?_ | refine blk_alloc ?_ _)); refine blk_far ?_ NB621_623.out _; (with_reducible repeat (first | refine blk_drewN ?_ _ | refine blk_drew ?_ | refine blk_alloc ?_ _)); refine blk_far ?_ NB621_623.out _; (with_reducible repeat (first | refine blk_drewN ?_ _ | refine blk_drew ?_ | refine blk_alloc ?_ _)); exact BK621.out) hb); have n5_ := zA (blk_below (g := gb623) (o := .cells #[.int .i64 3, .int .i64 (wrap64 (3 + (wrap64 (1 + (Int.tmod (wrap64 (a1)) 26)))))] 47 (0, 0)) (by (with_reducible repeat (first | refine blk_drewN ?_ _ | refine blk_drew ?_ | refine blk_alloc ?_ _)); refine blk_put (cs := #[.int .i64 3, .int .i64 0]) ?_ 1 _ rfl; (with_reducible repeat (first | refine blk_drewN ?_ _ | refine blk_drew ?_ | refine blk_alloc ?_ _)); refine blk_put (cs := #[.int .i64 0, .int .i64 0]) ?_ 0 _ rfl; (with_reducible repeat (first | refine blk_drewN ?_ _ | refine blk_drew ?_ | refine blk_alloc ?_ _)); exact BK623.out) hb); have n6_ := zA (below_step (by repeat (first | (with_reducible first | exact HB.out | apply below_alloc | apply pw_below_drewN | apply below_drew1 | refine below_set ?_ GE608.out | refine below_set ?_ GE614.out | refine below_set ?_ GE620.out | refine below_set ?_ GE621.out | refine below_set ?_ GE623.out) | exact HB.out)) hb); clear BK608; clear BK614; clear BK620; clear BK621; clear BK623; clear HB; have HO626 := n0_; have BK608 := n1_; have BK614 := n2_; have BK620 := n3_; have BK621 := n4_; have BK623 := n5_; have HB := n6_; clear n0_ n1_ n2_ n3_ n4_ n5_ n6_; (try clear hb); (try clear hb2); (try clear hk); (try clear hi); (try clear ho0)))
     repeat (go_quiet (first | ((with_reducible refine gate_dst (N := 10) rfl ?_); (try (refine gate_guard (by rfl) ?_; dsimp only)); refine box_event ?hg (N := 10) ?hd (cs := #[.int .i64 0, .int .i64 0]) (t := 47) ?hr ?_; (case hd => rfl); (case hg => rfl); (case hr => first | (go_simp; done) | (go_simp; rfl)); intro gb623 hg w50 hbox hb; have n0_ := zA (blk_below (g := gb608) (o := .cells #[.int .u8 a0_0, .int .u8 a0_1, .int .u8 a0_2, .int .u8 a0_3, .int .u8 a0_4] 86 (0, 0)) (zqB BK608.out) hb); have n1_ := zA (blk_below (g := gb614) (o := .cells #[.int .i64 t609, .int .i64 t610, .int .i64 t611, .int .i64 t612, .int .i64 t613] 57 (0, 0)) (zqB BK614.out) hb); have n2_ := zA (blk_below (g := gb620) (o := .cells #[.int .i64 t615, .int .i64 t616] 55 (0, 0)) (zqB BK620.out) hb); have n3_ := zA (blk_below (g := gb621) (o := .cells #[.int .i64 t617, .int .i64 t618] 55 (0, 0)) (zqB BK621.out) hb); have n4_ := zA (below_step (zqJ HB.out GE608.out GE614.out GE620.out GE621.out) hb); have n5_ := zA (hbox); have n6_ := zA ((by rw [hg]; exact (below_size (zqJ HB.out GE608.out GE614.out GE620.out GE621.out)) : w.heap.size ≤ gb623)); have n7_ := zA ((by rw [hg]; exact (below_size (zqJ HB.out GE608.out GE614.out GE620.out GE621.out)) : w.heap.size ≤ gb623)); have n8_ := zA ((by rw [hg]; exact Nat.ne_of_lt (blk_lt (g := gb608) (o := .cells #[.int .u8 a0_0, .int .u8 a0_1, .int .u8 a0_2, .int .u8 a0_3, .int .u8 a0_4] 86 (0, 0)) (zqB BK608.out)) : gb608 ≠ gb623)); have n9_ := zA ((by rw [hg]; exact Nat.ne_of_gt (blk_lt (g := gb608) (o := .cells #[.int .u8 a0_0, .int .u8 a0_1, .int .u8 a0_2, .int .u8 a0_3, .int .u8 a0_4] 86 (0, 0)) (zqB BK608.out)) : gb623 ≠ gb608)); have n10_ := zA ((by rw [hg]; exact Nat.ne_of_lt (blk_lt (g := gb614) (o := .cells #[.int .i64 t609, .int .i64 t610, .int .i64 t611, .int .i64 t612, .int .i64 t613] 57 (0, 0)) (zqB BK614.out)) : gb614 ≠ gb623)); have n11_ := zA ((by rw [hg]; exact Nat.ne_of_gt (blk_lt (g := gb614) (o := .cells #[.int .i64 t609, .int .i64 t610, .int .i64 t611, .int .i64 t612, .int .i64 t613] 57 (0, 0)) (zqB BK614.out)) : gb623 ≠ gb614)); have n12_ := zA ((by rw [hg]; exact Nat.ne_of_lt (blk_lt (g := gb620) (o := .cells #[.int .i64 t615, .int .i64 t616] 55 (0, 0)) (zqB BK620.out)) : gb620 ≠ gb623)); have n13_ := zA ((by rw [hg]; exact Nat.ne_of_gt (blk_lt (g := gb620) (o := .cells #[.int .i64 t615, .int .i64 t616] 55 (0, 0)) (zqB BK620.out)) : gb623 ≠ gb620)); have n14_ := zA ((by rw [hg]; exact Nat.ne_of_lt (blk_lt (g := gb621) (o := .cells #[.int .i64 t617, .int .i64 t618] 55 (0, 0)) (zqB BK621.out)) : gb621 ≠ gb623)); have n15_ := zA ((by rw [hg]; exact Nat.ne_of_gt (blk_lt (g := gb621) (o := .cells #[.int .i64 t617, .int .i64 t618] 55 (0, 0)) (zqB BK621.out)) : gb623 ≠ gb621)); clear BK608; clear BK614; clear BK620; clear BK621; clear HB; have BK608 := n0_; have BK614 := n1_; have BK620 := n2_; have BK621 := n3_; have HB := n4_; have BK623 := n5_; have GW623 := n6_; have GE623 := n7_; have NB608_623 := n8_; have NB623_608 := n9_; have NB614_623 := n10_; have NB623_614 := n11_; have NB620_623 := n12_; have NB623_620 := n13_; have NB621_623 := n14_; have NB623_621 := n15_; clear n0_ n1_ n2_ n3_ n4_ n5_ n6_ n7_ n8_ n9_ n10_ n11_ n12_ n13_ n14_ n15_; clear hb hbox hg; have hnb51 := NB623_608.out; have hnc51 := NB608_623.out; have hnb52 := NB623_614.out; have hnc52 := NB614_623.out; have hnb53 := NB623_620.out; have hnc53 := NB620_623.out; have hnb54 := NB623_621.out; have hnc54 := NB621_623.out; have hcz55_0 : w50.cell? ⟨gb623, 0, none⟩ = some (.int .i64 0) := (blk_cell BK623.out 0).trans rfl; have hcz55_1 : w50.cell? ⟨gb623, 1, none⟩ = some (.int .i64 0) := (blk_cell BK623.out 1).trans rfl; have hfz55_0 := blk_frozen BK623.out 0; have hfz55_1 := blk_frozen BK623.out 1; have hnb56 := NB614_608.out; have hnc56 := NB608_614.out; have hnb57 := NB614_620.out; have hnc57 := NB620_614.out; have hnb58 := NB614_621.out; have hnc58 := NB621_614.out; have hcz59_0 : w50.cell? ⟨gb614, 0, none⟩ = some (.int .i64 t609) := (blk_cell BK614.out 0).trans rfl; have hcz59_1 : w50.cell? ⟨gb614, 1, none⟩ = some (.int .i64 t610) := (blk_cell BK614.out 1).trans rfl; have hcz59_2 : w50.cell? ⟨gb614, 2, none⟩ = some (.int .i64 t611) := (blk_cell BK614.out 2).trans rfl; have hcz59_3 : w50.cell? ⟨gb614, 3, none⟩ = some (.int .i64 t612) := (blk_cell BK614.out 3).trans rfl; have hcz59_4 : w50.cell? ⟨gb614, 4, none⟩ = some (.int .i64 t613) := (blk_cell BK614.out 4).trans rfl; have hfz59_0 := blk_frozen BK614.out 0; have hfz59_1 := blk_frozen BK614.out 1; have hfz59_2 := blk_frozen BK614.out 2; have hfz59_3 := blk_frozen BK614.out 3; have hfz59_4 := blk_frozen BK614.out 4) | (go_at_call 32; (with_reducible refine (punch_Bridge.calls kj5 t609 t610 t611 t612 t613 3 (wrap64 (3 + (wrap64 (1 + (Int.tmod (wrap64 (a1)) 26))))) t624 t627 _ A49.out).mono ?_); rintro e w60 ⟨v625, rfl, ho0, hb⟩; have n0_ := zA (Kd.R_lower (Kd.R_newB ho0 (g := gb623) (o := .cells #[.int .i64 3, .int .i64 (wrap64 (3 + (wrap64 (1 + (Int.tmod (wrap64 (a1)) 26)))))] 47 (0, 0)) (by (with_reducible repeat (first | refine blk_drewN ?_ _ | refine blk_drew ?_ | refine blk_alloc ?_ _)); refine blk_put (cs := #[.int .i64 3, .int .i64 0]) ?_ 1 _ rfl; (with_reducible repeat (first | refine blk_drewN ?_ _ | refine blk_drew ?_ | refine blk_alloc ?_ _)); refine blk_put (cs := #[.int .i64 0, .int .i64 0]) ?_ 0 _ rfl; (with_reducible repeat (first | refine blk_drewN ?_ _ | refine blk_drew ?_ | refine blk_alloc ?_ _)); exact BK623.out)) (below_size (by repeat (first | (with_reducible first | exact HB.out | apply below_alloc | apply pw_below_drewN | apply below_drew1 | refine below_set ?_ GE608.out | refine below_set ?_ GE614.out | refine below_set ?_ GE620.out | refine below_set ?_ GE621.out | refine below_set ?_ GE623.out) | exact HB.out)))); have n1_ := zA (blk_below (g := gb608) (o := .cells #[.int .u8 a0_0, .int .u8 a0_1, .int .u8 a0_2, .int .u8 a0_3, .int .u8 a0_4] 86 (0, 0)) (by (with_reducible repeat (first | refine blk_drewN ?_ _ | refine blk_drew ?_ | refine blk_alloc ?_ _)); refine blk_far ?_ NB608_623.out _; (with_reducible repeat (first | refine blk_drewN ?_ _ | refine blk_drew ?_ | refine blk_alloc ?_ _)); refine blk_far ?_ NB608_623.out _; (with_reducible repeat (first | refine blk_drewN ?_ _ | refine blk_drew ?_ | refine blk_alloc ?_ _)); exact BK608.out) hb); have n2_ := zA (blk_below (g := gb614) (o := .cells #[.int .i64 t609, .int .i64 t610, .int .i64 t611, .int .i64 t612, .int .i64 t613] 57 (0, 0)) (by (with_reducible repeat (first | refine blk_drewN ?_ _ | refine blk_drew ?_ | refine blk_alloc ?_ _)); refine blk_far ?_ NB614_623.out _; (with_reducible repeat (first | refine blk_drewN ?_ _ | refine blk_drew ?_ | refine blk_alloc ?_ _)); refine blk_far ?_ NB614_623.out _; (with_reducible repeat (first | refine blk_drewN ?_ _ | refine blk_drew ?_ | refine blk_alloc ?_ _)); exact BK614.out) hb); have n3_ := zA (blk_below (g := gb620) (o := .cells #[.int .i64 t615, .int .i64 t616] 55 (0, 0)) (by (with_reducible repeat (first | refine blk_drewN ?_ _ | refine blk_drew ?_ | refine blk_alloc ?_ _)); refine blk_far ?_ NB620_623.out _; (with_reducible repeat (first | refine blk_drewN ?_ _ | refine blk_drew ?_ | refine blk_alloc ?_ _)); refine blk_far ?_ NB620_623.out _; (with_reducible repeat (first | refine blk_drewN ?_ _ | refine blk_drew ?_ | refine blk_alloc ?_ _)); exact BK620.out) hb); have n4_ := zA (blk_below (g := gb621) (o := .cells #[.int .i64 t617, .int .i64 t618] 55 (0, 0)) (by (with_reducible repeat (first | refine blk_drewN ?_ _ | refine blk_drew ?_ | refine blk_alloc ?_ _)); refine blk_far ?_ NB621_623.out _; (with_reducible repeat (first | refine blk_drewN ?_ _ | refine blk_drew ?_ | refine blk_alloc ?_ _)); refine blk_far ?_ NB621_623.out _; (with_reducible repeat (first | refine blk_drewN ?_ _ | refine blk_drew ?_ | refine blk_alloc ?_ _)); exact BK621.out) hb); have n5_ := zA (blk_below (g := gb623) (o := .cells #[.int .i64 3, .int .i64 (wrap64 (3 + (wrap64 (1 + (Int.tmod (wrap64 (a1)) 26)))))] 47 (0, 0)) (by (with_reducible repeat (first | refine blk_drewN ?_ _ | refine blk_drew ?_ | refine blk_alloc ?_ _)); refine blk_put (cs := #[.int .i64 3, .int .i64 0]) ?_ 1 _ rfl; (with_reducible repeat (first | refine blk_drewN ?_ _ | refine blk_drew ?_ | refine blk_alloc ?_ _)); refine blk_put (cs := #[.int .i64 0, .int .i64 0]) ?_ 0 _ rfl; (with_reducible repeat (first | refine blk_drewN ?_ _ | refine blk_drew ?_ | refine blk_alloc ?_ _)); exact BK623.out) hb); have n6_ := zA (below_step (by repeat (first | (with_reducible first | exact HB.out | apply below_alloc | apply pw_below_drewN | apply below_drew1 | refine below_set ?_ GE608.out | refine below_set ?_ GE614.out | refine below_set ?_ GE620.out | refine below_set ?_ GE621.out | refine below_set ?_ GE623.out) | exact HB.out)) hb); clear BK608; clear BK614; clear BK620; clear BK621; clear BK623; clear HB; have HO626 := n0_; have BK608 := n1_; have BK614 := n2_; have BK620 := n3_; have BK621 := n4_; have BK623 := n5_; have HB := n6_; clear n0_ n1_ n2_ n3_ n4_ n5_ n6_; (try clear hb); (try clear hb2); (try clear hk); (try clear hi); (try clear ho0))); try go_wp2_with (first | ((with_reducible refine gate_dst (N := 10) rfl ?_); (try (refine gate_guard (by rfl) ?_; dsimp only)); refine box_event ?hg (N := 10) ?hd (cs := #[.int .i64 0, .int .i64 0]) (t := 47) ?hr ?_; (case hd => rfl); (case hg => rfl); (case hr => first | (go_simp; done) | (go_simp; rfl)); intro gb623 hg w50 hbox hb; have n0_ := zA (blk_below (g := gb608) (o := .cells #[.int .u8 a0_0, .int .u8 a0_1, .int .u8 a0_2, .int .u8 a0_3, .int .u8 a0_4] 86 (0, 0)) (zqB BK608.out) hb); have n1_ := zA (blk_below (g := gb614) (o := .cells #[.int .i64 t609, .int .i64 t610, .int .i64 t611, .int .i64 t612, .int .i64 t613] 57 (0, 0)) (zqB BK614.out) hb); have n2_ := zA (blk_below (g := gb620) (o := .cells #[.int .i64 t615, .int .i64 t616] 55 (0, 0)) (zqB BK620.out) hb); have n3_ := zA (blk_below (g := gb621) (o := .cells #[.int .i64 t617, .int .i64 t618] 55 (0, 0)) (zqB BK621.out) hb); have n4_ := zA (below_step (zqJ HB.out GE608.out GE614.out GE620.out GE621.out) hb); have n5_ := zA (hbox); have n6_ := zA ((by rw [hg]; exact (below_size (zqJ HB.out GE608.out GE614.out GE620.out GE621.out)) : w.heap.size ≤ gb623)); have n7_ := zA ((by rw [hg]; exact (below_size (zqJ HB.out GE608.out GE614.out GE620.out GE621.out)) : w.heap.size ≤ gb623)); have n8_ := zA ((by rw [hg]; exact Nat.ne_of_lt (blk_lt (g := gb608) (o := .cells #[.int .u8 a0_0, .int .u8 a0_1, .int .u8 a0_2, .int .u8 a0_3, .int .u8 a0_4] 86 (0, 0)) (zqB BK608.out)) : gb608 ≠ gb623)); have n9_ := zA ((by rw [hg]; exact Nat.ne_of_gt (blk_lt (g := gb608) (o := .cells #[.int .u8 a0_0, .int .u8 a0_1, .int .u8 a0_2, .int .u8 a0_3, .int .u8 a0_4] 86 (0, 0)) (zqB BK608.out)) : gb623 ≠ gb608)); have n10_ := zA ((by rw [hg]; exact Nat.ne_of_lt (blk_lt (g := gb614) (o := .cells #[.int .i64 t609, .int .i64 t610, .int .i64 t611, .int .i64 t612, .int .i64 t613] 57 (0, 0)) (zqB BK614.out)) : gb614 ≠ gb623)); have n11_ := zA ((by rw [hg]; exact Nat.ne_of_gt (blk_lt (g := gb614) (o := .cells #[.int .i64 t609, .int .i64 t610, .int .i64 t611, .int .i64 t612, .int .i64 t613] 57 (0, 0)) (zqB BK614.out)) : gb623 ≠ gb614)); have n12_ := zA ((by rw [hg]; exact Nat.ne_of_lt (blk_lt (g := gb620) (o := .cells #[.int .i64 t615, .int .i64 t616] 55 (0, 0)) (zqB BK620.out)) : gb620 ≠ gb623)); have n13_ := zA ((by rw [hg]; exact Nat.ne_of_gt (blk_lt (g := gb620) (o := .cells #[.int .i64 t615, .int .i64 t616] 55 (0, 0)) (zqB BK620.out)) : gb623 ≠ gb620)); have n14_ := zA ((by rw [hg]; exact Nat.ne_of_lt (blk_lt (g := gb621) (o := .cells #[.int .i64 t617, .int .i64 t618] 55 (0, 0)) (zqB BK621.out)) : gb621 ≠ gb623)); have n15_ := zA ((by rw [hg]; exact Nat.ne_of_gt (blk_lt (g := gb621) (o := .cells #[.int .i64 t617, .int .i64 t618] 55 (0, 0)) (zqB BK621.out)) : gb623 ≠ gb621)); clear BK608; clear BK614; clear BK620; clear BK621; clear HB; have BK608 := n0_; have BK614 := n1_; have BK620 := n2_; have BK621 := n3_; have HB := n4_; have BK623 := n5_; have GW623 := n6_; have GE623 := n7_; have NB608_623 := n8_; have NB623_608 := n9_; have NB614_623 := n10_; have NB623_614 := n11_; have NB620_623 := n12_; have NB623_620 := n13_; have NB621_623 := n14_; have NB623_621 := n15_; clear n0_ n1_ n2_ n3_ n4_ n5_ n6_ n7_ n8_ n9_ n10_ n11_ n12_ n13_ n14_ n15_; clear hb hbox hg; have hnb51 := NB623_608.out; have hnc51 := NB608_623.out; have hnb52 := NB623_614.out; have hnc52 := NB614_623.out; have hnb53 := NB623_620.out; have hnc53 := NB620_623.out; have hnb54 := NB623_621.out; have hnc54 := NB621_623.out; have hcz55_0 : w50.cell? ⟨gb623, 0, none⟩ = some (.int .i64 0) := (blk_cell BK623.out 0).trans rfl; have hcz55_1 : w50.cell? ⟨gb623, 1, none⟩ = some (.int .i64 0) := (blk_cell BK623.out 1).trans rfl; have hfz55_0 := blk_frozen BK623.out 0; have hfz55_1 := blk_frozen BK623.out 1; have hnb56 := NB614_608.out; have hnc56 := NB608_614.out; have hnb57 := NB614_620.out; have hnc57 := NB620_614.out; have hnb58 := NB614_621.out; have hnc58 := NB621_614.out; have hcz59_0 : w50.cell? ⟨gb614, 0, none⟩ = some (.int .i64 t609) := (blk_cell BK614.out 0).trans rfl; have hcz59_1 : w50.cell? ⟨gb614, 1, none⟩ = some (.int .i64 t610) := (blk_cell BK614.out 1).trans rfl; have hcz59_2 : w50.cell? ⟨gb614, 2, none⟩ = some (.int .i64 t611) := (blk_cell BK614.out 2).trans rfl; have hcz59_3 : w50.cell? ⟨gb614, 3, none⟩ = some (.int .i64 t612) := (blk_cell BK614.out 3).trans rfl; have hcz59_4 : w50.cell? ⟨gb614, 4, none⟩ = some (.int .i64 t613) := (blk_cell BK614.out 4).trans rfl; have hfz59_0 := blk_frozen BK614.out 0; have hfz59_1 := blk_frozen BK614.out 1; have hfz59_2 := blk_frozen BK614.out 2; have hfz59_3 := blk_frozen BK614.out 3; have hfz59_4 := blk_frozen BK614.out 4) | (go_at_call 32; (with_reducible refine (punch_Bridge.calls kj5 t609 t610 t611 t612 t613 3 (wrap64 (3 + (wrap64 (1 + (Int.tmod (wrap64 (a1)) 26))))) t624 t627 _ A49.out).mono ?_); rintro e w60 ⟨v625, rfl, ho0, hb⟩; have n0_ := zA (Kd.R_lower (Kd.R_newB ho0 (g := gb623) (o := .cells #[.int .i64 3, .int .i64 (wrap64 (3 + (wrap64 (1 + (Int.tmod (wrap64 (a1)) 26)))))] 47 (0, 0)) (by (with_reducible repeat (first | refine blk_drewN ?_ _ | refine blk_drew ?_ | refine blk_alloc ?_ _)); refine blk_put (cs := #[.int .i64 3, .int .i64 0]) ?_ 1 _ rfl; (with_reducible repeat (first | refine blk_drewN ?_ _ | refine blk_drew ?_ | refine blk_alloc ?_ _)); refine blk_put (cs := #[.int .i64 0, .int .i64 0]) ?_ 0 _ rfl; (with_reducible repeat (first | refine blk_drewN ?_ _ | refine blk_drew ?_ | refine blk_alloc ?_ _)); exact BK623.out)) (below_size (by repeat (first | (with_reducible first | exact HB.out | apply below_alloc | apply pw_below_drewN | apply below_drew1 | refine below_set ?_ GE608.out | refine below_set ?_ GE614.out | refine below_set ?_ GE620.out | refine below_set ?_ GE621.out | refine below_set ?_ GE623.out) | exact HB.out)))); have n1_ := zA (blk_below (g := gb608) (o := .cells #[.int .u8 a0_0, .int .u8 a0_1, .int .u8 a0_2, .int .u8 a0_3, .int .u8 a0_4] 86 (0, 0)) (by (with_reducible repeat (first | refine blk_drewN ?_ _ | refine blk_drew ?_ | refine blk_alloc ?_ _)); refine blk_far ?_ NB608_623.out _; (with_reducible repeat (first | refine blk_drewN ?_ _ | refine blk_drew ?_ | refine blk_alloc ?_ _)); refine blk_far ?_ NB608_623.out _; (with_reducible repeat (first | refine blk_drewN ?_ _ | refine blk_drew ?_ | refine blk_alloc ?_ _)); exact BK608.out) hb); have n2_ := zA (blk_below (g := gb614) (o := .cells #[.int .i64 t609, .int .i64 t610, .int .i64 t611, .int .i64 t612, .int .i64 t613] 57 (0, 0)) (by (with_reducible repeat (first | refine blk_drewN ?_ _ | refine blk_drew ?_ | refine blk_alloc ?_ _)); refine blk_far ?_ NB614_623.out _; (with_reducible repeat (first | refine blk_drewN ?_ _ | refine blk_drew ?_ | refine blk_alloc ?_ _)); refine blk_far ?_ NB614_623.out _; (with_reducible repeat (first | refine blk_drewN ?_ _ | refine blk_drew ?_ | refine blk_alloc ?_ _)); exact BK614.out) hb); have n3_ := zA (blk_below (g := gb620) (o := .cells #[.int .i64 t615, .int .i64 t616] 55 (0, 0)) (by (with_reducible repeat (first | refine blk_drewN ?_ _ | refine blk_drew ?_ | refine blk_alloc ?_ _)); refine blk_far ?_ NB620_623.out _; (with_reducible repeat (first | refine blk_drewN ?_ _ | refine blk_drew ?_ | refine blk_alloc ?_ _)); refine blk_far ?_ NB620_623.out _; (with_reducible repeat (first | refine blk_drewN ?_ _ | refine blk_drew ?_ | refine blk_alloc ?_ _)); exact BK620.out) hb); have n4_ := zA (blk_below (g := gb621) (o := .cells #[.int .i64 t617, .int .i64 t618] 55 (0, 0)) (by (with_reducible repeat (first | refine blk_drewN ?_ _ | refine blk_drew ?_ | refine blk_alloc ?_ _)); refine blk_far ?_ NB621_623.out _; (with_reducible repeat (first | refine blk_drewN ?_ _ | refine blk_drew ?_ | refine blk_alloc ?_ _)); refine blk_far ?_ NB621_623.out _; (with_reducible repeat (first | refine blk_drewN ?_ _ | refine blk_drew ?_ | refine blk_alloc ?_ _)); exact BK621.out) hb); have n5_ := zA (blk_below (g := gb623) (o := .cells #[.int .i64 3, .int .i64 (wrap64 (3 + (wrap64 (1 + (Int.tmod (wrap64 (a1)) 26)))))] 47 (0, 0)) (by (with_reducible repeat (first | refine blk_drewN ?_ _ | refine blk_drew ?_ | refine blk_alloc ?_ _)); refine blk_put (cs := #[.int .i64 3, .int .i64 0]) ?_ 1 _ rfl; (with_reducible repeat (first | refine blk_drewN ?_ _ | refine blk_drew ?_ | refine blk_alloc ?_ _)); refine blk_put (cs := #[.int .i64 0, .int .i64 0]) ?_ 0 _ rfl; (with_reducible repeat (first | refine blk_drewN ?_ _ | refine blk_drew ?_ | refine blk_alloc ?_ _)); exact BK623.out) hb); have n6_ := zA (below_step (by repeat (first | (with_reducible first | exact HB.out | apply below_alloc | apply pw_below_drewN | apply below_drew1 | refine below_set ?_ GE608.out | refine below_set ?_ GE614.out | refine below_set ?_ GE620.out | refine below_set ?_ GE621.out | refine below_set ?_ GE623.out) | exact HB.out)) hb); clear BK608; clear BK614; clear BK620; clear BK621; clear BK623; clear HB; have HO626 := n0_; have BK608 := n1_; have BK614 := n2_; have BK620 := n3_; have BK621 := n4_; have BK623 := n5_; have HB := n6_; clear n0_ n1_ n2_ n3_ n4_ n5_ n6_; (try clear hb); (try clear hb2); (try clear hk); (try clear hi); (try clear ho0))))
     go_loopg [13] kj5 (fun kq v13 w' => ∃ (x13_2 : Int), v13 = .int .i64 x13_2 ∧ Aside0 (pianolalaw03_PunchFewest.l0 kq (wrap64 (1 + (Int.tmod (wrap64 (a1)) 26))) t624 t627 x13_2 t609 t610 t611 t612 t613 t615 t616 t617 t618 3 (wrap64 (3 + (wrap64 (1 + (Int.tmod (wrap64 (a1)) 26))))) = some r) ∧ Aside0 (kq ≤ kj5) ∧ Aside0 (Kd.R k47 47 w' w.heap.size (fun k_ => k_ ≠ gb623) v625 t624) ∧ Aside0 (w'.heap[gb608]? = some (.cells #[.int .u8 a0_0, .int .u8 a0_1, .int .u8 a0_2, .int .u8 a0_3, .int .u8 a0_4] 86 (0, 0))) ∧ Aside0 (w'.heap[gb614]? = some (.cells #[.int .i64 t609, .int .i64 t610, .int .i64 t611, .int .i64 t612, .int .i64 t613] 57 (0, 0))) ∧ Aside0 (w'.heap[gb620]? = some (.cells #[.int .i64 t615, .int .i64 t616] 55 (0, 0))) ∧ Aside0 (w'.heap[gb621]? = some (.cells #[.int .i64 t617, .int .i64 t618] 55 (0, 0))) ∧ Aside0 (w'.heap[gb623]? = some (.cells #[.int .i64 3, .int .i64 (wrap64 (3 + (wrap64 (1 + (Int.tmod (wrap64 (a1)) 26)))))] 47 (0, 0))) ∧ Aside0 (Below w.heap.size w w'))
     case atStart => exact ⟨(1), zqQ, H', ⟨Nat.le_refl _⟩, ⟨by (with_reducible repeat (first | apply Kd.R_alloc | apply Kd.R_drewN | apply Kd.R_drew)); exact Kd.R_mono HO626.out (fun _ hk => hk.2)⟩, ⟨zqB BK608.out⟩, ⟨zqB BK614.out⟩, ⟨zqB BK620.out⟩, ⟨zqB BK621.out⟩, ⟨zqB BK623.out⟩, ⟨by repeat (first | (with_reducible first | exact HB.out | apply below_alloc | apply pw_below_drewN | apply below_drew1 | refine below_set ?_ GE608.out | refine below_set ?_ GE614.out | refine below_set ?_ GE620.out | refine below_set ?_ GE621.out | refine below_set ?_ GE623.out) | exact HB.out)⟩⟩
     case round =>
      clear H'
      try clear c1
      try clear c2
      try clear p2
      try clear c3
      try clear c4
      try clear c5
      try clear c5b0
      try clear c5b1
      try clear p6
      try clear c11
      try clear c13
      try clear c16
      try clear c17
      try clear c18
      try clear c20
      try clear c21
      try clear c23
      try clear c23b0
      try clear c23b1
      try clear c24
      try clear c24b0
      try clear c25
      try clear c26
      try clear c27
      try clear c29
      try clear c29b0
      try clear c30
      try clear c31
      try clear c32
      try clear c34
      try clear c35
      try clear c37
      try clear c38
      try clear c39
      try clear c41
      try clear c42
      try clear c44
      try clear c45
      try clear c46
      try clear c48
      try clear c51
      try clear c52
      try clear c53
      try clear c54
      try clear c56
      try clear c57
      try clear c58
      try clear hcz12_0
      try clear hcz12_1
      try clear hcz12_2
      try clear hcz12_3
      try clear hcz12_4
      try clear hcz19_0
      try clear hcz19_1
      try clear hcz22_0
      try clear hcz22_1
      try clear hcz28_0
      try clear hcz28_1
      try clear hcz33_0
      try clear hcz33_1
      try clear hcz36_0
      try clear hcz36_1
      try clear hcz40_0
      try clear hcz40_1
      try clear hcz43_0
      try clear hcz43_1
      try clear hcz47_0
      try clear hcz47_1
      try clear hcz55_0
      try clear hcz55_1
      try clear hcz59_0
      try clear hcz59_1
      try clear hcz59_2
      try clear hcz59_3
      try clear hcz59_4
      try clear hcz8_0
      try clear hcz8_1
      try clear hcz8_2
      try clear hcz8_3
      try clear hcz8_4
      try clear hfz12_0
      try clear hfz12_1
      try clear hfz12_2
      try clear hfz12_3
      try clear hfz12_4
      try clear hfz19_0
      try clear hfz19_1
      try clear hfz22_0
      try clear hfz22_1
      try clear hfz28_0
      try clear hfz28_1
      try clear hfz33_0
      try clear hfz33_1
      try clear hfz36_0
      try clear hfz36_1
      try clear hfz40_0
      try clear hfz40_1
      try clear hfz43_0
      try clear hfz43_1
      try clear hfz47_0
      try clear hfz47_1
      try clear hfz55_0
      try clear hfz55_1
      try clear hfz59_0
      try clear hfz59_1
      try clear hfz59_2
      try clear hfz59_3
      try clear hfz59_4
      try clear hfz8_0
      try clear hfz8_1
      try clear hfz8_2
      try clear hfz8_3
      try clear hfz8_4
      try clear p2
      obtain ⟨x13_2, rfl, HA, HK2, HO_11, BK608, BK614, BK620, BK621, BK623, HB⟩ := hrel
      cases gk with
      | zero => exact absurd HA.out (by simp [pianolalaw03_PunchFewest.l0])
      | succ k2 =>
       have H := HA.out
       clear HA
       simp only [pianolalaw03_PunchFewest.l0] at H
       by_cases c61 : x13_2 ≤ 14
       ·
        rw [if_pos c61] at H
        have c61b0 : decide (x13_2 ≤ 14) = true := decide_eq_true c61
        clear c61
        replace H := Option.bind_eq_some_iff.mp H
        obtain ⟨t629, A620, H⟩ := H
        replace H : (if t629 = true then (if t627 = 0 then (if (t624.length : Int) = x13_2 then ((punch_Holds.f k2 t609 t610 t611 t612 t613 3 (wrap64 (3 + (wrap64 (1 + (Int.tmod (wrap64 (a1)) 26))))) t624).bind fun t630 => (pianolalaw03_PunchFewest.j2 k2 (wrap64 (1 + (Int.tmod (wrap64 (a1)) 26))) t624 x13_2 (t630 != 0) t615 t616 t617 t618)) else (pianolalaw03_PunchFewest.j2 k2 (wrap64 (1 + (Int.tmod (wrap64 (a1)) 26))) t624 x13_2 true t615 t616 t617 t618)) else (pianolalaw03_PunchFewest.j2 k2 (wrap64 (1 + (Int.tmod (wrap64 (a1)) 26))) t624 x13_2 true t615 t616 t617 t618)) else (pianolalaw03_PunchFewest.l0 k2 (wrap64 (1 + (Int.tmod (wrap64 (a1)) 26))) t624 t627 (wrap64 (x13_2 + 1)) t609 t610 t611 t612 t613 t615 t616 t617 t618 3 (wrap64 (3 + (wrap64 (1 + (Int.tmod (wrap64 (a1)) 26))))))) = some r := H
        have A62 := zA A620
        clear A620
        by_cases c63 : t629 = true
        ·
         subst c63
         have H1 : (if t627 = 0 then (if (t624.length : Int) = x13_2 then ((punch_Holds.f k2 t609 t610 t611 t612 t613 3 (wrap64 (3 + (wrap64 (1 + (Int.tmod (wrap64 (a1)) 26))))) t624).bind fun t630 => (pianolalaw03_PunchFewest.j2 k2 (wrap64 (1 + (Int.tmod (wrap64 (a1)) 26))) t624 x13_2 (t630 != 0) t615 t616 t617 t618)) else (pianolalaw03_PunchFewest.j2 k2 (wrap64 (1 + (Int.tmod (wrap64 (a1)) 26))) t624 x13_2 true t615 t616 t617 t618)) else (pianolalaw03_PunchFewest.j2 k2 (wrap64 (1 + (Int.tmod (wrap64 (a1)) 26))) t624 x13_2 true t615 t616 t617 t618)) = some r := by rw [if_pos rfl] at H; exact H
         clear H; have H := H1; clear H1
         have HC64 := zA H
         clear H
         have hnb65 := NB620_608.out
         have hnc65 := NB608_620.out
         have hnb66 := NB620_614.out
         have hnc66 := NB614_620.out
         have hnb67 := NB620_621.out
         have hnc67 := NB621_620.out
         have hnb68 := NB620_623.out
         have hnc68 := NB623_620.out
         have hcz69_0 : wr.cell? ⟨gb620, 0, none⟩ = some (.int .i64 t615) := (blk_cell BK620.out 0).trans rfl
         have hcz69_1 : wr.cell? ⟨gb620, 1, none⟩ = some (.int .i64 t616) := (blk_cell BK620.out 1).trans rfl
         have hfz69_0 := blk_frozen BK620.out 0
         have hfz69_1 := blk_frozen BK620.out 1
         have hnb70 := NB621_608.out
         have hnc70 := NB608_621.out
         have hnb71 := NB621_614.out
         have hnc71 := NB614_621.out
         have hnb72 := NB621_623.out
         have hnc72 := NB623_621.out
         have hcz73_0 : wr.cell? ⟨gb621, 0, none⟩ = some (.int .i64 t617) := (blk_cell BK621.out 0).trans rfl
         have hcz73_1 : wr.cell? ⟨gb621, 1, none⟩ = some (.int .i64 t618) := (blk_cell BK621.out 1).trans rfl
         have hfz73_0 := blk_frozen BK621.out 0
         have hfz73_1 := blk_frozen BK621.out 1
         go_upto_region 14 with (first | (go_at_call 45; (with_reducible refine (pianolalaw03_divided.calls k2 t615 t616 t617 t618 (wrap64 (1 + (Int.tmod (wrap64 (a1)) 26))) x13_2 true _ A62.out).mono ?_); rintro e w74 ⟨rfl, hb⟩; have n0_ := zA (Kd.R_below (zqC HO_11.out) hb); have n1_ := zA (blk_below (g := gb608) (o := .cells #[.int .u8 a0_0, .int .u8 a0_1, .int .u8 a0_2, .int .u8 a0_3, .int .u8 a0_4] 86 (0, 0)) (zqB BK608.out) hb); have n2_ := zA (blk_below (g := gb614) (o := .cells #[.int .i64 t609, .int .i64 t610, .int .i64 t611, .int .i64 t612, .int .i64 t613] 57 (0, 0)) (zqB BK614.out) hb); have n3_ := zA (blk_below (g := gb620) (o := .cells #[.int .i64 t615, .int .i64 t616] 55 (0, 0)) (zqB BK620.out) hb); have n4_ := zA (blk_below (g := gb621) (o := .cells #[.int .i64 t617, .int .i64 t618] 55 (0, 0)) (zqB BK621.out) hb); have n5_ := zA (blk_below (g := gb623) (o := .cells #[.int .i64 3, .int .i64 (wrap64 (3 + (wrap64 (1 + (Int.tmod (wrap64 (a1)) 26)))))] 47 (0, 0)) (zqB BK623.out) hb); have n6_ := zA (below_step (by repeat (first | (with_reducible first | exact HB.out | apply below_alloc | apply pw_below_drewN | apply below_drew1 | refine below_set ?_ GE608.out | refine below_set ?_ GE614.out | refine below_set ?_ GE620.out | refine below_set ?_ GE621.out | refine below_set ?_ GE623.out) | exact HB.out)) hb); clear HO_11; clear BK608; clear BK614; clear BK620; clear BK621; clear BK623; clear HB; have HO_11 := n0_; have BK608 := n1_; have BK614 := n2_; have BK620 := n3_; have BK621 := n4_; have BK623 := n5_; have HB := n6_; clear n0_ n1_ n2_ n3_ n4_ n5_ n6_; (try clear hb); (try clear hb2); (try clear hk); (try clear hi)))
         repeat (go_quiet (first | (go_at_call 45; (with_reducible refine (pianolalaw03_divided.calls k2 t615 t616 t617 t618 (wrap64 (1 + (Int.tmod (wrap64 (a1)) 26))) x13_2 true _ A62.out).mono ?_); rintro e w74 ⟨rfl, hb⟩; have n0_ := zA (Kd.R_below (zqC HO_11.out) hb); have n1_ := zA (blk_below (g := gb608) (o := .cells #[.int .u8 a0_0, .int .u8 a0_1, .int .u8 a0_2, .int .u8 a0_3, .int .u8 a0_4] 86 (0, 0)) (zqB BK608.out) hb); have n2_ := zA (blk_below (g := gb614) (o := .cells #[.int .i64 t609, .int .i64 t610, .int .i64 t611, .int .i64 t612, .int .i64 t613] 57 (0, 0)) (zqB BK614.out) hb); have n3_ := zA (blk_below (g := gb620) (o := .cells #[.int .i64 t615, .int .i64 t616] 55 (0, 0)) (zqB BK620.out) hb); have n4_ := zA (blk_below (g := gb621) (o := .cells #[.int .i64 t617, .int .i64 t618] 55 (0, 0)) (zqB BK621.out) hb); have n5_ := zA (blk_below (g := gb623) (o := .cells #[.int .i64 3, .int .i64 (wrap64 (3 + (wrap64 (1 + (Int.tmod (wrap64 (a1)) 26)))))] 47 (0, 0)) (zqB BK623.out) hb); have n6_ := zA (below_step (by repeat (first | (with_reducible first | exact HB.out | apply below_alloc | apply pw_below_drewN | apply below_drew1 | refine below_set ?_ GE608.out | refine below_set ?_ GE614.out | refine below_set ?_ GE620.out | refine below_set ?_ GE621.out | refine below_set ?_ GE623.out) | exact HB.out)) hb); clear HO_11; clear BK608; clear BK614; clear BK620; clear BK621; clear BK623; clear HB; have HO_11 := n0_; have BK608 := n1_; have BK614 := n2_; have BK620 := n3_; have BK621 := n4_; have BK623 := n5_; have HB := n6_; clear n0_ n1_ n2_ n3_ n4_ n5_ n6_; (try clear hb); (try clear hb2); (try clear hk); (try clear hi))); go_upto_region 14 with (first | (go_at_call 45; (with_reducible refine (pianolalaw03_divided.calls k2 t615 t616 t617 t618 (wrap64 (1 + (Int.tmod (wrap64 (a1)) 26))) x13_2 true _ A62.out).mono ?_); rintro e w74 ⟨rfl, hb⟩; have n0_ := zA (Kd.R_below (zqC HO_11.out) hb); have n1_ := zA (blk_below (g := gb608) (o := .cells #[.int .u8 a0_0, .int .u8 a0_1, .int .u8 a0_2, .int .u8 a0_3, .int .u8 a0_4] 86 (0, 0)) (zqB BK608.out) hb); have n2_ := zA (blk_below (g := gb614) (o := .cells #[.int .i64 t609, .int .i64 t610, .int .i64 t611, .int .i64 t612, .int .i64 t613] 57 (0, 0)) (zqB BK614.out) hb); have n3_ := zA (blk_below (g := gb620) (o := .cells #[.int .i64 t615, .int .i64 t616] 55 (0, 0)) (zqB BK620.out) hb); have n4_ := zA (blk_below (g := gb621) (o := .cells #[.int .i64 t617, .int .i64 t618] 55 (0, 0)) (zqB BK621.out) hb); have n5_ := zA (blk_below (g := gb623) (o := .cells #[.int .i64 3, .int .i64 (wrap64 (3 + (wrap64 (1 + (Int.tmod (wrap64 (a1)) 26)))))] 47 (0, 0)) (zqB BK623.out) hb); have n6_ := zA (below_step (by repeat (first | (with_reducible first | exact HB.out | apply below_alloc | apply pw_below_drewN | apply below_drew1 | refine below_set ?_ GE608.out | refine below_set ?_ GE614.out | refine below_set ?_ GE620.out | refine below_set ?_ GE621.out | refine below_set ?_ GE623.out) | exact HB.out)) hb); clear HO_11; clear BK608; clear BK614; clear BK620; clear BK621; clear BK623; clear HB; have HO_11 := n0_; have BK608 := n1_; have BK614 := n2_; have BK620 := n3_; have BK621 := n4_; have BK623 := n5_; have HB := n6_; clear n0_ n1_ n2_ n3_ n4_ n5_ n6_; (try clear hb); (try clear hb2); (try clear hk); (try clear hi))))
         (try simp only [Act.put, List.setIfInBounds_toArray, List.set_cons_zero, List.set_cons_succ])
         go_cut [86] (fun v86 wc => ∃ (kq : Nat) (x86_63 : Bool), v86 = .bool x86_63 ∧ Aside0 (pianolalaw03_PunchFewest.j2 kq (wrap64 (1 + (Int.tmod (wrap64 (a1)) 26))) t624 x13_2 x86_63 t615 t616 t617 t618 = some r) ∧ Aside0 (kq ≤ k2) ∧ Aside0 (Kd.R k47 47 wc w.heap.size (fun k_ => k_ ≠ gb623) v625 t624) ∧ Aside0 (wc.heap[gb608]? = some (.cells #[.int .u8 a0_0, .int .u8 a0_1, .int .u8 a0_2, .int .u8 a0_3, .int .u8 a0_4] 86 (0, 0))) ∧ Aside0 (wc.heap[gb614]? = some (.cells #[.int .i64 t609, .int .i64 t610, .int .i64 t611, .int .i64 t612, .int .i64 t613] 57 (0, 0))) ∧ Aside0 (wc.heap[gb620]? = some (.cells #[.int .i64 t615, .int .i64 t616] 55 (0, 0))) ∧ Aside0 (wc.heap[gb621]? = some (.cells #[.int .i64 t617, .int .i64 t618] 55 (0, 0))) ∧ Aside0 (wc.heap[gb623]? = some (.cells #[.int .i64 3, .int .i64 (wrap64 (3 + (wrap64 (1 + (Int.tmod (wrap64 (a1)) 26)))))] 47 (0, 0))) ∧ Aside0 (Below w.heap.size w wc))
         case first =>
          have H := HC64.out
          clear HC64
          by_cases c75 : t627 = 0
          ·
           rw [if_pos c75] at H
           have c75b0 : (t627 == 0) = true := beq_iff_eq.mpr c75
           have c75b1 : (t627 != 0) = false := bne_eq_false_iff_eq.mpr c75
           clear c75
           (first | rw [c75b0] | (simp only [i64_w, i32_w]; rw [c75b0]) | skip)
           by_cases c76 : (t624.length : Int) = x13_2
           ·
            rw [if_pos c76] at H
            have c76b0 : ((t624.length : Int) == x13_2) = true := beq_iff_eq.mpr c76
            have c76b1 : ((t624.length : Int) != x13_2) = false := bne_eq_false_iff_eq.mpr c76
            clear c76
            replace H := Option.bind_eq_some_iff.mp H
            obtain ⟨t630, A770, H⟩ := H
            replace H : (pianolalaw03_PunchFewest.j2 k2 (wrap64 (1 + (Int.tmod (wrap64 (a1)) 26))) t624 x13_2 (t630 != 0) t615 t616 t617 t618) = some r := H
            have A77 := zA A770
            clear A770
            have H' := zA H
            clear H
            obtain ⟨Ao78, co78, eo78⟩ := Kd.R_slice HO_11.out
            subst eo78
            have hnb79 := NB614_608.out
            have hnc79 := NB608_614.out
            have hnb80 := NB614_620.out
            have hnc80 := NB620_614.out
            have hnb81 := NB614_621.out
            have hnc81 := NB621_614.out
            have hnb82 := NB614_623.out
            have hnc82 := NB623_614.out
            have hcz83_0 : w74.cell? ⟨gb614, 0, none⟩ = some (.int .i64 t609) := (blk_cell BK614.out 0).trans rfl
            have hcz83_1 : w74.cell? ⟨gb614, 1, none⟩ = some (.int .i64 t610) := (blk_cell BK614.out 1).trans rfl
            have hcz83_2 : w74.cell? ⟨gb614, 2, none⟩ = some (.int .i64 t611) := (blk_cell BK614.out 2).trans rfl
            have hcz83_3 : w74.cell? ⟨gb614, 3, none⟩ = some (.int .i64 t612) := (blk_cell BK614.out 3).trans rfl
            have hcz83_4 : w74.cell? ⟨gb614, 4, none⟩ = some (.int .i64 t613) := (blk_cell BK614.out 4).trans rfl
            have hfz83_0 := blk_frozen BK614.out 0
            have hfz83_1 := blk_frozen BK614.out 1
            have hfz83_2 := blk_frozen BK614.out 2
            have hfz83_3 := blk_frozen BK614.out 3
            have hfz83_4 := blk_frozen BK614.out 4
            have hnb84 := NB623_608.out
            have hnc84 := NB608_623.out
            have hnb85 := NB623_620.out
            have hnc85 := NB620_623.out
            have hnb86 := NB623_621.out
            have hnc86 := NB621_623.out
            have hcz87_0 : w74.cell? ⟨gb623, 0, none⟩ = some (.int .i64 3) := (blk_cell BK623.out 0).trans rfl
            have hcz87_1 : w74.cell? ⟨gb623, 1, none⟩ = some (.int .i64 (wrap64 (3 + (wrap64 (1 + (Int.tmod (wrap64 (a1)) 26)))))) := (blk_cell BK623.out 1).trans rfl
            have hfz87_0 := blk_frozen BK623.out 0
            have hfz87_1 := blk_frozen BK623.out 1
            go_wp2_with (first | (go_at_call 35; (with_reducible refine (punch_Holds.calls k2 t609 t610 t611 t612 t613 3 (wrap64 (3 + (wrap64 (1 + (Int.tmod (wrap64 (a1)) 26))))) _ _ t624 t630 _ ?side1 ?side2 A77.out).mono ?_); (case side1 => exact zqK (Kd.R_reads' HO_11.out).2.2); (case side2 => exact (Kd.R_reads' HO_11.out).2.1); rintro e w88 ⟨rfl, hb⟩; have n0_ := zA (Kd.R_below (zqC HO_11.out) hb); have n1_ := zA (blk_below (g := gb608) (o := .cells #[.int .u8 a0_0, .int .u8 a0_1, .int .u8 a0_2, .int .u8 a0_3, .int .u8 a0_4] 86 (0, 0)) (zqB BK608.out) hb); have n2_ := zA (blk_below (g := gb614) (o := .cells #[.int .i64 t609, .int .i64 t610, .int .i64 t611, .int .i64 t612, .int .i64 t613] 57 (0, 0)) (zqB BK614.out) hb); have n3_ := zA (blk_below (g := gb620) (o := .cells #[.int .i64 t615, .int .i64 t616] 55 (0, 0)) (zqB BK620.out) hb); have n4_ := zA (blk_below (g := gb621) (o := .cells #[.int .i64 t617, .int .i64 t618] 55 (0, 0)) (zqB BK621.out) hb); have n5_ := zA (blk_below (g := gb623) (o := .cells #[.int .i64 3, .int .i64 (wrap64 (3 + (wrap64 (1 + (Int.tmod (wrap64 (a1)) 26)))))] 47 (0, 0)) (zqB BK623.out) hb); have n6_ := zA (below_step (by repeat (first | (with_reducible first | exact HB.out | apply below_alloc | apply pw_below_drewN | apply below_drew1 | refine below_set ?_ GE608.out | refine below_set ?_ GE614.out | refine below_set ?_ GE620.out | refine below_set ?_ GE621.out | refine below_set ?_ GE623.out) | exact HB.out)) hb); clear HO_11; clear BK608; clear BK614; clear BK620; clear BK621; clear BK623; clear HB; have HO_11 := n0_; have BK608 := n1_; have BK614 := n2_; have BK620 := n3_; have BK621 := n4_; have BK623 := n5_; have HB := n6_; clear n0_ n1_ n2_ n3_ n4_ n5_ n6_; (try clear hb); (try clear hb2); (try clear hk); (try clear hi)))
            repeat (go_quiet (first | (go_at_call 35; (with_reducible refine (punch_Holds.calls k2 t609 t610 t611 t612 t613 3 (wrap64 (3 + (wrap64 (1 + (Int.tmod (wrap64 (a1)) 26))))) _ _ t624 t630 _ ?side1 ?side2 A77.out).mono ?_); (case side1 => exact zqK (Kd.R_reads' HO_11.out).2.2); (case side2 => exact (Kd.R_reads' HO_11.out).2.1); rintro e w88 ⟨rfl, hb⟩; have n0_ := zA (Kd.R_below (zqC HO_11.out) hb); have n1_ := zA (blk_below (g := gb608) (o := .cells #[.int .u8 a0_0, .int .u8 a0_1, .int .u8 a0_2, .int .u8 a0_3, .int .u8 a0_4] 86 (0, 0)) (zqB BK608.out) hb); have n2_ := zA (blk_below (g := gb614) (o := .cells #[.int .i64 t609, .int .i64 t610, .int .i64 t611, .int .i64 t612, .int .i64 t613] 57 (0, 0)) (zqB BK614.out) hb); have n3_ := zA (blk_below (g := gb620) (o := .cells #[.int .i64 t615, .int .i64 t616] 55 (0, 0)) (zqB BK620.out) hb); have n4_ := zA (blk_below (g := gb621) (o := .cells #[.int .i64 t617, .int .i64 t618] 55 (0, 0)) (zqB BK621.out) hb); have n5_ := zA (blk_below (g := gb623) (o := .cells #[.int .i64 3, .int .i64 (wrap64 (3 + (wrap64 (1 + (Int.tmod (wrap64 (a1)) 26)))))] 47 (0, 0)) (zqB BK623.out) hb); have n6_ := zA (below_step (by repeat (first | (with_reducible first | exact HB.out | apply below_alloc | apply pw_below_drewN | apply below_drew1 | refine below_set ?_ GE608.out | refine below_set ?_ GE614.out | refine below_set ?_ GE620.out | refine below_set ?_ GE621.out | refine below_set ?_ GE623.out) | exact HB.out)) hb); clear HO_11; clear BK608; clear BK614; clear BK620; clear BK621; clear BK623; clear HB; have HO_11 := n0_; have BK608 := n1_; have BK614 := n2_; have BK620 := n3_; have BK621 := n4_; have BK623 := n5_; have HB := n6_; clear n0_ n1_ n2_ n3_ n4_ n5_ n6_; (try clear hb); (try clear hb2); (try clear hk); (try clear hi))); try go_wp2_with (first | (go_at_call 35; (with_reducible refine (punch_Holds.calls k2 t609 t610 t611 t612 t613 3 (wrap64 (3 + (wrap64 (1 + (Int.tmod (wrap64 (a1)) 26))))) _ _ t624 t630 _ ?side1 ?side2 A77.out).mono ?_); (case side1 => exact zqK (Kd.R_reads' HO_11.out).2.2); (case side2 => exact (Kd.R_reads' HO_11.out).2.1); rintro e w88 ⟨rfl, hb⟩; have n0_ := zA (Kd.R_below (zqC HO_11.out) hb); have n1_ := zA (blk_below (g := gb608) (o := .cells #[.int .u8 a0_0, .int .u8 a0_1, .int .u8 a0_2, .int .u8 a0_3, .int .u8 a0_4] 86 (0, 0)) (zqB BK608.out) hb); have n2_ := zA (blk_below (g := gb614) (o := .cells #[.int .i64 t609, .int .i64 t610, .int .i64 t611, .int .i64 t612, .int .i64 t613] 57 (0, 0)) (zqB BK614.out) hb); have n3_ := zA (blk_below (g := gb620) (o := .cells #[.int .i64 t615, .int .i64 t616] 55 (0, 0)) (zqB BK620.out) hb); have n4_ := zA (blk_below (g := gb621) (o := .cells #[.int .i64 t617, .int .i64 t618] 55 (0, 0)) (zqB BK621.out) hb); have n5_ := zA (blk_below (g := gb623) (o := .cells #[.int .i64 3, .int .i64 (wrap64 (3 + (wrap64 (1 + (Int.tmod (wrap64 (a1)) 26)))))] 47 (0, 0)) (zqB BK623.out) hb); have n6_ := zA (below_step (by repeat (first | (with_reducible first | exact HB.out | apply below_alloc | apply pw_below_drewN | apply below_drew1 | refine below_set ?_ GE608.out | refine below_set ?_ GE614.out | refine below_set ?_ GE620.out | refine below_set ?_ GE621.out | refine below_set ?_ GE623.out) | exact HB.out)) hb); clear HO_11; clear BK608; clear BK614; clear BK620; clear BK621; clear BK623; clear HB; have HO_11 := n0_; have BK608 := n1_; have BK614 := n2_; have BK620 := n3_; have BK621 := n4_; have BK623 := n5_; have HB := n6_; clear n0_ n1_ n2_ n3_ n4_ n5_ n6_; (try clear hb); (try clear hb2); (try clear hk); (try clear hi))))
            go_meet
            case rel => exact ⟨_, ((t630 != 0)), zqQ, H', ⟨by have := HJ5.out; have := HK2.out; first | omega | exact Nat.le_refl _⟩, ⟨zqC HO_11.out⟩, ⟨zqB BK608.out⟩, ⟨zqB BK614.out⟩, ⟨zqB BK620.out⟩, ⟨zqB BK621.out⟩, ⟨zqB BK623.out⟩, ⟨by repeat (first | (with_reducible first | exact HB.out | apply below_alloc | apply pw_below_drewN | apply below_drew1 | refine below_set ?_ GE608.out | refine below_set ?_ GE614.out | refine below_set ?_ GE620.out | refine below_set ?_ GE621.out | refine below_set ?_ GE623.out) | exact HB.out)⟩⟩
           ·
            rw [if_neg c76] at H
            exact (pianolalaw03_PunchFewest.j2_no H HRT.out).elim
          ·
           rw [if_neg c75] at H
           exact (pianolalaw03_PunchFewest.j2_no H HRT.out).elim
         case rest =>
          clear HC64
          try clear c1
          try clear c2
          try clear p2
          try clear c3
          try clear c4
          try clear c5
          try clear c5b0
          try clear c5b1
          try clear c6
          try clear p6
          try clear c7
          try clear c8
          try clear c11
          try clear c13
          try clear c16
          try clear c17
          try clear c18
          try clear c20
          try clear c21
          try clear c23
          try clear c23b0
          try clear c23b1
          try clear c24
          try clear c24b0
          try clear c25
          try clear c26
          try clear c27
          try clear c29
          try clear c29b0
          try clear c30
          try clear c31
          try clear c32
          try clear c34
          try clear c35
          try clear c37
          try clear c38
          try clear c39
          try clear c41
          try clear c42
          try clear c44
          try clear c45
          try clear c46
          try clear c48
          try clear c51
          try clear c52
          try clear c53
          try clear c54
          try clear c56
          try clear c57
          try clear c58
          try clear c61
          try clear c61b0
          try clear c63
          try clear p64
          try clear c65
          try clear c66
          try clear c67
          try clear c68
          try clear c70
          try clear c71
          try clear c72
          try clear c75
          try clear c75b0
          try clear c75b1
          try clear c76
          try clear c76b0
          try clear c76b1
          try clear c79
          try clear c80
          try clear c81
          try clear c82
          try clear c84
          try clear c85
          try clear c86
          try clear hcz12_0
          try clear hcz12_1
          try clear hcz12_2
          try clear hcz12_3
          try clear hcz12_4
          try clear hcz19_0
          try clear hcz19_1
          try clear hcz22_0
          try clear hcz22_1
          try clear hcz28_0
          try clear hcz28_1
          try clear hcz33_0
          try clear hcz33_1
          try clear hcz36_0
          try clear hcz36_1
          try clear hcz40_0
          try clear hcz40_1
          try clear hcz43_0
          try clear hcz43_1
          try clear hcz47_0
          try clear hcz47_1
          try clear hcz55_0
          try clear hcz55_1
          try clear hcz59_0
          try clear hcz59_1
          try clear hcz59_2
          try clear hcz59_3
          try clear hcz59_4
          try clear hcz69_0
          try clear hcz69_1
          try clear hcz73_0
          try clear hcz73_1
          try clear hcz83_0
          try clear hcz83_1
          try clear hcz83_2
          try clear hcz83_3
          try clear hcz83_4
          try clear hcz87_0
          try clear hcz87_1
          try clear hcz8_0
          try clear hcz8_1
          try clear hcz8_2
          try clear hcz8_3
          try clear hcz8_4
          try clear hfz12_0
          try clear hfz12_1
          try clear hfz12_2
          try clear hfz12_3
          try clear hfz12_4
          try clear hfz19_0
          try clear hfz19_1
          try clear hfz22_0
          try clear hfz22_1
          try clear hfz28_0
          try clear hfz28_1
          try clear hfz33_0
          try clear hfz33_1
          try clear hfz36_0
          try clear hfz36_1
          try clear hfz40_0
          try clear hfz40_1
          try clear hfz43_0
          try clear hfz43_1
          try clear hfz47_0
          try clear hfz47_1
          try clear hfz55_0
          try clear hfz55_1
          try clear hfz59_0
          try clear hfz59_1
          try clear hfz59_2
          try clear hfz59_3
          try clear hfz59_4
          try clear hfz69_0
          try clear hfz69_1
          try clear hfz73_0
          try clear hfz73_1
          try clear hfz83_0
          try clear hfz83_1
          try clear hfz83_2
          try clear hfz83_3
          try clear hfz83_4
          try clear hfz87_0
          try clear hfz87_1
          try clear hfz8_0
          try clear hfz8_1
          try clear hfz8_2
          try clear hfz8_3
          try clear hfz8_4
          try clear p2
          try clear p6
          obtain ⟨kq, x86_63, rfl, HA, HJ63, HO_11, BK608, BK614, BK620, BK621, BK623, HB⟩ := hcut
          cases kq with
          | zero => exact absurd HA.out (by simp [pianolalaw03_PunchFewest.j2])
          | succ kj63 =>
           have H := HA.out
           clear HA
           simp only [pianolalaw03_PunchFewest.j2] at H
           by_cases c90 : x86_63 = true
           ·
            subst c90
            have H1 : (some false) = some r := by rw [if_pos rfl] at H; exact H
            clear H; have H := H1; clear H1
            exact absurd ((Option.some.inj H).trans HRT.out) (by decide)
           ·
            replace c90 := Bool.eq_false_iff.mpr c90
            subst c90
            have H1 : (pianolalaw03_PunchFewest.l1 kj63 (wrap64 (1 + (Int.tmod (wrap64 (a1)) 26))) t624 x13_2 t616 t615 t616 t617 t618) = some r := by rw [if_neg (show ¬ (false = true) by decide)] at H; exact H
            clear H; have H := H1; clear H1
            have H' := zA H
            clear H
            have hnb91 := NB620_608.out
            have hnc91 := NB608_620.out
            have hnb92 := NB620_614.out
            have hnc92 := NB614_620.out
            have hnb93 := NB620_621.out
            have hnc93 := NB621_620.out
            have hnb94 := NB620_623.out
            have hnc94 := NB623_620.out
            have hcz95_0 : wc.cell? ⟨gb620, 0, none⟩ = some (.int .i64 t615) := (blk_cell BK620.out 0).trans rfl
            have hcz95_1 : wc.cell? ⟨gb620, 1, none⟩ = some (.int .i64 t616) := (blk_cell BK620.out 1).trans rfl
            have hfz95_0 := blk_frozen BK620.out 0
            have hfz95_1 := blk_frozen BK620.out 1
            go_wp2
            repeat (go_quiet (fail); try go_wp2)
            go_loopg [14] kj63 (fun kq v14 w' => ∃ (x14_4 : Int), v14 = .int .i64 x14_4 ∧ Aside0 (pianolalaw03_PunchFewest.l1 kq (wrap64 (1 + (Int.tmod (wrap64 (a1)) 26))) t624 x13_2 x14_4 t615 t616 t617 t618 = some r) ∧ Aside0 (kq ≤ kj63) ∧ Aside0 (Kd.R k47 47 w' w.heap.size (fun k_ => k_ ≠ gb623) v625 t624) ∧ Aside0 (w'.heap[gb608]? = some (.cells #[.int .u8 a0_0, .int .u8 a0_1, .int .u8 a0_2, .int .u8 a0_3, .int .u8 a0_4] 86 (0, 0))) ∧ Aside0 (w'.heap[gb614]? = some (.cells #[.int .i64 t609, .int .i64 t610, .int .i64 t611, .int .i64 t612, .int .i64 t613] 57 (0, 0))) ∧ Aside0 (w'.heap[gb620]? = some (.cells #[.int .i64 t615, .int .i64 t616] 55 (0, 0))) ∧ Aside0 (w'.heap[gb621]? = some (.cells #[.int .i64 t617, .int .i64 t618] 55 (0, 0))) ∧ Aside0 (w'.heap[gb623]? = some (.cells #[.int .i64 3, .int .i64 (wrap64 (3 + (wrap64 (1 + (Int.tmod (wrap64 (a1)) 26)))))] 47 (0, 0))) ∧ Aside0 (Below w.heap.size w w'))
            case atStart => exact ⟨(t616), zqQ, H', ⟨Nat.le_refl _⟩, ⟨zqC HO_11.out⟩, ⟨zqB BK608.out⟩, ⟨zqB BK614.out⟩, ⟨zqB BK620.out⟩, ⟨zqB BK621.out⟩, ⟨zqB BK623.out⟩, ⟨by repeat (first | (with_reducible first | exact HB.out | apply below_alloc | apply pw_below_drewN | apply below_drew1 | refine below_set ?_ GE608.out | refine below_set ?_ GE614.out | refine below_set ?_ GE620.out | refine below_set ?_ GE621.out | refine below_set ?_ GE623.out) | exact HB.out)⟩⟩
            case round =>
             clear H'
             try clear c1
             try clear c2
             try clear p2
             try clear c3
             try clear c4
             try clear c5
             try clear c5b0
             try clear c5b1
             try clear c6
             try clear p6
             try clear c7
             try clear c8
             try clear c9
             try clear c11
             try clear c13
             try clear c16
             try clear c17
             try clear c18
             try clear c20
             try clear c21
             try clear c23
             try clear c23b0
             try clear c23b1
             try clear c24
             try clear c24b0
             try clear c25
             try clear c26
             try clear c27
             try clear c29
             try clear c29b0
             try clear c30
             try clear c31
             try clear c32
             try clear c34
             try clear c35
             try clear c37
             try clear c38
             try clear c39
             try clear c41
             try clear c42
             try clear c44
             try clear c45
             try clear c46
             try clear c48
             try clear c51
             try clear c52
             try clear c53
             try clear c54
             try clear c56
             try clear c57
             try clear c58
             try clear c61
             try clear c61b0
             try clear c63
             try clear p64
             try clear c65
             try clear c66
             try clear c67
             try clear c68
             try clear c70
             try clear c71
             try clear c72
             try clear c75
             try clear c75b0
             try clear c75b1
             try clear c76
             try clear c76b0
             try clear c76b1
             try clear c79
             try clear c80
             try clear c81
             try clear c82
             try clear c84
             try clear c85
             try clear c86
             try clear c90
             try clear c91
             try clear c92
             try clear c93
             try clear c94
             try clear hcz12_0
             try clear hcz12_1
             try clear hcz12_2
             try clear hcz12_3
             try clear hcz12_4
             try clear hcz19_0
             try clear hcz19_1
             try clear hcz22_0
             try clear hcz22_1
             try clear hcz28_0
             try clear hcz28_1
             try clear hcz33_0
             try clear hcz33_1
             try clear hcz36_0
             try clear hcz36_1
             try clear hcz40_0
             try clear hcz40_1
             try clear hcz43_0
             try clear hcz43_1
             try clear hcz47_0
             try clear hcz47_1
             try clear hcz55_0
             try clear hcz55_1
             try clear hcz59_0
             try clear hcz59_1
             try clear hcz59_2
             try clear hcz59_3
             try clear hcz59_4
             try clear hcz69_0
             try clear hcz69_1
             try clear hcz73_0
             try clear hcz73_1
             try clear hcz83_0
             try clear hcz83_1
             try clear hcz83_2
             try clear hcz83_3
             try clear hcz83_4
             try clear hcz87_0
             try clear hcz87_1
             try clear hcz8_0
             try clear hcz8_1
             try clear hcz8_2
             try clear hcz8_3
             try clear hcz8_4
             try clear hcz95_0
             try clear hcz95_1
             try clear hfz12_0
             try clear hfz12_1
             try clear hfz12_2
             try clear hfz12_3
             try clear hfz12_4
             try clear hfz19_0
             try clear hfz19_1
             try clear hfz22_0
             try clear hfz22_1
             try clear hfz28_0
             try clear hfz28_1
             try clear hfz33_0
             try clear hfz33_1
             try clear hfz36_0
             try clear hfz36_1
             try clear hfz40_0
             try clear hfz40_1
             try clear hfz43_0
             try clear hfz43_1
             try clear hfz47_0
             try clear hfz47_1
             try clear hfz55_0
             try clear hfz55_1
             try clear hfz59_0
             try clear hfz59_1
             try clear hfz59_2
             try clear hfz59_3
             try clear hfz59_4
             try clear hfz69_0
             try clear hfz69_1
             try clear hfz73_0
             try clear hfz73_1
             try clear hfz83_0
             try clear hfz83_1
             try clear hfz83_2
             try clear hfz83_3
             try clear hfz83_4
             try clear hfz87_0
             try clear hfz87_1
             try clear hfz8_0
             try clear hfz8_1
             try clear hfz8_2
             try clear hfz8_3
             try clear hfz8_4
             try clear hfz95_0
             try clear hfz95_1
             try clear p2
             try clear p6
             try clear p64
             obtain ⟨x14_4, rfl, HA, HK4, HO_11, BK608, BK614, BK620, BK621, BK623, HB⟩ := hrel
             cases gk with
             | zero => exact absurd HA.out (by simp [pianolalaw03_PunchFewest.l1])
             | succ k4 =>
              have H := HA.out
              clear HA
              simp only [pianolalaw03_PunchFewest.l1] at H
              have HC96 := zA H
              clear H
              go_upto_region 17 with (fail)
              repeat (go_quiet (fail); go_upto_region 17 with (fail))
              go_cut [103] (fun v103 wc => ∃ (kq : Nat) (x103_95 : Bool), v103 = .bool x103_95 ∧ Aside0 (pianolalaw03_PunchFewest.j4 kq (wrap64 (1 + (Int.tmod (wrap64 (a1)) 26))) t624 x13_2 x14_4 x103_95 t615 t616 t617 t618 = some r) ∧ Aside0 (kq ≤ k4) ∧ Aside0 (Kd.R k47 47 wc w.heap.size (fun k_ => k_ ≠ gb623) v625 t624) ∧ Aside0 (wc.heap[gb608]? = some (.cells #[.int .u8 a0_0, .int .u8 a0_1, .int .u8 a0_2, .int .u8 a0_3, .int .u8 a0_4] 86 (0, 0))) ∧ Aside0 (wc.heap[gb614]? = some (.cells #[.int .i64 t609, .int .i64 t610, .int .i64 t611, .int .i64 t612, .int .i64 t613] 57 (0, 0))) ∧ Aside0 (wc.heap[gb620]? = some (.cells #[.int .i64 t615, .int .i64 t616] 55 (0, 0))) ∧ Aside0 (wc.heap[gb621]? = some (.cells #[.int .i64 t617, .int .i64 t618] 55 (0, 0))) ∧ Aside0 (wc.heap[gb623]? = some (.cells #[.int .i64 3, .int .i64 (wrap64 (3 + (wrap64 (1 + (Int.tmod (wrap64 (a1)) 26)))))] 47 (0, 0))) ∧ Aside0 (Below w.heap.size w wc))
              case first =>
               have H := HC96.out
               clear HC96
               by_cases c97 : x13_2 > 1
               ·
                rw [if_pos c97] at H
                have c97b0 : decide (1 < x13_2) = true := decide_eq_true c97
                clear c97
                (first | rw [c97b0] | (simp only [i64_w, i32_w]; rw [c97b0]) | skip)
                by_cases c98 : 0 < (t624.length : Int)
                ·
                 rw [if_pos c98] at H
                 have c98b0 : decide (0 < (t624.length : Int)) = true := decide_eq_true c98
                 have c98b1 : decide (0 < t624.length) = true := decide_eq_true (by omega)
                 clear c98
                 have H' := zA H
                 clear H
                 obtain ⟨Ao99, co99, eo99⟩ := Kd.R_slice HO_11.out
                 subst eo99
                 have p631 : 0 ≤ (0 : Int) := (by omega)
                 have q631 : 0 < (t624.length : Int) := of_decide_eq_true (zqD)
                 obtain ⟨ad631, e631, hx631_0, hx631_1⟩ := at_T47 (Kd.R_reads' HO_11.out).2.2 0 p631 q631
                 cases e631
                 have qi631 : (0 < t624.length) = True := eq_true (by omega)
                 (try rw [show ((0 : Int)).toNat = 0 from rfl] at hx631_0)
                 (try rw [show 0 * 2 = 0 from rfl] at hx631_0)
                 (try rw [Addr.add_zero'] at hx631_0)
                 (try rw [show ((0 : Int)).toNat = 0 from rfl] at hx631_1)
                 (try rw [show 0 * 2 = 0 from rfl] at hx631_1)
                 (try rw [Addr.add_zero'] at hx631_1)
                 replace p631 := eq_true p631; replace q631 := eq_true q631
                 have p632 : 0 ≤ (0 : Int) := (by omega)
                 have q632 : 0 < (t624.length : Int) := of_decide_eq_true (zqD)
                 obtain ⟨ad632, e632, hx632_0, hx632_1⟩ := at_T47 (Kd.R_reads' HO_11.out).2.2 0 p632 q632
                 obtain rfl : ad631 = ad632 := (by injection e632)
                 have qi632 : (0 < t624.length) = True := eq_true (by omega)
                 (try rw [show ((0 : Int)).toNat = 0 from rfl] at hx632_0)
                 (try rw [show 0 * 2 = 0 from rfl] at hx632_0)
                 (try rw [Addr.add_zero'] at hx632_0)
                 (try rw [show ((0 : Int)).toNat = 0 from rfl] at hx632_1)
                 (try rw [show 0 * 2 = 0 from rfl] at hx632_1)
                 (try rw [Addr.add_zero'] at hx632_1)
                 replace p632 := eq_true p632; replace q632 := eq_true q632
                 go_wp2
                 repeat (go_quiet (fail); try go_wp2)
                 go_meet
                 case rel => exact ⟨_, (decide (x14_4 > (wrap64 (((rd_T47 t624 0).f1) - ((rd_T47 t624 0).f0))))), zqQ, H', ⟨by have := HJ5.out; have := HK2.out; have := HJ63.out; have := HK4.out; first | omega | exact Nat.le_refl _⟩, ⟨zqC HO_11.out⟩, ⟨zqB BK608.out⟩, ⟨zqB BK614.out⟩, ⟨zqB BK620.out⟩, ⟨zqB BK621.out⟩, ⟨zqB BK623.out⟩, ⟨by repeat (first | (with_reducible first | exact HB.out | apply below_alloc | apply pw_below_drewN | apply below_drew1 | refine below_set ?_ GE608.out | refine below_set ?_ GE614.out | refine below_set ?_ GE620.out | refine below_set ?_ GE621.out | refine below_set ?_ GE623.out) | exact HB.out)⟩⟩
                ·
                 rw [if_neg c98] at H
                 exact absurd H (by simp)
               ·
                rw [if_neg c97] at H
                have c97b0 : decide (1 < x13_2) = false := decide_eq_false c97
                clear c97
                (first | rw [c97b0] | (simp only [i64_w, i32_w]; rw [c97b0]) | skip)
                have H' := zA H
                clear H
                go_wp2
                repeat (go_quiet (fail); try go_wp2)
                go_meet
                case rel => exact ⟨_, (false), zqQ, H', ⟨by have := HJ5.out; have := HK2.out; have := HJ63.out; have := HK4.out; first | omega | exact Nat.le_refl _⟩, ⟨zqC HO_11.out⟩, ⟨zqB BK608.out⟩, ⟨zqB BK614.out⟩, ⟨zqB BK620.out⟩, ⟨zqB BK621.out⟩, ⟨zqB BK623.out⟩, ⟨by repeat (first | (with_reducible first | exact HB.out | apply below_alloc | apply pw_below_drewN | apply below_drew1 | refine below_set ?_ GE608.out | refine below_set ?_ GE614.out | refine below_set ?_ GE620.out | refine below_set ?_ GE621.out | refine below_set ?_ GE623.out) | exact HB.out)⟩⟩
              case rest =>
               clear HC96
               try clear c1
               try clear c2
               try clear p2
               try clear c3
               try clear c4
               try clear c5
               try clear c5b0
               try clear c5b1
               try clear c6
               try clear p6
               try clear q6
               try clear hx6
               try clear qi6
               try clear c7
               try clear c8
               try clear c9
               try clear c11
               try clear c13
               try clear c16
               try clear c17
               try clear c18
               try clear c20
               try clear c21
               try clear c23
               try clear c23b0
               try clear c23b1
               try clear c24
               try clear c24b0
               try clear c25
               try clear c26
               try clear c27
               try clear c29
               try clear c29b0
               try clear c30
               try clear c31
               try clear c32
               try clear c34
               try clear c35
               try clear c37
               try clear c38
               try clear c39
               try clear c41
               try clear c42
               try clear c44
               try clear c45
               try clear c46
               try clear c48
               try clear c51
               try clear c52
               try clear c53
               try clear c54
               try clear c56
               try clear c57
               try clear c58
               try clear c61
               try clear c61b0
               try clear c63
               try clear p63
               try clear q63
               try clear hx63
               try clear qi63
               try clear p64
               try clear c65
               try clear c66
               try clear c67
               try clear c68
               try clear c70
               try clear c71
               try clear c72
               try clear c75
               try clear c75b0
               try clear c75b1
               try clear c76
               try clear c76b0
               try clear c76b1
               try clear c79
               try clear c80
               try clear c81
               try clear c82
               try clear c84
               try clear c85
               try clear c86
               try clear c90
               try clear c91
               try clear c92
               try clear c93
               try clear c94
               try clear c97
               try clear c97b0
               try clear c98
               try clear c98b0
               try clear c98b1
               try clear hcz12_0
               try clear hcz12_1
               try clear hcz12_2
               try clear hcz12_3
               try clear hcz12_4
               try clear hcz19_0
               try clear hcz19_1
               try clear hcz22_0
               try clear hcz22_1
               try clear hcz28_0
               try clear hcz28_1
               try clear hcz33_0
               try clear hcz33_1
               try clear hcz36_0
               try clear hcz36_1
               try clear hcz40_0
               try clear hcz40_1
               try clear hcz43_0
               try clear hcz43_1
               try clear hcz47_0
               try clear hcz47_1
               try clear hcz55_0
               try clear hcz55_1
               try clear hcz59_0
               try clear hcz59_1
               try clear hcz59_2
               try clear hcz59_3
               try clear hcz59_4
               try clear hcz69_0
               try clear hcz69_1
               try clear hcz73_0
               try clear hcz73_1
               try clear hcz83_0
               try clear hcz83_1
               try clear hcz83_2
               try clear hcz83_3
               try clear hcz83_4
               try clear hcz87_0
               try clear hcz87_1
               try clear hcz8_0
               try clear hcz8_1
               try clear hcz8_2
               try clear hcz8_3
               try clear hcz8_4
               try clear hcz95_0
               try clear hcz95_1
               try clear hfz12_0
               try clear hfz12_1
               try clear hfz12_2
               try clear hfz12_3
               try clear hfz12_4
               try clear hfz19_0
               try clear hfz19_1
               try clear hfz22_0
               try clear hfz22_1
               try clear hfz28_0
               try clear hfz28_1
               try clear hfz33_0
               try clear hfz33_1
               try clear hfz36_0
               try clear hfz36_1
               try clear hfz40_0
               try clear hfz40_1
               try clear hfz43_0
               try clear hfz43_1
               try clear hfz47_0
               try clear hfz47_1
               try clear hfz55_0
               try clear hfz55_1
               try clear hfz59_0
               try clear hfz59_1
               try clear hfz59_2
               try clear hfz59_3
               try clear hfz59_4
               try clear hfz69_0
               try clear hfz69_1
               try clear hfz73_0
               try clear hfz73_1
               try clear hfz83_0
               try clear hfz83_1
               try clear hfz83_2
               try clear hfz83_3
               try clear hfz83_4
               try clear hfz87_0
               try clear hfz87_1
               try clear hfz8_0
               try clear hfz8_1
               try clear hfz8_2
               try clear hfz8_3
               try clear hfz8_4
               try clear hfz95_0
               try clear hfz95_1
               try clear hx631_0
               try clear hx631_1
               try clear hx632_0
               try clear hx632_1
               try clear p2
               try clear p6
               try clear p631
               try clear p632
               try clear p64
               try clear q631
               try clear q632
               obtain ⟨kq, x103_95, rfl, HA, HJ95, HO_11, BK608, BK614, BK620, BK621, BK623, HB⟩ := hcut
               cases kq with
               | zero => exact absurd HA.out (by simp [pianolalaw03_PunchFewest.j4])
               | succ kj95 =>
                have H := HA.out
                clear HA
                simp only [pianolalaw03_PunchFewest.j4] at H
                by_cases c100 : x103_95 = true
                ·
                 subst c100
                 have H1 : (pianolalaw03_PunchFewest.l2 kj95 (wrap64 (1 + (Int.tmod (wrap64 (a1)) 26))) t624 x13_2 x14_4 (mx 1 t617) t615 t616 t617 t618) = some r := by rw [if_pos rfl] at H; exact H
                 clear H; have H := H1; clear H1
                 obtain ⟨ji101, hji101⟩ : ∃ j_ : Int, (mx 1 t617) = j_ := ⟨_, rfl⟩
                 replace H : (pianolalaw03_PunchFewest.l2 kj95 (wrap64 (1 + (Int.tmod (wrap64 (a1)) 26))) t624 x13_2 x14_4 ji101 t615 t616 t617 t618) = some r := by first | (rw [hji101] at H; exact H) | (simp only [hji101] at H ⊢; exact H)
                 have hji101_ : (if 1 < t617 then t617 else 1) = ji101 := hji101
                 have H' := zA H
                 clear H
                 have hnb102 := NB621_608.out
                 have hnc102 := NB608_621.out
                 have hnb103 := NB621_614.out
                 have hnc103 := NB614_621.out
                 have hnb104 := NB621_620.out
                 have hnc104 := NB620_621.out
                 have hnb105 := NB621_623.out
                 have hnc105 := NB623_621.out
                 have hcz106_0 : wc.cell? ⟨gb621, 0, none⟩ = some (.int .i64 t617) := (blk_cell BK621.out 0).trans rfl
                 have hcz106_1 : wc.cell? ⟨gb621, 1, none⟩ = some (.int .i64 t618) := (blk_cell BK621.out 1).trans rfl
                 have hfz106_0 := blk_frozen BK621.out 0
                 have hfz106_1 := blk_frozen BK621.out 1
                 go_wp2
                 repeat (go_quiet (fail); try go_wp2)
                 go_loopg [15] kj95 (fun kq v15 w' => ∃ (x15_6 : Int), v15 = .int .i64 x15_6 ∧ Aside0 (pianolalaw03_PunchFewest.l2 kq (wrap64 (1 + (Int.tmod (wrap64 (a1)) 26))) t624 x13_2 x14_4 x15_6 t615 t616 t617 t618 = some r) ∧ Aside0 (kq ≤ kj95) ∧ Aside0 (Kd.R k47 47 w' w.heap.size (fun k_ => k_ ≠ gb623) v625 t624) ∧ Aside0 (w'.heap[gb608]? = some (.cells #[.int .u8 a0_0, .int .u8 a0_1, .int .u8 a0_2, .int .u8 a0_3, .int .u8 a0_4] 86 (0, 0))) ∧ Aside0 (w'.heap[gb614]? = some (.cells #[.int .i64 t609, .int .i64 t610, .int .i64 t611, .int .i64 t612, .int .i64 t613] 57 (0, 0))) ∧ Aside0 (w'.heap[gb620]? = some (.cells #[.int .i64 t615, .int .i64 t616] 55 (0, 0))) ∧ Aside0 (w'.heap[gb621]? = some (.cells #[.int .i64 t617, .int .i64 t618] 55 (0, 0))) ∧ Aside0 (w'.heap[gb623]? = some (.cells #[.int .i64 3, .int .i64 (wrap64 (3 + (wrap64 (1 + (Int.tmod (wrap64 (a1)) 26)))))] 47 (0, 0))) ∧ Aside0 (Below w.heap.size w w'))
                 case atStart => exact ⟨(ji101), (by first | rfl | (simp; done) | (simp only [← hji101] <;> (first | rfl | simp)) | (simp [*]; done)), H', ⟨Nat.le_refl _⟩, ⟨zqC HO_11.out⟩, ⟨zqB BK608.out⟩, ⟨zqB BK614.out⟩, ⟨zqB BK620.out⟩, ⟨zqB BK621.out⟩, ⟨zqB BK623.out⟩, ⟨by repeat (first | (with_reducible first | exact HB.out | apply below_alloc | apply pw_below_drewN | apply below_drew1 | refine below_set ?_ GE608.out | refine below_set ?_ GE614.out | refine below_set ?_ GE620.out | refine below_set ?_ GE621.out | refine below_set ?_ GE623.out) | exact HB.out)⟩⟩
                 case round =>
                  clear H'
                  try clear c1
                  try clear c2
                  try clear p2
                  try clear c3
                  try clear c4
                  try clear c5
                  try clear c5b0
                  try clear c5b1
                  try clear c6
                  try clear p6
                  try clear q6
                  try clear hx6
                  try clear qi6
                  try clear c7
                  try clear c8
                  try clear c9
                  try clear c10
                  try clear c11
                  try clear c13
                  try clear c16
                  try clear c17
                  try clear c18
                  try clear c20
                  try clear c21
                  try clear c23
                  try clear c23b0
                  try clear c23b1
                  try clear c24
                  try clear c24b0
                  try clear c25
                  try clear c26
                  try clear c27
                  try clear c29
                  try clear c29b0
                  try clear c30
                  try clear c31
                  try clear c32
                  try clear c34
                  try clear c35
                  try clear c37
                  try clear c38
                  try clear c39
                  try clear c41
                  try clear c42
                  try clear c44
                  try clear c45
                  try clear c46
                  try clear c48
                  try clear c51
                  try clear c52
                  try clear c53
                  try clear c54
                  try clear c56
                  try clear c57
                  try clear c58
                  try clear c61
                  try clear c61b0
                  try clear c63
                  try clear p63
                  try clear q63
                  try clear hx63
                  try clear qi63
                  try clear p64
                  try clear c65
                  try clear c66
                  try clear c67
                  try clear c68
                  try clear c70
                  try clear c71
                  try clear c72
                  try clear c75
                  try clear c75b0
                  try clear c75b1
                  try clear c76
                  try clear c76b0
                  try clear c76b1
                  try clear c79
                  try clear c80
                  try clear c81
                  try clear c82
                  try clear c84
                  try clear c85
                  try clear c86
                  try clear c90
                  try clear c91
                  try clear c92
                  try clear c93
                  try clear c94
                  try clear c97
                  try clear c97b0
                  try clear c98
                  try clear c98b0
                  try clear c98b1
                  try clear c100
                  try clear c102
                  try clear c103
                  try clear c104
                  try clear c105
                  try clear hcz106_0
                  try clear hcz106_1
                  try clear hcz12_0
                  try clear hcz12_1
                  try clear hcz12_2
                  try clear hcz12_3
                  try clear hcz12_4
                  try clear hcz19_0
                  try clear hcz19_1
                  try clear hcz22_0
                  try clear hcz22_1
                  try clear hcz28_0
                  try clear hcz28_1
                  try clear hcz33_0
                  try clear hcz33_1
                  try clear hcz36_0
                  try clear hcz36_1
                  try clear hcz40_0
                  try clear hcz40_1
                  try clear hcz43_0
                  try clear hcz43_1
                  try clear hcz47_0
                  try clear hcz47_1
                  try clear hcz55_0
                  try clear hcz55_1
                  try clear hcz59_0
                  try clear hcz59_1
                  try clear hcz59_2
                  try clear hcz59_3
                  try clear hcz59_4
                  try clear hcz69_0
                  try clear hcz69_1
                  try clear hcz73_0
                  try clear hcz73_1
                  try clear hcz83_0
                  try clear hcz83_1
                  try clear hcz83_2
                  try clear hcz83_3
                  try clear hcz83_4
                  try clear hcz87_0
                  try clear hcz87_1
                  try clear hcz8_0
                  try clear hcz8_1
                  try clear hcz8_2
                  try clear hcz8_3
                  try clear hcz8_4
                  try clear hcz95_0
                  try clear hcz95_1
                  try clear hfz106_0
                  try clear hfz106_1
                  try clear hfz12_0
                  try clear hfz12_1
                  try clear hfz12_2
                  try clear hfz12_3
                  try clear hfz12_4
                  try clear hfz19_0
                  try clear hfz19_1
                  try clear hfz22_0
                  try clear hfz22_1
                  try clear hfz28_0
                  try clear hfz28_1
                  try clear hfz33_0
                  try clear hfz33_1
                  try clear hfz36_0
                  try clear hfz36_1
                  try clear hfz40_0
                  try clear hfz40_1
                  try clear hfz43_0
                  try clear hfz43_1
                  try clear hfz47_0
                  try clear hfz47_1
                  try clear hfz55_0
                  try clear hfz55_1
                  try clear hfz59_0
                  try clear hfz59_1
                  try clear hfz59_2
                  try clear hfz59_3
                  try clear hfz59_4
                  try clear hfz69_0
                  try clear hfz69_1
                  try clear hfz73_0
                  try clear hfz73_1
                  try clear hfz83_0
                  try clear hfz83_1
                  try clear hfz83_2
                  try clear hfz83_3
                  try clear hfz83_4
                  try clear hfz87_0
                  try clear hfz87_1
                  try clear hfz8_0
                  try clear hfz8_1
                  try clear hfz8_2
                  try clear hfz8_3
                  try clear hfz8_4
                  try clear hfz95_0
                  try clear hfz95_1
                  try clear hx631_0
                  try clear hx631_1
                  try clear hx632_0
                  try clear hx632_1
                  try clear p2
                  try clear p6
                  try clear p63
                  try clear p631
                  try clear p632
                  try clear p64
                  try clear q6
                  try clear q63
                  try clear q631
                  try clear q632
                  obtain ⟨x15_6, rfl, HA, HK6, HO_11, BK608, BK614, BK620, BK621, BK623, HB⟩ := hrel
                  cases gk with
                  | zero => exact absurd HA.out (by simp [pianolalaw03_PunchFewest.l2])
                  | succ k6 =>
                   have H := HA.out
                   clear HA
                   simp only [pianolalaw03_PunchFewest.l2] at H
                   by_cases c107 : x15_6 ≤ t618
                   ·
                    rw [if_pos c107] at H
                    have c107b0 : decide (x15_6 ≤ t618) = true := decide_eq_true c107
                    clear c107
                    by_cases c108 : (wrap64 ((wrap64 ((wrap64 (1 + (Int.tmod (wrap64 (a1)) 26))) - x14_4)) - x15_6)) ≥ 1
                    ·
                     rw [if_pos c108] at H
                     have c108b0 : decide (1 ≤ (wrap64 ((wrap64 ((wrap64 (1 + (Int.tmod (wrap64 (a1)) 26))) - x14_4)) - x15_6))) = true := decide_eq_true c108
                     clear c108
                     replace H := Option.bind_eq_some_iff.mp H
                     obtain ⟨t634, A1090, H⟩ := H
                     replace H : (if t634 = true then (some false) else (pianolalaw03_PunchFewest.l2 k6 (wrap64 (1 + (Int.tmod (wrap64 (a1)) 26))) t624 x13_2 x14_4 (wrap64 (x15_6 + 1)) t615 t616 t617 t618)) = some r := H
                     have A109 := zA A1090
                     clear A1090
                     by_cases c110 : t634 = true
                     ·
                      subst c110
                      have H1 : (some false) = some r := by rw [if_pos rfl] at H; exact H
                      clear H; have H := H1; clear H1
                      exact absurd ((Option.some.inj H).trans HRT.out) (by decide)
                     ·
                      replace c110 := Bool.eq_false_iff.mpr c110
                      subst c110
                      have H1 : (pianolalaw03_PunchFewest.l2 k6 (wrap64 (1 + (Int.tmod (wrap64 (a1)) 26))) t624 x13_2 x14_4 (wrap64 (x15_6 + 1)) t615 t616 t617 t618) = some r := by rw [if_neg (show ¬ (false = true) by decide)] at H; exact H
                      clear H; have H := H1; clear H1
                      have H' := zA H
                      clear H
                      have hnb121 := NB621_608.out
                      have hnc121 := NB608_621.out
                      have hnb122 := NB621_614.out
                      have hnc122 := NB614_621.out
                      have hnb123 := NB621_620.out
                      have hnc123 := NB620_621.out
                      have hnb124 := NB621_623.out
                      have hnc124 := NB623_621.out
                      have hcz125_0 : wr.cell? ⟨gb621, 0, none⟩ = some (.int .i64 t617) := (blk_cell BK621.out 0).trans rfl
                      have hcz125_1 : wr.cell? ⟨gb621, 1, none⟩ = some (.int .i64 t618) := (blk_cell BK621.out 1).trans rfl
                      have hfz125_0 := blk_frozen BK621.out 0
                      have hfz125_1 := blk_frozen BK621.out 1
                      have hnb126 := NB620_608.out
                      have hnc126 := NB608_620.out
                      have hnb127 := NB620_614.out
                      have hnc127 := NB614_620.out
                      have hnb128 := NB620_623.out
                      have hnc128 := NB623_620.out
                      have hcz129_0 : wr.cell? ⟨gb620, 0, none⟩ = some (.int .i64 t615) := (blk_cell BK620.out 0).trans rfl
                      have hcz129_1 : wr.cell? ⟨gb620, 1, none⟩ = some (.int .i64 t616) := (blk_cell BK620.out 1).trans rfl
                      have hfz129_0 := blk_frozen BK620.out 0
                      have hfz129_1 := blk_frozen BK620.out 1
                      go_wp2_with (first | (go_at_call 45; (with_reducible refine (pianolalaw03_divided.calls k6 t615 t616 t617 t618 (wrap64 ((wrap64 ((wrap64 (1 + (Int.tmod (wrap64 (a1)) 26))) - x14_4)) - x15_6)) (wrap64 (x13_2 - 1)) false _ A109.out).mono ?_); rintro e w130 ⟨rfl, hb⟩; have n0_ := zA (Kd.R_below (zqC HO_11.out) hb); have n1_ := zA (blk_below (g := gb608) (o := .cells #[.int .u8 a0_0, .int .u8 a0_1, .int .u8 a0_2, .int .u8 a0_3, .int .u8 a0_4] 86 (0, 0)) (zqB BK608.out) hb); have n2_ := zA (blk_below (g := gb614) (o := .cells #[.int .i64 t609, .int .i64 t610, .int .i64 t611, .int .i64 t612, .int .i64 t613] 57 (0, 0)) (zqB BK614.out) hb); have n3_ := zA (blk_below (g := gb620) (o := .cells #[.int .i64 t615, .int .i64 t616] 55 (0, 0)) (zqB BK620.out) hb); have n4_ := zA (blk_below (g := gb621) (o := .cells #[.int .i64 t617, .int .i64 t618] 55 (0, 0)) (zqB BK621.out) hb); have n5_ := zA (blk_below (g := gb623) (o := .cells #[.int .i64 3, .int .i64 (wrap64 (3 + (wrap64 (1 + (Int.tmod (wrap64 (a1)) 26)))))] 47 (0, 0)) (zqB BK623.out) hb); have n6_ := zA (below_step (by repeat (first | (with_reducible first | exact HB.out | apply below_alloc | apply pw_below_drewN | apply below_drew1 | refine below_set ?_ GE608.out | refine below_set ?_ GE614.out | refine below_set ?_ GE620.out | refine below_set ?_ GE621.out | refine below_set ?_ GE623.out) | exact HB.out)) hb); clear HO_11; clear BK608; clear BK614; clear BK620; clear BK621; clear BK623; clear HB; have HO_11 := n0_; have BK608 := n1_; have BK614 := n2_; have BK620 := n3_; have BK621 := n4_; have BK623 := n5_; have HB := n6_; clear n0_ n1_ n2_ n3_ n4_ n5_ n6_; (try clear hb); (try clear hb2); (try clear hk); (try clear hi)))
                      repeat (go_quiet (first | (go_at_call 45; (with_reducible refine (pianolalaw03_divided.calls k6 t615 t616 t617 t618 (wrap64 ((wrap64 ((wrap64 (1 + (Int.tmod (wrap64 (a1)) 26))) - x14_4)) - x15_6)) (wrap64 (x13_2 - 1)) false _ A109.out).mono ?_); rintro e w130 ⟨rfl, hb⟩; have n0_ := zA (Kd.R_below (zqC HO_11.out) hb); have n1_ := zA (blk_below (g := gb608) (o := .cells #[.int .u8 a0_0, .int .u8 a0_1, .int .u8 a0_2, .int .u8 a0_3, .int .u8 a0_4] 86 (0, 0)) (zqB BK608.out) hb); have n2_ := zA (blk_below (g := gb614) (o := .cells #[.int .i64 t609, .int .i64 t610, .int .i64 t611, .int .i64 t612, .int .i64 t613] 57 (0, 0)) (zqB BK614.out) hb); have n3_ := zA (blk_below (g := gb620) (o := .cells #[.int .i64 t615, .int .i64 t616] 55 (0, 0)) (zqB BK620.out) hb); have n4_ := zA (blk_below (g := gb621) (o := .cells #[.int .i64 t617, .int .i64 t618] 55 (0, 0)) (zqB BK621.out) hb); have n5_ := zA (blk_below (g := gb623) (o := .cells #[.int .i64 3, .int .i64 (wrap64 (3 + (wrap64 (1 + (Int.tmod (wrap64 (a1)) 26)))))] 47 (0, 0)) (zqB BK623.out) hb); have n6_ := zA (below_step (by repeat (first | (with_reducible first | exact HB.out | apply below_alloc | apply pw_below_drewN | apply below_drew1 | refine below_set ?_ GE608.out | refine below_set ?_ GE614.out | refine below_set ?_ GE620.out | refine below_set ?_ GE621.out | refine below_set ?_ GE623.out) | exact HB.out)) hb); clear HO_11; clear BK608; clear BK614; clear BK620; clear BK621; clear BK623; clear HB; have HO_11 := n0_; have BK608 := n1_; have BK614 := n2_; have BK620 := n3_; have BK621 := n4_; have BK623 := n5_; have HB := n6_; clear n0_ n1_ n2_ n3_ n4_ n5_ n6_; (try clear hb); (try clear hb2); (try clear hk); (try clear hi))); try go_wp2_with (first | (go_at_call 45; (with_reducible refine (pianolalaw03_divided.calls k6 t615 t616 t617 t618 (wrap64 ((wrap64 ((wrap64 (1 + (Int.tmod (wrap64 (a1)) 26))) - x14_4)) - x15_6)) (wrap64 (x13_2 - 1)) false _ A109.out).mono ?_); rintro e w130 ⟨rfl, hb⟩; have n0_ := zA (Kd.R_below (zqC HO_11.out) hb); have n1_ := zA (blk_below (g := gb608) (o := .cells #[.int .u8 a0_0, .int .u8 a0_1, .int .u8 a0_2, .int .u8 a0_3, .int .u8 a0_4] 86 (0, 0)) (zqB BK608.out) hb); have n2_ := zA (blk_below (g := gb614) (o := .cells #[.int .i64 t609, .int .i64 t610, .int .i64 t611, .int .i64 t612, .int .i64 t613] 57 (0, 0)) (zqB BK614.out) hb); have n3_ := zA (blk_below (g := gb620) (o := .cells #[.int .i64 t615, .int .i64 t616] 55 (0, 0)) (zqB BK620.out) hb); have n4_ := zA (blk_below (g := gb621) (o := .cells #[.int .i64 t617, .int .i64 t618] 55 (0, 0)) (zqB BK621.out) hb); have n5_ := zA (blk_below (g := gb623) (o := .cells #[.int .i64 3, .int .i64 (wrap64 (3 + (wrap64 (1 + (Int.tmod (wrap64 (a1)) 26)))))] 47 (0, 0)) (zqB BK623.out) hb); have n6_ := zA (below_step (by repeat (first | (with_reducible first | exact HB.out | apply below_alloc | apply pw_below_drewN | apply below_drew1 | refine below_set ?_ GE608.out | refine below_set ?_ GE614.out | refine below_set ?_ GE620.out | refine below_set ?_ GE621.out | refine below_set ?_ GE623.out) | exact HB.out)) hb); clear HO_11; clear BK608; clear BK614; clear BK620; clear BK621; clear BK623; clear HB; have HO_11 := n0_; have BK608 := n1_; have BK614 := n2_; have BK620 := n3_; have BK621 := n4_; have BK623 := n5_; have HB := n6_; clear n0_ n1_ n2_ n3_ n4_ n5_ n6_; (try clear hb); (try clear hb2); (try clear hk); (try clear hi))))
                      go_roundg k6
                      case measure => have := HJ5.out; have := HK2.out; have := HJ63.out; have := HK4.out; have := HJ95.out; have := HK6.out; omega
                      case rel => exact ⟨(wrap64 (x15_6 + 1)), zqQ, H', ⟨by have := HJ5.out; have := HK2.out; have := HJ63.out; have := HK4.out; have := HJ95.out; have := HK6.out; omega⟩, ⟨zqC HO_11.out⟩, ⟨zqB BK608.out⟩, ⟨zqB BK614.out⟩, ⟨zqB BK620.out⟩, ⟨zqB BK621.out⟩, ⟨zqB BK623.out⟩, ⟨by repeat (first | (with_reducible first | exact HB.out | apply below_alloc | apply pw_below_drewN | apply below_drew1 | refine below_set ?_ GE608.out | refine below_set ?_ GE614.out | refine below_set ?_ GE620.out | refine below_set ?_ GE621.out | refine below_set ?_ GE623.out) | exact HB.out)⟩⟩
                    ·
                     rw [if_neg c108] at H
                     have c108b0 : decide (1 ≤ (wrap64 ((wrap64 ((wrap64 (1 + (Int.tmod (wrap64 (a1)) 26))) - x14_4)) - x15_6))) = false := decide_eq_false c108
                     clear c108
                     have H' := zA H
                     clear H
                     have hnb131 := NB621_608.out
                     have hnc131 := NB608_621.out
                     have hnb132 := NB621_614.out
                     have hnc132 := NB614_621.out
                     have hnb133 := NB621_620.out
                     have hnc133 := NB620_621.out
                     have hnb134 := NB621_623.out
                     have hnc134 := NB623_621.out
                     have hcz135_0 : wr.cell? ⟨gb621, 0, none⟩ = some (.int .i64 t617) := (blk_cell BK621.out 0).trans rfl
                     have hcz135_1 : wr.cell? ⟨gb621, 1, none⟩ = some (.int .i64 t618) := (blk_cell BK621.out 1).trans rfl
                     have hfz135_0 := blk_frozen BK621.out 0
                     have hfz135_1 := blk_frozen BK621.out 1
                     go_wp2
                     repeat (go_quiet (fail); try go_wp2)
                     go_roundg k6
                     case measure => have := HJ5.out; have := HK2.out; have := HJ63.out; have := HK4.out; have := HJ95.out; have := HK6.out; omega
                     case rel => exact ⟨(wrap64 (x15_6 + 1)), zqQ, H', ⟨by have := HJ5.out; have := HK2.out; have := HJ63.out; have := HK4.out; have := HJ95.out; have := HK6.out; omega⟩, ⟨zqC HO_11.out⟩, ⟨zqB BK608.out⟩, ⟨zqB BK614.out⟩, ⟨zqB BK620.out⟩, ⟨zqB BK621.out⟩, ⟨zqB BK623.out⟩, ⟨by repeat (first | (with_reducible first | exact HB.out | apply below_alloc | apply pw_below_drewN | apply below_drew1 | refine below_set ?_ GE608.out | refine below_set ?_ GE614.out | refine below_set ?_ GE620.out | refine below_set ?_ GE621.out | refine below_set ?_ GE623.out) | exact HB.out)⟩⟩
                   ·
                    rw [if_neg c107] at H
                    have c107b0 : decide (x15_6 ≤ t618) = false := decide_eq_false c107
                    clear c107
                    have H' := zA H
                    clear H
                    have hnb136 := NB621_608.out
                    have hnc136 := NB608_621.out
                    have hnb137 := NB621_614.out
                    have hnc137 := NB614_621.out
                    have hnb138 := NB621_620.out
                    have hnc138 := NB620_621.out
                    have hnb139 := NB621_623.out
                    have hnc139 := NB623_621.out
                    have hcz140_0 : wr.cell? ⟨gb621, 0, none⟩ = some (.int .i64 t617) := (blk_cell BK621.out 0).trans rfl
                    have hcz140_1 : wr.cell? ⟨gb621, 1, none⟩ = some (.int .i64 t618) := (blk_cell BK621.out 1).trans rfl
                    have hfz140_0 := blk_frozen BK621.out 0
                    have hfz140_1 := blk_frozen BK621.out 1
                    go_wp2
                    repeat (go_quiet (fail); try go_wp2)
                    go_roundg k6
                    case measure => have := HJ5.out; have := HK2.out; have := HJ63.out; have := HK4.out; have := HJ95.out; have := HK6.out; omega
                    case rel => exact ⟨(wrap64 (x14_4 - 1)), zqQ, H', ⟨by have := HJ5.out; have := HK2.out; have := HJ63.out; have := HK4.out; have := HJ95.out; have := HK6.out; omega⟩, ⟨zqC HO_11.out⟩, ⟨zqB BK608.out⟩, ⟨zqB BK614.out⟩, ⟨zqB BK620.out⟩, ⟨zqB BK621.out⟩, ⟨zqB BK623.out⟩, ⟨by repeat (first | (with_reducible first | exact HB.out | apply below_alloc | apply pw_below_drewN | apply below_drew1 | refine below_set ?_ GE608.out | refine below_set ?_ GE614.out | refine below_set ?_ GE620.out | refine below_set ?_ GE621.out | refine below_set ?_ GE623.out) | exact HB.out)⟩⟩
                ·
                 replace c100 := Bool.eq_false_iff.mpr c100
                 subst c100
                 have H1 : ((pianolalaw03_works.f).bind fun t633 => (some t633)) = some r := by rw [if_neg (show ¬ (false = true) by decide)] at H; exact H
                 clear H; have H := H1; clear H1
                 replace H := Option.bind_eq_some_iff.mp H
                 obtain ⟨t633, A1410, H⟩ := H
                 replace H : (some t633) = some r := H
                 have A141 := zA A1410
                 clear A1410
                 obtain rfl := Option.some.inj H
                 go_wp2_with (first | (go_at_call 15; (with_reducible refine (pianolalaw03_works.calls  t633 _ A141.out).mono ?_); rintro e w142 ⟨rfl, hb⟩; have n0_ := zA (Kd.R_below (zqC HO_11.out) hb); have n1_ := zA (blk_below (g := gb608) (o := .cells #[.int .u8 a0_0, .int .u8 a0_1, .int .u8 a0_2, .int .u8 a0_3, .int .u8 a0_4] 86 (0, 0)) (zqB BK608.out) hb); have n2_ := zA (blk_below (g := gb614) (o := .cells #[.int .i64 t609, .int .i64 t610, .int .i64 t611, .int .i64 t612, .int .i64 t613] 57 (0, 0)) (zqB BK614.out) hb); have n3_ := zA (blk_below (g := gb620) (o := .cells #[.int .i64 t615, .int .i64 t616] 55 (0, 0)) (zqB BK620.out) hb); have n4_ := zA (blk_below (g := gb621) (o := .cells #[.int .i64 t617, .int .i64 t618] 55 (0, 0)) (zqB BK621.out) hb); have n5_ := zA (blk_below (g := gb623) (o := .cells #[.int .i64 3, .int .i64 (wrap64 (3 + (wrap64 (1 + (Int.tmod (wrap64 (a1)) 26)))))] 47 (0, 0)) (zqB BK623.out) hb); have n6_ := zA (below_step (by repeat (first | (with_reducible first | exact HB.out | apply below_alloc | apply pw_below_drewN | apply below_drew1 | refine below_set ?_ GE608.out | refine below_set ?_ GE614.out | refine below_set ?_ GE620.out | refine below_set ?_ GE621.out | refine below_set ?_ GE623.out) | exact HB.out)) hb); clear HO_11; clear BK608; clear BK614; clear BK620; clear BK621; clear BK623; clear HB; have HO_11 := n0_; have BK608 := n1_; have BK614 := n2_; have BK620 := n3_; have BK621 := n4_; have BK623 := n5_; have HB := n6_; clear n0_ n1_ n2_ n3_ n4_ n5_ n6_; (try clear hb); (try clear hb2); (try clear hk); (try clear hi)))
                 repeat (go_quiet (first | (go_at_call 15; (with_reducible refine (pianolalaw03_works.calls  t633 _ A141.out).mono ?_); rintro e w142 ⟨rfl, hb⟩; have n0_ := zA (Kd.R_below (zqC HO_11.out) hb); have n1_ := zA (blk_below (g := gb608) (o := .cells #[.int .u8 a0_0, .int .u8 a0_1, .int .u8 a0_2, .int .u8 a0_3, .int .u8 a0_4] 86 (0, 0)) (zqB BK608.out) hb); have n2_ := zA (blk_below (g := gb614) (o := .cells #[.int .i64 t609, .int .i64 t610, .int .i64 t611, .int .i64 t612, .int .i64 t613] 57 (0, 0)) (zqB BK614.out) hb); have n3_ := zA (blk_below (g := gb620) (o := .cells #[.int .i64 t615, .int .i64 t616] 55 (0, 0)) (zqB BK620.out) hb); have n4_ := zA (blk_below (g := gb621) (o := .cells #[.int .i64 t617, .int .i64 t618] 55 (0, 0)) (zqB BK621.out) hb); have n5_ := zA (blk_below (g := gb623) (o := .cells #[.int .i64 3, .int .i64 (wrap64 (3 + (wrap64 (1 + (Int.tmod (wrap64 (a1)) 26)))))] 47 (0, 0)) (zqB BK623.out) hb); have n6_ := zA (below_step (by repeat (first | (with_reducible first | exact HB.out | apply below_alloc | apply pw_below_drewN | apply below_drew1 | refine below_set ?_ GE608.out | refine below_set ?_ GE614.out | refine below_set ?_ GE620.out | refine below_set ?_ GE621.out | refine below_set ?_ GE623.out) | exact HB.out)) hb); clear HO_11; clear BK608; clear BK614; clear BK620; clear BK621; clear BK623; clear HB; have HO_11 := n0_; have BK608 := n1_; have BK614 := n2_; have BK620 := n3_; have BK621 := n4_; have BK623 := n5_; have HB := n6_; clear n0_ n1_ n2_ n3_ n4_ n5_ n6_; (try clear hb); (try clear hb2); (try clear hk); (try clear hi))); try go_wp2_with (first | (go_at_call 15; (with_reducible refine (pianolalaw03_works.calls  t633 _ A141.out).mono ?_); rintro e w142 ⟨rfl, hb⟩; have n0_ := zA (Kd.R_below (zqC HO_11.out) hb); have n1_ := zA (blk_below (g := gb608) (o := .cells #[.int .u8 a0_0, .int .u8 a0_1, .int .u8 a0_2, .int .u8 a0_3, .int .u8 a0_4] 86 (0, 0)) (zqB BK608.out) hb); have n2_ := zA (blk_below (g := gb614) (o := .cells #[.int .i64 t609, .int .i64 t610, .int .i64 t611, .int .i64 t612, .int .i64 t613] 57 (0, 0)) (zqB BK614.out) hb); have n3_ := zA (blk_below (g := gb620) (o := .cells #[.int .i64 t615, .int .i64 t616] 55 (0, 0)) (zqB BK620.out) hb); have n4_ := zA (blk_below (g := gb621) (o := .cells #[.int .i64 t617, .int .i64 t618] 55 (0, 0)) (zqB BK621.out) hb); have n5_ := zA (blk_below (g := gb623) (o := .cells #[.int .i64 3, .int .i64 (wrap64 (3 + (wrap64 (1 + (Int.tmod (wrap64 (a1)) 26)))))] 47 (0, 0)) (zqB BK623.out) hb); have n6_ := zA (below_step (by repeat (first | (with_reducible first | exact HB.out | apply below_alloc | apply pw_below_drewN | apply below_drew1 | refine below_set ?_ GE608.out | refine below_set ?_ GE614.out | refine below_set ?_ GE620.out | refine below_set ?_ GE621.out | refine below_set ?_ GE623.out) | exact HB.out)) hb); clear HO_11; clear BK608; clear BK614; clear BK620; clear BK621; clear BK623; clear HB; have HO_11 := n0_; have BK608 := n1_; have BK614 := n2_; have BK620 := n3_; have BK621 := n4_; have BK623 := n5_; have HB := n6_; clear n0_ n1_ n2_ n3_ n4_ n5_ n6_; (try clear hb); (try clear hb2); (try clear hk); (try clear hi))))
                 go_ret
                 exact ⟨zqR, by repeat (first | (with_reducible first | exact HB.out | apply below_alloc | apply pw_below_drewN | apply below_drew1 | refine below_set ?_ GE608.out | refine below_set ?_ GE614.out | refine below_set ?_ GE620.out | refine below_set ?_ GE621.out | refine below_set ?_ GE623.out) | exact HB.out)⟩
        ·
         replace c63 := Bool.eq_false_iff.mpr c63
         subst c63
         have H1 : (pianolalaw03_PunchFewest.l0 k2 (wrap64 (1 + (Int.tmod (wrap64 (a1)) 26))) t624 t627 (wrap64 (x13_2 + 1)) t609 t610 t611 t612 t613 t615 t616 t617 t618 3 (wrap64 (3 + (wrap64 (1 + (Int.tmod (wrap64 (a1)) 26)))))) = some r := by rw [if_neg (show ¬ (false = true) by decide)] at H; exact H
         clear H; have H := H1; clear H1
         have H' := zA H
         clear H
         have hnb143 := NB620_608.out
         have hnc143 := NB608_620.out
         have hnb144 := NB620_614.out
         have hnc144 := NB614_620.out
         have hnb145 := NB620_621.out
         have hnc145 := NB621_620.out
         have hnb146 := NB620_623.out
         have hnc146 := NB623_620.out
         have hcz147_0 : wr.cell? ⟨gb620, 0, none⟩ = some (.int .i64 t615) := (blk_cell BK620.out 0).trans rfl
         have hcz147_1 : wr.cell? ⟨gb620, 1, none⟩ = some (.int .i64 t616) := (blk_cell BK620.out 1).trans rfl
         have hfz147_0 := blk_frozen BK620.out 0
         have hfz147_1 := blk_frozen BK620.out 1
         have hnb148 := NB621_608.out
         have hnc148 := NB608_621.out
         have hnb149 := NB621_614.out
         have hnc149 := NB614_621.out
         have hnb150 := NB621_623.out
         have hnc150 := NB623_621.out
         have hcz151_0 : wr.cell? ⟨gb621, 0, none⟩ = some (.int .i64 t617) := (blk_cell BK621.out 0).trans rfl
         have hcz151_1 : wr.cell? ⟨gb621, 1, none⟩ = some (.int .i64 t618) := (blk_cell BK621.out 1).trans rfl
         have hfz151_0 := blk_frozen BK621.out 0
         have hfz151_1 := blk_frozen BK621.out 1
         go_wp2_with (first | (go_at_call 45; (with_reducible refine (pianolalaw03_divided.calls k2 t615 t616 t617 t618 (wrap64 (1 + (Int.tmod (wrap64 (a1)) 26))) x13_2 false _ A62.out).mono ?_); rintro e w152 ⟨rfl, hb⟩; have n0_ := zA (Kd.R_below (zqC HO_11.out) hb); have n1_ := zA (blk_below (g := gb608) (o := .cells #[.int .u8 a0_0, .int .u8 a0_1, .int .u8 a0_2, .int .u8 a0_3, .int .u8 a0_4] 86 (0, 0)) (zqB BK608.out) hb); have n2_ := zA (blk_below (g := gb614) (o := .cells #[.int .i64 t609, .int .i64 t610, .int .i64 t611, .int .i64 t612, .int .i64 t613] 57 (0, 0)) (zqB BK614.out) hb); have n3_ := zA (blk_below (g := gb620) (o := .cells #[.int .i64 t615, .int .i64 t616] 55 (0, 0)) (zqB BK620.out) hb); have n4_ := zA (blk_below (g := gb621) (o := .cells #[.int .i64 t617, .int .i64 t618] 55 (0, 0)) (zqB BK621.out) hb); have n5_ := zA (blk_below (g := gb623) (o := .cells #[.int .i64 3, .int .i64 (wrap64 (3 + (wrap64 (1 + (Int.tmod (wrap64 (a1)) 26)))))] 47 (0, 0)) (zqB BK623.out) hb); have n6_ := zA (below_step (by repeat (first | (with_reducible first | exact HB.out | apply below_alloc | apply pw_below_drewN | apply below_drew1 | refine below_set ?_ GE608.out | refine below_set ?_ GE614.out | refine below_set ?_ GE620.out | refine below_set ?_ GE621.out | refine below_set ?_ GE623.out) | exact HB.out)) hb); clear HO_11; clear BK608; clear BK614; clear BK620; clear BK621; clear BK623; clear HB; have HO_11 := n0_; have BK608 := n1_; have BK614 := n2_; have BK620 := n3_; have BK621 := n4_; have BK623 := n5_; have HB := n6_; clear n0_ n1_ n2_ n3_ n4_ n5_ n6_; (try clear hb); (try clear hb2); (try clear hk); (try clear hi)))
         repeat (go_quiet (first | (go_at_call 45; (with_reducible refine (pianolalaw03_divided.calls k2 t615 t616 t617 t618 (wrap64 (1 + (Int.tmod (wrap64 (a1)) 26))) x13_2 false _ A62.out).mono ?_); rintro e w152 ⟨rfl, hb⟩; have n0_ := zA (Kd.R_below (zqC HO_11.out) hb); have n1_ := zA (blk_below (g := gb608) (o := .cells #[.int .u8 a0_0, .int .u8 a0_1, .int .u8 a0_2, .int .u8 a0_3, .int .u8 a0_4] 86 (0, 0)) (zqB BK608.out) hb); have n2_ := zA (blk_below (g := gb614) (o := .cells #[.int .i64 t609, .int .i64 t610, .int .i64 t611, .int .i64 t612, .int .i64 t613] 57 (0, 0)) (zqB BK614.out) hb); have n3_ := zA (blk_below (g := gb620) (o := .cells #[.int .i64 t615, .int .i64 t616] 55 (0, 0)) (zqB BK620.out) hb); have n4_ := zA (blk_below (g := gb621) (o := .cells #[.int .i64 t617, .int .i64 t618] 55 (0, 0)) (zqB BK621.out) hb); have n5_ := zA (blk_below (g := gb623) (o := .cells #[.int .i64 3, .int .i64 (wrap64 (3 + (wrap64 (1 + (Int.tmod (wrap64 (a1)) 26)))))] 47 (0, 0)) (zqB BK623.out) hb); have n6_ := zA (below_step (by repeat (first | (with_reducible first | exact HB.out | apply below_alloc | apply pw_below_drewN | apply below_drew1 | refine below_set ?_ GE608.out | refine below_set ?_ GE614.out | refine below_set ?_ GE620.out | refine below_set ?_ GE621.out | refine below_set ?_ GE623.out) | exact HB.out)) hb); clear HO_11; clear BK608; clear BK614; clear BK620; clear BK621; clear BK623; clear HB; have HO_11 := n0_; have BK608 := n1_; have BK614 := n2_; have BK620 := n3_; have BK621 := n4_; have BK623 := n5_; have HB := n6_; clear n0_ n1_ n2_ n3_ n4_ n5_ n6_; (try clear hb); (try clear hb2); (try clear hk); (try clear hi))); try go_wp2_with (first | (go_at_call 45; (with_reducible refine (pianolalaw03_divided.calls k2 t615 t616 t617 t618 (wrap64 (1 + (Int.tmod (wrap64 (a1)) 26))) x13_2 false _ A62.out).mono ?_); rintro e w152 ⟨rfl, hb⟩; have n0_ := zA (Kd.R_below (zqC HO_11.out) hb); have n1_ := zA (blk_below (g := gb608) (o := .cells #[.int .u8 a0_0, .int .u8 a0_1, .int .u8 a0_2, .int .u8 a0_3, .int .u8 a0_4] 86 (0, 0)) (zqB BK608.out) hb); have n2_ := zA (blk_below (g := gb614) (o := .cells #[.int .i64 t609, .int .i64 t610, .int .i64 t611, .int .i64 t612, .int .i64 t613] 57 (0, 0)) (zqB BK614.out) hb); have n3_ := zA (blk_below (g := gb620) (o := .cells #[.int .i64 t615, .int .i64 t616] 55 (0, 0)) (zqB BK620.out) hb); have n4_ := zA (blk_below (g := gb621) (o := .cells #[.int .i64 t617, .int .i64 t618] 55 (0, 0)) (zqB BK621.out) hb); have n5_ := zA (blk_below (g := gb623) (o := .cells #[.int .i64 3, .int .i64 (wrap64 (3 + (wrap64 (1 + (Int.tmod (wrap64 (a1)) 26)))))] 47 (0, 0)) (zqB BK623.out) hb); have n6_ := zA (below_step (by repeat (first | (with_reducible first | exact HB.out | apply below_alloc | apply pw_below_drewN | apply below_drew1 | refine below_set ?_ GE608.out | refine below_set ?_ GE614.out | refine below_set ?_ GE620.out | refine below_set ?_ GE621.out | refine below_set ?_ GE623.out) | exact HB.out)) hb); clear HO_11; clear BK608; clear BK614; clear BK620; clear BK621; clear BK623; clear HB; have HO_11 := n0_; have BK608 := n1_; have BK614 := n2_; have BK620 := n3_; have BK621 := n4_; have BK623 := n5_; have HB := n6_; clear n0_ n1_ n2_ n3_ n4_ n5_ n6_; (try clear hb); (try clear hb2); (try clear hk); (try clear hi))))
         go_roundg k2
         case measure => have := HJ5.out; have := HK2.out; omega
         case rel => exact ⟨(wrap64 (x13_2 + 1)), zqQ, H', ⟨by have := HJ5.out; have := HK2.out; omega⟩, ⟨zqC HO_11.out⟩, ⟨zqB BK608.out⟩, ⟨zqB BK614.out⟩, ⟨zqB BK620.out⟩, ⟨zqB BK621.out⟩, ⟨zqB BK623.out⟩, ⟨by repeat (first | (with_reducible first | exact HB.out | apply below_alloc | apply pw_below_drewN | apply below_drew1 | refine below_set ?_ GE608.out | refine below_set ?_ GE614.out | refine below_set ?_ GE620.out | refine below_set ?_ GE621.out | refine below_set ?_ GE623.out) | exact HB.out)⟩⟩
       ·
        rw [if_neg c61] at H
        have c61b0 : decide (x13_2 ≤ 14) = false := decide_eq_false c61
        clear c61
        by_cases c153 : t627 = 20
        ·
         rw [if_pos c153] at H
         have c153b0 : (t627 == 20) = true := beq_iff_eq.mpr c153
         have c153b1 : (t627 != 20) = false := bne_eq_false_iff_eq.mpr c153
         clear c153
         by_cases c154 : (t624.length : Int) = 0
         ·
          rw [if_pos c154] at H
          have c154b0 : ((t624.length : Int) == 0) = true := beq_iff_eq.mpr c154
          have c154b1 : ((t624.length : Int) != 0) = false := bne_eq_false_iff_eq.mpr c154
          clear c154
          replace H := Option.bind_eq_some_iff.mp H
          obtain ⟨t628, A1550, H⟩ := H
          replace H : (some t628) = some r := H
          have A155 := zA A1550
          clear A1550
          obtain rfl := Option.some.inj H
          obtain ⟨Ao156, co156, eo156⟩ := Kd.R_slice HO_11.out
          subst eo156
          go_wp2_with (first | (go_at_call 15; (with_reducible refine (pianolalaw03_works.calls  t628 _ A155.out).mono ?_); rintro e w157 ⟨rfl, hb⟩; have n0_ := zA (Kd.R_below (zqC HO_11.out) hb); have n1_ := zA (blk_below (g := gb608) (o := .cells #[.int .u8 a0_0, .int .u8 a0_1, .int .u8 a0_2, .int .u8 a0_3, .int .u8 a0_4] 86 (0, 0)) (zqB BK608.out) hb); have n2_ := zA (blk_below (g := gb614) (o := .cells #[.int .i64 t609, .int .i64 t610, .int .i64 t611, .int .i64 t612, .int .i64 t613] 57 (0, 0)) (zqB BK614.out) hb); have n3_ := zA (blk_below (g := gb620) (o := .cells #[.int .i64 t615, .int .i64 t616] 55 (0, 0)) (zqB BK620.out) hb); have n4_ := zA (blk_below (g := gb621) (o := .cells #[.int .i64 t617, .int .i64 t618] 55 (0, 0)) (zqB BK621.out) hb); have n5_ := zA (blk_below (g := gb623) (o := .cells #[.int .i64 3, .int .i64 (wrap64 (3 + (wrap64 (1 + (Int.tmod (wrap64 (a1)) 26)))))] 47 (0, 0)) (zqB BK623.out) hb); have n6_ := zA (below_step (by repeat (first | (with_reducible first | exact HB.out | apply below_alloc | apply pw_below_drewN | apply below_drew1 | refine below_set ?_ GE608.out | refine below_set ?_ GE614.out | refine below_set ?_ GE620.out | refine below_set ?_ GE621.out | refine below_set ?_ GE623.out) | exact HB.out)) hb); clear HO_11; clear BK608; clear BK614; clear BK620; clear BK621; clear BK623; clear HB; have HO_11 := n0_; have BK608 := n1_; have BK614 := n2_; have BK620 := n3_; have BK621 := n4_; have BK623 := n5_; have HB := n6_; clear n0_ n1_ n2_ n3_ n4_ n5_ n6_; (try clear hb); (try clear hb2); (try clear hk); (try clear hi)))
          repeat (go_quiet (first | (go_at_call 15; (with_reducible refine (pianolalaw03_works.calls  t628 _ A155.out).mono ?_); rintro e w157 ⟨rfl, hb⟩; have n0_ := zA (Kd.R_below (zqC HO_11.out) hb); have n1_ := zA (blk_below (g := gb608) (o := .cells #[.int .u8 a0_0, .int .u8 a0_1, .int .u8 a0_2, .int .u8 a0_3, .int .u8 a0_4] 86 (0, 0)) (zqB BK608.out) hb); have n2_ := zA (blk_below (g := gb614) (o := .cells #[.int .i64 t609, .int .i64 t610, .int .i64 t611, .int .i64 t612, .int .i64 t613] 57 (0, 0)) (zqB BK614.out) hb); have n3_ := zA (blk_below (g := gb620) (o := .cells #[.int .i64 t615, .int .i64 t616] 55 (0, 0)) (zqB BK620.out) hb); have n4_ := zA (blk_below (g := gb621) (o := .cells #[.int .i64 t617, .int .i64 t618] 55 (0, 0)) (zqB BK621.out) hb); have n5_ := zA (blk_below (g := gb623) (o := .cells #[.int .i64 3, .int .i64 (wrap64 (3 + (wrap64 (1 + (Int.tmod (wrap64 (a1)) 26)))))] 47 (0, 0)) (zqB BK623.out) hb); have n6_ := zA (below_step (by repeat (first | (with_reducible first | exact HB.out | apply below_alloc | apply pw_below_drewN | apply below_drew1 | refine below_set ?_ GE608.out | refine below_set ?_ GE614.out | refine below_set ?_ GE620.out | refine below_set ?_ GE621.out | refine below_set ?_ GE623.out) | exact HB.out)) hb); clear HO_11; clear BK608; clear BK614; clear BK620; clear BK621; clear BK623; clear HB; have HO_11 := n0_; have BK608 := n1_; have BK614 := n2_; have BK620 := n3_; have BK621 := n4_; have BK623 := n5_; have HB := n6_; clear n0_ n1_ n2_ n3_ n4_ n5_ n6_; (try clear hb); (try clear hb2); (try clear hk); (try clear hi))); try go_wp2_with (first | (go_at_call 15; (with_reducible refine (pianolalaw03_works.calls  t628 _ A155.out).mono ?_); rintro e w157 ⟨rfl, hb⟩; have n0_ := zA (Kd.R_below (zqC HO_11.out) hb); have n1_ := zA (blk_below (g := gb608) (o := .cells #[.int .u8 a0_0, .int .u8 a0_1, .int .u8 a0_2, .int .u8 a0_3, .int .u8 a0_4] 86 (0, 0)) (zqB BK608.out) hb); have n2_ := zA (blk_below (g := gb614) (o := .cells #[.int .i64 t609, .int .i64 t610, .int .i64 t611, .int .i64 t612, .int .i64 t613] 57 (0, 0)) (zqB BK614.out) hb); have n3_ := zA (blk_below (g := gb620) (o := .cells #[.int .i64 t615, .int .i64 t616] 55 (0, 0)) (zqB BK620.out) hb); have n4_ := zA (blk_below (g := gb621) (o := .cells #[.int .i64 t617, .int .i64 t618] 55 (0, 0)) (zqB BK621.out) hb); have n5_ := zA (blk_below (g := gb623) (o := .cells #[.int .i64 3, .int .i64 (wrap64 (3 + (wrap64 (1 + (Int.tmod (wrap64 (a1)) 26)))))] 47 (0, 0)) (zqB BK623.out) hb); have n6_ := zA (below_step (by repeat (first | (with_reducible first | exact HB.out | apply below_alloc | apply pw_below_drewN | apply below_drew1 | refine below_set ?_ GE608.out | refine below_set ?_ GE614.out | refine below_set ?_ GE620.out | refine below_set ?_ GE621.out | refine below_set ?_ GE623.out) | exact HB.out)) hb); clear HO_11; clear BK608; clear BK614; clear BK620; clear BK621; clear BK623; clear HB; have HO_11 := n0_; have BK608 := n1_; have BK614 := n2_; have BK620 := n3_; have BK621 := n4_; have BK623 := n5_; have HB := n6_; clear n0_ n1_ n2_ n3_ n4_ n5_ n6_; (try clear hb); (try clear hb2); (try clear hk); (try clear hi))))
          go_ret
          exact ⟨zqR, by repeat (first | (with_reducible first | exact HB.out | apply below_alloc | apply pw_below_drewN | apply below_drew1 | refine below_set ?_ GE608.out | refine below_set ?_ GE614.out | refine below_set ?_ GE620.out | refine below_set ?_ GE621.out | refine below_set ?_ GE623.out) | exact HB.out)⟩
         ·
          rw [if_neg c154] at H
          exact absurd ((Option.some.inj H).trans HRT.out) (by decide)
        ·
         rw [if_neg c153] at H
         exact absurd ((Option.some.inj H).trans HRT.out) (by decide)
 ·
  rw [if_neg c5] at H
  have c5b0 : (t619 == 0) = false := beq_eq_false_iff_ne.mpr c5
  have c5b1 : (t619 != 0) = true := bne_iff_ne.mpr c5
  by_cases c159 : t619 = 20
  ·
   rw [if_pos c159] at H
   have c159b0 : (t619 == 20) = true := beq_iff_eq.mpr c159
   have c159b1 : (t619 != 20) = false := bne_eq_false_iff_eq.mpr c159
   clear c159
   replace H := Option.bind_eq_some_iff.mp H
   obtain ⟨t622, A1600, H⟩ := H
   replace H : (some t622) = some r := H
   have A160 := zA A1600
   clear A1600
   obtain rfl := Option.some.inj H
   go_enter Try.func13, Try.ntmps13
   go_wp2_with (first | ((with_reducible refine gate_dst (N := 2) rfl ?_); (try (refine gate_guard (by rfl) ?_; dsimp only)); refine box_event ?hg (N := 2) ?hd (cs := #[.int .u8 a0_0, .int .u8 a0_1, .int .u8 a0_2, .int .u8 a0_3, .int .u8 a0_4]) (t := 86) ?hr ?_; (case hd => rfl); (case hg => rfl); (case hr => first | (go_simp; done) | (go_simp; rfl)); intro gb608 hg w161 hbox hb; have n0_ := zA (below_step (zqA HB.out) hb); have n1_ := zA (hbox); have n2_ := zA ((by rw [hg]; exact (below_size (zqA HB.out)) : w.heap.size ≤ gb608)); have n3_ := zA ((by rw [hg]; exact (below_size (zqA HB.out)) : w.heap.size ≤ gb608)); clear HB; have HB := n0_; have BK608 := n1_; have GW608 := n2_; have GE608 := n3_; clear n0_ n1_ n2_ n3_; clear hb hbox hg; have hcz162_0 : w161.cell? ⟨gb608, 0, none⟩ = some (.int .u8 a0_0) := (blk_cell BK608.out 0).trans rfl; have hcz162_1 : w161.cell? ⟨gb608, 1, none⟩ = some (.int .u8 a0_1) := (blk_cell BK608.out 1).trans rfl; have hcz162_2 : w161.cell? ⟨gb608, 2, none⟩ = some (.int .u8 a0_2) := (blk_cell BK608.out 2).trans rfl; have hcz162_3 : w161.cell? ⟨gb608, 3, none⟩ = some (.int .u8 a0_3) := (blk_cell BK608.out 3).trans rfl; have hcz162_4 : w161.cell? ⟨gb608, 4, none⟩ = some (.int .u8 a0_4) := (blk_cell BK608.out 4).trans rfl; have hfz162_0 := blk_frozen BK608.out 0; have hfz162_1 := blk_frozen BK608.out 1; have hfz162_2 := blk_frozen BK608.out 2; have hfz162_3 := blk_frozen BK608.out 3; have hfz162_4 := blk_frozen BK608.out 4) | (go_at_call 42; (with_reducible refine (pianolalaw03_Sheet_made.calls a0_0 a0_1 a0_2 a0_3 a0_4 t609 t610 t611 t612 t613 _ A3.out).mono ?_); rintro e w163 ⟨rfl, hb⟩; have n0_ := zA (blk_below (g := gb608) (o := .cells #[.int .u8 a0_0, .int .u8 a0_1, .int .u8 a0_2, .int .u8 a0_3, .int .u8 a0_4] 86 (0, 0)) (zqB BK608.out) hb); have n1_ := zA (below_step (zqG HB.out GE608.out) hb); clear BK608; clear HB; have BK608 := n0_; have HB := n1_; clear n0_ n1_; (try clear hb); (try clear hb2); (try clear hk); (try clear hi)) | ((with_reducible refine gate_dst (N := 5) rfl ?_); (try (refine gate_guard (by rfl) ?_; dsimp only)); refine box_event ?hg (N := 5) ?hd (cs := #[.int .i64 0, .int .i64 0, .int .i64 0, .int .i64 0, .int .i64 0]) (t := 57) ?hr ?_; (case hd => rfl); (case hg => rfl); (case hr => first | (go_simp; done) | (go_simp; rfl)); intro gb614 hg w164 hbox hb; have n0_ := zA (blk_below (g := gb608) (o := .cells #[.int .u8 a0_0, .int .u8 a0_1, .int .u8 a0_2, .int .u8 a0_3, .int .u8 a0_4] 86 (0, 0)) (zqB BK608.out) hb); have n1_ := zA (below_step (zqG HB.out GE608.out) hb); have n2_ := zA (hbox); have n3_ := zA ((by rw [hg]; exact (below_size (zqG HB.out GE608.out)) : w.heap.size ≤ gb614)); have n4_ := zA ((by rw [hg]; exact (below_size (zqG HB.out GE608.out)) : w.heap.size ≤ gb614)); have n5_ := zA ((by rw [hg]; exact Nat.ne_of_lt (blk_lt (g := gb608) (o := .cells #[.int .u8 a0_0, .int .u8 a0_1, .int .u8 a0_2, .int .u8 a0_3, .int .u8 a0_4] 86 (0, 0)) (zqB BK608.out)) : gb608 ≠ gb614)); have n6_ := zA ((by rw [hg]; exact Nat.ne_of_gt (blk_lt (g := gb608) (o := .cells #[.int .u8 a0_0, .int .u8 a0_1, .int .u8 a0_2, .int .u8 a0_3, .int .u8 a0_4] 86 (0, 0)) (zqB BK608.out)) : gb614 ≠ gb608)); clear BK608; clear HB; have BK608 := n0_; have HB := n1_; have BK614 := n2_; have GW614 := n3_; have GE614 := n4_; have NB608_614 := n5_; have NB614_608 := n6_; clear n0_ n1_ n2_ n3_ n4_ n5_ n6_; clear hb hbox hg; have hnb165 := NB614_608.out; have hnc165 := NB608_614.out; have hcz166_0 : w164.cell? ⟨gb614, 0, none⟩ = some (.int .i64 0) := (blk_cell BK614.out 0).trans rfl; have hcz166_1 : w164.cell? ⟨gb614, 1, none⟩ = some (.int .i64 0) := (blk_cell BK614.out 1).trans rfl; have hcz166_2 : w164.cell? ⟨gb614, 2, none⟩ = some (.int .i64 0) := (blk_cell BK614.out 2).trans rfl; have hcz166_3 : w164.cell? ⟨gb614, 3, none⟩ = some (.int .i64 0) := (blk_cell BK614.out 3).trans rfl; have hcz166_4 : w164.cell? ⟨gb614, 4, none⟩ = some (.int .i64 0) := (blk_cell BK614.out 4).trans rfl; have hfz166_0 := blk_frozen BK614.out 0; have hfz166_1 := blk_frozen BK614.out 1; have hfz166_2 := blk_frozen BK614.out 2; have hfz166_3 := blk_frozen BK614.out 3; have hfz166_4 := blk_frozen BK614.out 4) | (go_at_call 30; (with_reducible refine (punch_Bars.calls t609 t610 t611 t612 t613 t615 t616 t617 t618 t619 _ A4.out).mono ?_); rintro e w167 ⟨rfl, hb⟩; have n0_ := zA (blk_below (g := gb608) (o := .cells #[.int .u8 a0_0, .int .u8 a0_1, .int .u8 a0_2, .int .u8 a0_3, .int .u8 a0_4] 86 (0, 0)) (by (with_reducible repeat (first | refine blk_drewN ?_ _ | refine blk_drew ?_ | refine blk_alloc ?_ _)); refine blk_far ?_ NB608_614.out _; (with_reducible repeat (first | refine blk_drewN ?_ _ | refine blk_drew ?_ | refine blk_alloc ?_ _)); refine blk_far ?_ NB608_614.out _; (with_reducible repeat (first | refine blk_drewN ?_ _ | refine blk_drew ?_ | refine blk_alloc ?_ _)); refine blk_far ?_ NB608_614.out _; (with_reducible repeat (first | refine blk_drewN ?_ _ | refine blk_drew ?_ | refine blk_alloc ?_ _)); refine blk_far ?_ NB608_614.out _; (with_reducible repeat (first | refine blk_drewN ?_ _ | refine blk_drew ?_ | refine blk_alloc ?_ _)); refine blk_far ?_ NB608_614.out _; (with_reducible repeat (first | refine blk_drewN ?_ _ | refine blk_drew ?_ | refine blk_alloc ?_ _)); exact BK608.out) hb); have n1_ := zA (blk_below (g := gb614) (o := .cells #[.int .i64 t609, .int .i64 t610, .int .i64 t611, .int .i64 t612, .int .i64 t613] 57 (0, 0)) (by (with_reducible repeat (first | refine blk_drewN ?_ _ | refine blk_drew ?_ | refine blk_alloc ?_ _)); refine blk_put (cs := #[.int .i64 t609, .int .i64 t610, .int .i64 t611, .int .i64 t612, .int .i64 0]) ?_ 4 _ rfl; (with_reducible repeat (first | refine blk_drewN ?_ _ | refine blk_drew ?_ | refine blk_alloc ?_ _)); refine blk_put (cs := #[.int .i64 t609, .int .i64 t610, .int .i64 t611, .int .i64 0, .int .i64 0]) ?_ 3 _ rfl; (with_reducible repeat (first | refine blk_drewN ?_ _ | refine blk_drew ?_ | refine blk_alloc ?_ _)); refine blk_put (cs := #[.int .i64 t609, .int .i64 t610, .int .i64 0, .int .i64 0, .int .i64 0]) ?_ 2 _ rfl; (with_reducible repeat (first | refine blk_drewN ?_ _ | refine blk_drew ?_ | refine blk_alloc ?_ _)); refine blk_put (cs := #[.int .i64 t609, .int .i64 0, .int .i64 0, .int .i64 0, .int .i64 0]) ?_ 1 _ rfl; (with_reducible repeat (first | refine blk_drewN ?_ _ | refine blk_drew ?_ | refine blk_alloc ?_ _)); refine blk_put (cs := #[.int .i64 0, .int .i64 0, .int .i64 0, .int .i64 0, .int .i64 0]) ?_ 0 _ rfl; (with_reducible repeat (first | refine blk_drewN ?_ _ | refine blk_drew ?_ | refine blk_alloc ?_ _)); exact BK614.out) hb); have n2_ := zA (below_step (zqH HB.out GE608.out GE614.out) hb); clear BK608; clear BK614; clear HB; have BK608 := n0_; have BK614 := n1_; have HB := n2_; clear n0_ n1_ n2_; (try clear hb); (try clear hb2); (try clear hk); (try clear hi)) | ((with_reducible refine gate_dst (N := 6) rfl ?_); (try (refine gate_guard (by rfl) ?_; dsimp only)); refine box_event ?hg (N := 6) ?hd (cs := #[.int .i64 0, .int .i64 0]) (t := 55) ?hr ?_; (case hd => rfl); (case hg => rfl); (case hr => first | (go_simp; done) | (go_simp; rfl)); intro gb620 hg w168 hbox hb; have n0_ := zA (blk_below (g := gb608) (o := .cells #[.int .u8 a0_0, .int .u8 a0_1, .int .u8 a0_2, .int .u8 a0_3, .int .u8 a0_4] 86 (0, 0)) (zqB BK608.out) hb); have n1_ := zA (blk_below (g := gb614) (o := .cells #[.int .i64 t609, .int .i64 t610, .int .i64 t611, .int .i64 t612, .int .i64 t613] 57 (0, 0)) (zqB BK614.out) hb); have n2_ := zA (below_step (zqH HB.out GE608.out GE614.out) hb); have n3_ := zA (hbox); have n4_ := zA ((by rw [hg]; exact (below_size (zqH HB.out GE608.out GE614.out)) : w.heap.size ≤ gb620)); have n5_ := zA ((by rw [hg]; exact (below_size (zqH HB.out GE608.out GE614.out)) : w.heap.size ≤ gb620)); have n6_ := zA ((by rw [hg]; exact Nat.ne_of_lt (blk_lt (g := gb608) (o := .cells #[.int .u8 a0_0, .int .u8 a0_1, .int .u8 a0_2, .int .u8 a0_3, .int .u8 a0_4] 86 (0, 0)) (zqB BK608.out)) : gb608 ≠ gb620)); have n7_ := zA ((by rw [hg]; exact Nat.ne_of_gt (blk_lt (g := gb608) (o := .cells #[.int .u8 a0_0, .int .u8 a0_1, .int .u8 a0_2, .int .u8 a0_3, .int .u8 a0_4] 86 (0, 0)) (zqB BK608.out)) : gb620 ≠ gb608)); have n8_ := zA ((by rw [hg]; exact Nat.ne_of_lt (blk_lt (g := gb614) (o := .cells #[.int .i64 t609, .int .i64 t610, .int .i64 t611, .int .i64 t612, .int .i64 t613] 57 (0, 0)) (zqB BK614.out)) : gb614 ≠ gb620)); have n9_ := zA ((by rw [hg]; exact Nat.ne_of_gt (blk_lt (g := gb614) (o := .cells #[.int .i64 t609, .int .i64 t610, .int .i64 t611, .int .i64 t612, .int .i64 t613] 57 (0, 0)) (zqB BK614.out)) : gb620 ≠ gb614)); clear BK608; clear BK614; clear HB; have BK608 := n0_; have BK614 := n1_; have HB := n2_; have BK620 := n3_; have GW620 := n4_; have GE620 := n5_; have NB608_620 := n6_; have NB620_608 := n7_; have NB614_620 := n8_; have NB620_614 := n9_; clear n0_ n1_ n2_ n3_ n4_ n5_ n6_ n7_ n8_ n9_; clear hb hbox hg) | ((with_reducible refine gate_dst (N := 7) rfl ?_); (try (refine gate_guard (by rfl) ?_; dsimp only)); refine box_event ?hg (N := 7) ?hd (cs := #[.int .i64 0, .int .i64 0]) (t := 55) ?hr ?_; (case hd => rfl); (case hg => rfl); (case hr => first | (go_simp; done) | (go_simp; rfl)); intro gb621 hg w169 hbox hb; have n0_ := zA (blk_below (g := gb608) (o := .cells #[.int .u8 a0_0, .int .u8 a0_1, .int .u8 a0_2, .int .u8 a0_3, .int .u8 a0_4] 86 (0, 0)) (zqB BK608.out) hb); have n1_ := zA (blk_below (g := gb614) (o := .cells #[.int .i64 t609, .int .i64 t610, .int .i64 t611, .int .i64 t612, .int .i64 t613] 57 (0, 0)) (zqB BK614.out) hb); have n2_ := zA (blk_below (g := gb620) (o := .cells #[.int .i64 0, .int .i64 0] 55 (0, 0)) (zqB BK620.out) hb); have n3_ := zA (below_step (zqI HB.out GE608.out GE614.out GE620.out) hb); have n4_ := zA (hbox); have n5_ := zA ((by rw [hg]; exact (below_size (zqI HB.out GE608.out GE614.out GE620.out)) : w.heap.size ≤ gb621)); have n6_ := zA ((by rw [hg]; exact (below_size (zqI HB.out GE608.out GE614.out GE620.out)) : w.heap.size ≤ gb621)); have n7_ := zA ((by rw [hg]; exact Nat.ne_of_lt (blk_lt (g := gb608) (o := .cells #[.int .u8 a0_0, .int .u8 a0_1, .int .u8 a0_2, .int .u8 a0_3, .int .u8 a0_4] 86 (0, 0)) (zqB BK608.out)) : gb608 ≠ gb621)); have n8_ := zA ((by rw [hg]; exact Nat.ne_of_gt (blk_lt (g := gb608) (o := .cells #[.int .u8 a0_0, .int .u8 a0_1, .int .u8 a0_2, .int .u8 a0_3, .int .u8 a0_4] 86 (0, 0)) (zqB BK608.out)) : gb621 ≠ gb608)); have n9_ := zA ((by rw [hg]; exact Nat.ne_of_lt (blk_lt (g := gb614) (o := .cells #[.int .i64 t609, .int .i64 t610, .int .i64 t611, .int .i64 t612, .int .i64 t613] 57 (0, 0)) (zqB BK614.out)) : gb614 ≠ gb621)); have n10_ := zA ((by rw [hg]; exact Nat.ne_of_gt (blk_lt (g := gb614) (o := .cells #[.int .i64 t609, .int .i64 t610, .int .i64 t611, .int .i64 t612, .int .i64 t613] 57 (0, 0)) (zqB BK614.out)) : gb621 ≠ gb614)); have n11_ := zA ((by rw [hg]; exact Nat.ne_of_lt (blk_lt (g := gb620) (o := .cells #[.int .i64 0, .int .i64 0] 55 (0, 0)) (zqB BK620.out)) : gb620 ≠ gb621)); have n12_ := zA ((by rw [hg]; exact Nat.ne_of_gt (blk_lt (g := gb620) (o := .cells #[.int .i64 0, .int .i64 0] 55 (0, 0)) (zqB BK620.out)) : gb621 ≠ gb620)); clear BK608; clear BK614; clear BK620; clear HB; have BK608 := n0_; have BK614 := n1_; have BK620 := n2_; have HB := n3_; have BK621 := n4_; have GW621 := n5_; have GE621 := n6_; have NB608_621 := n7_; have NB621_608 := n8_; have NB614_621 := n9_; have NB621_614 := n10_; have NB620_621 := n11_; have NB621_620 := n12_; clear n0_ n1_ n2_ n3_ n4_ n5_ n6_ n7_ n8_ n9_ n10_ n11_ n12_; clear hb hbox hg; have hnb170 := NB620_608.out; have hnc170 := NB608_620.out; have hnb171 := NB620_614.out; have hnc171 := NB614_620.out; have hnb172 := NB620_621.out; have hnc172 := NB621_620.out; have hcz173_0 : w169.cell? ⟨gb620, 0, none⟩ = some (.int .i64 0) := (blk_cell BK620.out 0).trans rfl; have hcz173_1 : w169.cell? ⟨gb620, 1, none⟩ = some (.int .i64 0) := (blk_cell BK620.out 1).trans rfl; have hfz173_0 := blk_frozen BK620.out 0; have hfz173_1 := blk_frozen BK620.out 1; have hnb174 := NB621_608.out; have hnc174 := NB608_621.out; have hnb175 := NB621_614.out; have hnc175 := NB614_621.out; have hcz176_0 : w169.cell? ⟨gb621, 0, none⟩ = some (.int .i64 0) := (blk_cell BK621.out 0).trans rfl; have hcz176_1 : w169.cell? ⟨gb621, 1, none⟩ = some (.int .i64 0) := (blk_cell BK621.out 1).trans rfl; have hfz176_0 := blk_frozen BK621.out 0; have hfz176_1 := blk_frozen BK621.out 1) | (go_at_call 15; (with_reducible refine (pianolalaw03_works.calls  t622 _ A160.out).mono ?_); rintro e w177 ⟨rfl, hb⟩; have n0_ := zA (blk_below (g := gb608) (o := .cells #[.int .u8 a0_0, .int .u8 a0_1, .int .u8 a0_2, .int .u8 a0_3, .int .u8 a0_4] 86 (0, 0)) (by (with_reducible repeat (first | refine blk_drewN ?_ _ | refine blk_drew ?_ | refine blk_alloc ?_ _)); refine blk_far ?_ NB608_621.out _; (with_reducible repeat (first | refine blk_drewN ?_ _ | refine blk_drew ?_ | refine blk_alloc ?_ _)); refine blk_far ?_ NB608_621.out _; (with_reducible repeat (first | refine blk_drewN ?_ _ | refine blk_drew ?_ | refine blk_alloc ?_ _)); refine blk_far ?_ NB608_620.out _; (with_reducible repeat (first | refine blk_drewN ?_ _ | refine blk_drew ?_ | refine blk_alloc ?_ _)); refine blk_far ?_ NB608_620.out _; (with_reducible repeat (first | refine blk_drewN ?_ _ | refine blk_drew ?_ | refine blk_alloc ?_ _)); exact BK608.out) hb); have n1_ := zA (blk_below (g := gb614) (o := .cells #[.int .i64 t609, .int .i64 t610, .int .i64 t611, .int .i64 t612, .int .i64 t613] 57 (0, 0)) (by (with_reducible repeat (first | refine blk_drewN ?_ _ | refine blk_drew ?_ | refine blk_alloc ?_ _)); refine blk_far ?_ NB614_621.out _; (with_reducible repeat (first | refine blk_drewN ?_ _ | refine blk_drew ?_ | refine blk_alloc ?_ _)); refine blk_far ?_ NB614_621.out _; (with_reducible repeat (first | refine blk_drewN ?_ _ | refine blk_drew ?_ | refine blk_alloc ?_ _)); refine blk_far ?_ NB614_620.out _; (with_reducible repeat (first | refine blk_drewN ?_ _ | refine blk_drew ?_ | refine blk_alloc ?_ _)); refine blk_far ?_ NB614_620.out _; (with_reducible repeat (first | refine blk_drewN ?_ _ | refine blk_drew ?_ | refine blk_alloc ?_ _)); exact BK614.out) hb); have n2_ := zA (blk_below (g := gb620) (o := .cells #[.int .i64 t615, .int .i64 t616] 55 (0, 0)) (by (with_reducible repeat (first | refine blk_drewN ?_ _ | refine blk_drew ?_ | refine blk_alloc ?_ _)); refine blk_far ?_ NB620_621.out _; (with_reducible repeat (first | refine blk_drewN ?_ _ | refine blk_drew ?_ | refine blk_alloc ?_ _)); refine blk_far ?_ NB620_621.out _; (with_reducible repeat (first | refine blk_drewN ?_ _ | refine blk_drew ?_ | refine blk_alloc ?_ _)); refine blk_put (cs := #[.int .i64 t615, .int .i64 0]) ?_ 1 _ rfl; (with_reducible repeat (first | refine blk_drewN ?_ _ | refine blk_drew ?_ | refine blk_alloc ?_ _)); refine blk_put (cs := #[.int .i64 0, .int .i64 0]) ?_ 0 _ rfl; (with_reducible repeat (first | refine blk_drewN ?_ _ | refine blk_drew ?_ | refine blk_alloc ?_ _)); exact BK620.out) hb); have n3_ := zA (blk_below (g := gb621) (o := .cells #[.int .i64 t617, .int .i64 t618] 55 (0, 0)) (by (with_reducible repeat (first | refine blk_drewN ?_ _ | refine blk_drew ?_ | refine blk_alloc ?_ _)); refine blk_put (cs := #[.int .i64 t617, .int .i64 0]) ?_ 1 _ rfl; (with_reducible repeat (first | refine blk_drewN ?_ _ | refine blk_drew ?_ | refine blk_alloc ?_ _)); refine blk_put (cs := #[.int .i64 0, .int .i64 0]) ?_ 0 _ rfl; (with_reducible repeat (first | refine blk_drewN ?_ _ | refine blk_drew ?_ | refine blk_alloc ?_ _)); refine blk_far ?_ NB621_620.out _; (with_reducible repeat (first | refine blk_drewN ?_ _ | refine blk_drew ?_ | refine blk_alloc ?_ _)); refine blk_far ?_ NB621_620.out _; (with_reducible repeat (first | refine blk_drewN ?_ _ | refine blk_drew ?_ | refine blk_alloc ?_ _)); exact BK621.out) hb); have n4_ := zA (below_step (zqJ HB.out GE608.out GE614.out GE620.out GE621.out) hb); clear BK608; clear BK614; clear BK620; clear BK621; clear HB; have BK608 := n0_; have BK614 := n1_; have BK620 := n2_; have BK621 := n3_; have HB := n4_; clear n0_ n1_ n2_ n3_ n4_; (try clear hb); (try clear hb2); (try clear hk); (try clear hi)))
   repeat (go_quiet (first | ((with_reducible refine gate_dst (N := 2) rfl ?_); (try (refine gate_guard (by rfl) ?_; dsimp only)); refine box_event ?hg (N := 2) ?hd (cs := #[.int .u8 a0_0, .int .u8 a0_1, .int .u8 a0_2, .int .u8 a0_3, .int .u8 a0_4]) (t := 86) ?hr ?_; (case hd => rfl); (case hg => rfl); (case hr => first | (go_simp; done) | (go_simp; rfl)); intro gb608 hg w161 hbox hb; have n0_ := zA (below_step (zqA HB.out) hb); have n1_ := zA (hbox); have n2_ := zA ((by rw [hg]; exact (below_size (zqA HB.out)) : w.heap.size ≤ gb608)); have n3_ := zA ((by rw [hg]; exact (below_size (zqA HB.out)) : w.heap.size ≤ gb608)); clear HB; have HB := n0_; have BK608 := n1_; have GW608 := n2_; have GE608 := n3_; clear n0_ n1_ n2_ n3_; clear hb hbox hg; have hcz162_0 : w161.cell? ⟨gb608, 0, none⟩ = some (.int .u8 a0_0) := (blk_cell BK608.out 0).trans rfl; have hcz162_1 : w161.cell? ⟨gb608, 1, none⟩ = some (.int .u8 a0_1) := (blk_cell BK608.out 1).trans rfl; have hcz162_2 : w161.cell? ⟨gb608, 2, none⟩ = some (.int .u8 a0_2) := (blk_cell BK608.out 2).trans rfl; have hcz162_3 : w161.cell? ⟨gb608, 3, none⟩ = some (.int .u8 a0_3) := (blk_cell BK608.out 3).trans rfl; have hcz162_4 : w161.cell? ⟨gb608, 4, none⟩ = some (.int .u8 a0_4) := (blk_cell BK608.out 4).trans rfl; have hfz162_0 := blk_frozen BK608.out 0; have hfz162_1 := blk_frozen BK608.out 1; have hfz162_2 := blk_frozen BK608.out 2; have hfz162_3 := blk_frozen BK608.out 3; have hfz162_4 := blk_frozen BK608.out 4) | (go_at_call 42; (with_reducible refine (pianolalaw03_Sheet_made.calls a0_0 a0_1 a0_2 a0_3 a0_4 t609 t610 t611 t612 t613 _ A3.out).mono ?_); rintro e w163 ⟨rfl, hb⟩; have n0_ := zA (blk_below (g := gb608) (o := .cells #[.int .u8 a0_0, .int .u8 a0_1, .int .u8 a0_2, .int .u8 a0_3, .int .u8 a0_4] 86 (0, 0)) (zqB BK608.out) hb); have n1_ := zA (below_step (zqG HB.out GE608.out) hb); clear BK608; clear HB; have BK608 := n0_; have HB := n1_; clear n0_ n1_; (try clear hb); (try clear hb2); (try clear hk); (try clear hi)) | ((with_reducible refine gate_dst (N := 5) rfl ?_); (try (refine gate_guard (by rfl) ?_; dsimp only)); refine box_event ?hg (N := 5) ?hd (cs := #[.int .i64 0, .int .i64 0, .int .i64 0, .int .i64 0, .int .i64 0]) (t := 57) ?hr ?_; (case hd => rfl); (case hg => rfl); (case hr => first | (go_simp; done) | (go_simp; rfl)); intro gb614 hg w164 hbox hb; have n0_ := zA (blk_below (g := gb608) (o := .cells #[.int .u8 a0_0, .int .u8 a0_1, .int .u8 a0_2, .int .u8 a0_3, .int .u8 a0_4] 86 (0, 0)) (zqB BK608.out) hb); have n1_ := zA (below_step (zqG HB.out GE608.out) hb); have n2_ := zA (hbox); have n3_ := zA ((by rw [hg]; exact (below_size (zqG HB.out GE608.out)) : w.heap.size ≤ gb614)); have n4_ := zA ((by rw [hg]; exact (below_size (zqG HB.out GE608.out)) : w.heap.size ≤ gb614)); have n5_ := zA ((by rw [hg]; exact Nat.ne_of_lt (blk_lt (g := gb608) (o := .cells #[.int .u8 a0_0, .int .u8 a0_1, .int .u8 a0_2, .int .u8 a0_3, .int .u8 a0_4] 86 (0, 0)) (zqB BK608.out)) : gb608 ≠ gb614)); have n6_ := zA ((by rw [hg]; exact Nat.ne_of_gt (blk_lt (g := gb608) (o := .cells #[.int .u8 a0_0, .int .u8 a0_1, .int .u8 a0_2, .int .u8 a0_3, .int .u8 a0_4] 86 (0, 0)) (zqB BK608.out)) : gb614 ≠ gb608)); clear BK608; clear HB; have BK608 := n0_; have HB := n1_; have BK614 := n2_; have GW614 := n3_; have GE614 := n4_; have NB608_614 := n5_; have NB614_608 := n6_; clear n0_ n1_ n2_ n3_ n4_ n5_ n6_; clear hb hbox hg; have hnb165 := NB614_608.out; have hnc165 := NB608_614.out; have hcz166_0 : w164.cell? ⟨gb614, 0, none⟩ = some (.int .i64 0) := (blk_cell BK614.out 0).trans rfl; have hcz166_1 : w164.cell? ⟨gb614, 1, none⟩ = some (.int .i64 0) := (blk_cell BK614.out 1).trans rfl; have hcz166_2 : w164.cell? ⟨gb614, 2, none⟩ = some (.int .i64 0) := (blk_cell BK614.out 2).trans rfl; have hcz166_3 : w164.cell? ⟨gb614, 3, none⟩ = some (.int .i64 0) := (blk_cell BK614.out 3).trans rfl; have hcz166_4 : w164.cell? ⟨gb614, 4, none⟩ = some (.int .i64 0) := (blk_cell BK614.out 4).trans rfl; have hfz166_0 := blk_frozen BK614.out 0; have hfz166_1 := blk_frozen BK614.out 1; have hfz166_2 := blk_frozen BK614.out 2; have hfz166_3 := blk_frozen BK614.out 3; have hfz166_4 := blk_frozen BK614.out 4) | (go_at_call 30; (with_reducible refine (punch_Bars.calls t609 t610 t611 t612 t613 t615 t616 t617 t618 t619 _ A4.out).mono ?_); rintro e w167 ⟨rfl, hb⟩; have n0_ := zA (blk_below (g := gb608) (o := .cells #[.int .u8 a0_0, .int .u8 a0_1, .int .u8 a0_2, .int .u8 a0_3, .int .u8 a0_4] 86 (0, 0)) (by (with_reducible repeat (first | refine blk_drewN ?_ _ | refine blk_drew ?_ | refine blk_alloc ?_ _)); refine blk_far ?_ NB608_614.out _; (with_reducible repeat (first | refine blk_drewN ?_ _ | refine blk_drew ?_ | refine blk_alloc ?_ _)); refine blk_far ?_ NB608_614.out _; (with_reducible repeat (first | refine blk_drewN ?_ _ | refine blk_drew ?_ | refine blk_alloc ?_ _)); refine blk_far ?_ NB608_614.out _; (with_reducible repeat (first | refine blk_drewN ?_ _ | refine blk_drew ?_ | refine blk_alloc ?_ _)); refine blk_far ?_ NB608_614.out _; (with_reducible repeat (first | refine blk_drewN ?_ _ | refine blk_drew ?_ | refine blk_alloc ?_ _)); refine blk_far ?_ NB608_614.out _; (with_reducible repeat (first | refine blk_drewN ?_ _ | refine blk_drew ?_ | refine blk_alloc ?_ _)); exact BK608.out) hb); have n1_ := zA (blk_below (g := gb614) (o := .cells #[.int .i64 t609, .int .i64 t610, .int .i64 t611, .int .i64 t612, .int .i64 t613] 57 (0, 0)) (by (with_reducible repeat (first | refine blk_drewN ?_ _ | refine blk_drew ?_ | refine blk_alloc ?_ _)); refine blk_put (cs := #[.int .i64 t609, .int .i64 t610, .int .i64 t611, .int .i64 t612, .int .i64 0]) ?_ 4 _ rfl; (with_reducible repeat (first | refine blk_drewN ?_ _ | refine blk_drew ?_ | refine blk_alloc ?_ _)); refine blk_put (cs := #[.int .i64 t609, .int .i64 t610, .int .i64 t611, .int .i64 0, .int .i64 0]) ?_ 3 _ rfl; (with_reducible repeat (first | refine blk_drewN ?_ _ | refine blk_drew ?_ | refine blk_alloc ?_ _)); refine blk_put (cs := #[.int .i64 t609, .int .i64 t610, .int .i64 0, .int .i64 0, .int .i64 0]) ?_ 2 _ rfl; (with_reducible repeat (first | refine blk_drewN ?_ _ | refine blk_drew ?_ | refine blk_alloc ?_ _)); refine blk_put (cs := #[.int .i64 t609, .int .i64 0, .int .i64 0, .int .i64 0, .int .i64 0]) ?_ 1 _ rfl; (with_reducible repeat (first | refine blk_drewN ?_ _ | refine blk_drew ?_ | refine blk_alloc ?_ _)); refine blk_put (cs := #[.int .i64 0, .int .i64 0, .int .i64 0, .int .i64 0, .int .i64 0]) ?_ 0 _ rfl; (with_reducible repeat (first | refine blk_drewN ?_ _ | refine blk_drew ?_ | refine blk_alloc ?_ _)); exact BK614.out) hb); have n2_ := zA (below_step (zqH HB.out GE608.out GE614.out) hb); clear BK608; clear BK614; clear HB; have BK608 := n0_; have BK614 := n1_; have HB := n2_; clear n0_ n1_ n2_; (try clear hb); (try clear hb2); (try clear hk); (try clear hi)) | ((with_reducible refine gate_dst (N := 6) rfl ?_); (try (refine gate_guard (by rfl) ?_; dsimp only)); refine box_event ?hg (N := 6) ?hd (cs := #[.int .i64 0, .int .i64 0]) (t := 55) ?hr ?_; (case hd => rfl); (case hg => rfl); (case hr => first | (go_simp; done) | (go_simp; rfl)); intro gb620 hg w168 hbox hb; have n0_ := zA (blk_below (g := gb608) (o := .cells #[.int .u8 a0_0, .int .u8 a0_1, .int .u8 a0_2, .int .u8 a0_3, .int .u8 a0_4] 86 (0, 0)) (zqB BK608.out) hb); have n1_ := zA (blk_below (g := gb614) (o := .cells #[.int .i64 t609, .int .i64 t610, .int .i64 t611, .int .i64 t612, .int .i64 t613] 57 (0, 0)) (zqB BK614.out) hb); have n2_ := zA (below_step (zqH HB.out GE608.out GE614.out) hb); have n3_ := zA (hbox); have n4_ := zA ((by rw [hg]; exact (below_size (zqH HB.out GE608.out GE614.out)) : w.heap.size ≤ gb620)); have n5_ := zA ((by rw [hg]; exact (below_size (zqH HB.out GE608.out GE614.out)) : w.heap.size ≤ gb620)); have n6_ := zA ((by rw [hg]; exact Nat.ne_of_lt (blk_lt (g := gb608) (o := .cells #[.int .u8 a0_0, .int .u8 a0_1, .int .u8 a0_2, .int .u8 a0_3, .int .u8 a0_4] 86 (0, 0)) (zqB BK608.out)) : gb608 ≠ gb620)); have n7_ := zA ((by rw [hg]; exact Nat.ne_of_gt (blk_lt (g := gb608) (o := .cells #[.int .u8 a0_0, .int .u8 a0_1, .int .u8 a0_2, .int .u8 a0_3, .int .u8 a0_4] 86 (0, 0)) (zqB BK608.out)) : gb620 ≠ gb608)); have n8_ := zA ((by rw [hg]; exact Nat.ne_of_lt (blk_lt (g := gb614) (o := .cells #[.int .i64 t609, .int .i64 t610, .int .i64 t611, .int .i64 t612, .int .i64 t613] 57 (0, 0)) (zqB BK614.out)) : gb614 ≠ gb620)); have n9_ := zA ((by rw [hg]; exact Nat.ne_of_gt (blk_lt (g := gb614) (o := .cells #[.int .i64 t609, .int .i64 t610, .int .i64 t611, .int .i64 t612, .int .i64 t613] 57 (0, 0)) (zqB BK614.out)) : gb620 ≠ gb614)); clear BK608; clear BK614; clear HB; have BK608 := n0_; have BK614 := n1_; have HB := n2_; have BK620 := n3_; have GW620 := n4_; have GE620 := n5_; have NB608_620 := n6_; have NB620_608 := n7_; have NB614_620 := n8_; have NB620_614 := n9_; clear n0_ n1_ n2_ n3_ n4_ n5_ n6_ n7_ n8_ n9_; clear hb hbox hg) | ((with_reducible refine gate_dst (N := 7) rfl ?_); (try (refine gate_guard (by rfl) ?_; dsimp only)); refine box_event ?hg (N := 7) ?hd (cs := #[.int .i64 0, .int .i64 0]) (t := 55) ?hr ?_; (case hd => rfl); (case hg => rfl); (case hr => first | (go_simp; done) | (go_simp; rfl)); intro gb621 hg w169 hbox hb; have n0_ := zA (blk_below (g := gb608) (o := .cells #[.int .u8 a0_0, .int .u8 a0_1, .int .u8 a0_2, .int .u8 a0_3, .int .u8 a0_4] 86 (0, 0)) (zqB BK608.out) hb); have n1_ := zA (blk_below (g := gb614) (o := .cells #[.int .i64 t609, .int .i64 t610, .int .i64 t611, .int .i64 t612, .int .i64 t613] 57 (0, 0)) (zqB BK614.out) hb); have n2_ := zA (blk_below (g := gb620) (o := .cells #[.int .i64 0, .int .i64 0] 55 (0, 0)) (zqB BK620.out) hb); have n3_ := zA (below_step (zqI HB.out GE608.out GE614.out GE620.out) hb); have n4_ := zA (hbox); have n5_ := zA ((by rw [hg]; exact (below_size (zqI HB.out GE608.out GE614.out GE620.out)) : w.heap.size ≤ gb621)); have n6_ := zA ((by rw [hg]; exact (below_size (zqI HB.out GE608.out GE614.out GE620.out)) : w.heap.size ≤ gb621)); have n7_ := zA ((by rw [hg]; exact Nat.ne_of_lt (blk_lt (g := gb608) (o := .cells #[.int .u8 a0_0, .int .u8 a0_1, .int .u8 a0_2, .int .u8 a0_3, .int .u8 a0_4] 86 (0, 0)) (zqB BK608.out)) : gb608 ≠ gb621)); have n8_ := zA ((by rw [hg]; exact Nat.ne_of_gt (blk_lt (g := gb608) (o := .cells #[.int .u8 a0_0, .int .u8 a0_1, .int .u8 a0_2, .int .u8 a0_3, .int .u8 a0_4] 86 (0, 0)) (zqB BK608.out)) : gb621 ≠ gb608)); have n9_ := zA ((by rw [hg]; exact Nat.ne_of_lt (blk_lt (g := gb614) (o := .cells #[.int .i64 t609, .int .i64 t610, .int .i64 t611, .int .i64 t612, .int .i64 t613] 57 (0, 0)) (zqB BK614.out)) : gb614 ≠ gb621)); have n10_ := zA ((by rw [hg]; exact Nat.ne_of_gt (blk_lt (g := gb614) (o := .cells #[.int .i64 t609, .int .i64 t610, .int .i64 t611, .int .i64 t612, .int .i64 t613] 57 (0, 0)) (zqB BK614.out)) : gb621 ≠ gb614)); have n11_ := zA ((by rw [hg]; exact Nat.ne_of_lt (blk_lt (g := gb620) (o := .cells #[.int .i64 0, .int .i64 0] 55 (0, 0)) (zqB BK620.out)) : gb620 ≠ gb621)); have n12_ := zA ((by rw [hg]; exact Nat.ne_of_gt (blk_lt (g := gb620) (o := .cells #[.int .i64 0, .int .i64 0] 55 (0, 0)) (zqB BK620.out)) : gb621 ≠ gb620)); clear BK608; clear BK614; clear BK620; clear HB; have BK608 := n0_; have BK614 := n1_; have BK620 := n2_; have HB := n3_; have BK621 := n4_; have GW621 := n5_; have GE621 := n6_; have NB608_621 := n7_; have NB621_608 := n8_; have NB614_621 := n9_; have NB621_614 := n10_; have NB620_621 := n11_; have NB621_620 := n12_; clear n0_ n1_ n2_ n3_ n4_ n5_ n6_ n7_ n8_ n9_ n10_ n11_ n12_; clear hb hbox hg; have hnb170 := NB620_608.out; have hnc170 := NB608_620.out; have hnb171 := NB620_614.out; have hnc171 := NB614_620.out; have hnb172 := NB620_621.out; have hnc172 := NB621_620.out; have hcz173_0 : w169.cell? ⟨gb620, 0, none⟩ = some (.int .i64 0) := (blk_cell BK620.out 0).trans rfl; have hcz173_1 : w169.cell? ⟨gb620, 1, none⟩ = some (.int .i64 0) := (blk_cell BK620.out 1).trans rfl; have hfz173_0 := blk_frozen BK620.out 0; have hfz173_1 := blk_frozen BK620.out 1; have hnb174 := NB621_608.out; have hnc174 := NB608_621.out; have hnb175 := NB621_614.out; have hnc175 := NB614_621.out; have hcz176_0 : w169.cell? ⟨gb621, 0, none⟩ = some (.int .i64 0) := (blk_cell BK621.out 0).trans rfl; have hcz176_1 : w169.cell? ⟨gb621, 1, none⟩ = some (.int .i64 0) := (blk_cell BK621.out 1).trans rfl; have hfz176_0 := blk_frozen BK621.out 0; have hfz176_1 := blk_frozen BK621.out 1) | (go_at_call 15; (with_reducible refine (pianolalaw03_works.calls  t622 _ A160.out).mono ?_); rintro e w177 ⟨rfl, hb⟩; have n0_ := zA (blk_below (g := gb608) (o := .cells #[.int .u8 a0_0, .int .u8 a0_1, .int .u8 a0_2, .int .u8 a0_3, .int .u8 a0_4] 86 (0, 0)) (by (with_reducible repeat (first | refine blk_drewN ?_ _ | refine blk_drew ?_ | refine blk_alloc ?_ _)); refine blk_far ?_ NB608_621.out _; (with_reducible repeat (first | refine blk_drewN ?_ _ | refine blk_drew ?_ | refine blk_alloc ?_ _)); refine blk_far ?_ NB608_621.out _; (with_reducible repeat (first | refine blk_drewN ?_ _ | refine blk_drew ?_ | refine blk_alloc ?_ _)); refine blk_far ?_ NB608_620.out _; (with_reducible repeat (first | refine blk_drewN ?_ _ | refine blk_drew ?_ | refine blk_alloc ?_ _)); refine blk_far ?_ NB608_620.out _; (with_reducible repeat (first | refine blk_drewN ?_ _ | refine blk_drew ?_ | refine blk_alloc ?_ _)); exact BK608.out) hb); have n1_ := zA (blk_below (g := gb614) (o := .cells #[.int .i64 t609, .int .i64 t610, .int .i64 t611, .int .i64 t612, .int .i64 t613] 57 (0, 0)) (by (with_reducible repeat (first | refine blk_drewN ?_ _ | refine blk_drew ?_ | refine blk_alloc ?_ _)); refine blk_far ?_ NB614_621.out _; (with_reducible repeat (first | refine blk_drewN ?_ _ | refine blk_drew ?_ | refine blk_alloc ?_ _)); refine blk_far ?_ NB614_621.out _; (with_reducible repeat (first | refine blk_drewN ?_ _ | refine blk_drew ?_ | refine blk_alloc ?_ _)); refine blk_far ?_ NB614_620.out _; (with_reducible repeat (first | refine blk_drewN ?_ _ | refine blk_drew ?_ | refine blk_alloc ?_ _)); refine blk_far ?_ NB614_620.out _; (with_reducible repeat (first | refine blk_drewN ?_ _ | refine blk_drew ?_ | refine blk_alloc ?_ _)); exact BK614.out) hb); have n2_ := zA (blk_below (g := gb620) (o := .cells #[.int .i64 t615, .int .i64 t616] 55 (0, 0)) (by (with_reducible repeat (first | refine blk_drewN ?_ _ | refine blk_drew ?_ | refine blk_alloc ?_ _)); refine blk_far ?_ NB620_621.out _; (with_reducible repeat (first | refine blk_drewN ?_ _ | refine blk_drew ?_ | refine blk_alloc ?_ _)); refine blk_far ?_ NB620_621.out _; (with_reducible repeat (first | refine blk_drewN ?_ _ | refine blk_drew ?_ | refine blk_alloc ?_ _)); refine blk_put (cs := #[.int .i64 t615, .int .i64 0]) ?_ 1 _ rfl; (with_reducible repeat (first | refine blk_drewN ?_ _ | refine blk_drew ?_ | refine blk_alloc ?_ _)); refine blk_put (cs := #[.int .i64 0, .int .i64 0]) ?_ 0 _ rfl; (with_reducible repeat (first | refine blk_drewN ?_ _ | refine blk_drew ?_ | refine blk_alloc ?_ _)); exact BK620.out) hb); have n3_ := zA (blk_below (g := gb621) (o := .cells #[.int .i64 t617, .int .i64 t618] 55 (0, 0)) (by (with_reducible repeat (first | refine blk_drewN ?_ _ | refine blk_drew ?_ | refine blk_alloc ?_ _)); refine blk_put (cs := #[.int .i64 t617, .int .i64 0]) ?_ 1 _ rfl; (with_reducible repeat (first | refine blk_drewN ?_ _ | refine blk_drew ?_ | refine blk_alloc ?_ _)); refine blk_put (cs := #[.int .i64 0, .int .i64 0]) ?_ 0 _ rfl; (with_reducible repeat (first | refine blk_drewN ?_ _ | refine blk_drew ?_ | refine blk_alloc ?_ _)); refine blk_far ?_ NB621_620.out _; (with_reducible repeat (first | refine blk_drewN ?_ _ | refine blk_drew ?_ | refine blk_alloc ?_ _)); refine blk_far ?_ NB621_620.out _; (with_reducible repeat (first | refine blk_drewN ?_ _ | refine blk_drew ?_ | refine blk_alloc ?_ _)); exact BK621.out) hb); have n4_ := zA (below_step (zqJ HB.out GE608.out GE614.out GE620.out GE621.out) hb); clear BK608; clear BK614; clear BK620; clear BK621; clear HB; have BK608 := n0_; have BK614 := n1_; have BK620 := n2_; have BK621 := n3_; have HB := n4_; clear n0_ n1_ n2_ n3_ n4_; (try clear hb); (try clear hb2); (try clear hk); (try clear hi))); try go_wp2_with (first | ((with_reducible refine gate_dst (N := 2) rfl ?_); (try (refine gate_guard (by rfl) ?_; dsimp only)); refine box_event ?hg (N := 2) ?hd (cs := #[.int .u8 a0_0, .int .u8 a0_1, .int .u8 a0_2, .int .u8 a0_3, .int .u8 a0_4]) (t := 86) ?hr ?_; (case hd => rfl); (case hg => rfl); (case hr => first | (go_simp; done) | (go_simp; rfl)); intro gb608 hg w161 hbox hb; have n0_ := zA (below_step (zqA HB.out) hb); have n1_ := zA (hbox); have n2_ := zA ((by rw [hg]; exact (below_size (zqA HB.out)) : w.heap.size ≤ gb608)); have n3_ := zA ((by rw [hg]; exact (below_size (zqA HB.out)) : w.heap.size ≤ gb608)); clear HB; have HB := n0_; have BK608 := n1_; have GW608 := n2_; have GE608 := n3_; clear n0_ n1_ n2_ n3_; clear hb hbox hg; have hcz162_0 : w161.cell? ⟨gb608, 0, none⟩ = some (.int .u8 a0_0) := (blk_cell BK608.out 0).trans rfl; have hcz162_1 : w161.cell? ⟨gb608, 1, none⟩ = some (.int .u8 a0_1) := (blk_cell BK608.out 1).trans rfl; have hcz162_2 : w161.cell? ⟨gb608, 2, none⟩ = some (.int .u8 a0_2) := (blk_cell BK608.out 2).trans rfl; have hcz162_3 : w161.cell? ⟨gb608, 3, none⟩ = some (.int .u8 a0_3) := (blk_cell BK608.out 3).trans rfl; have hcz162_4 : w161.cell? ⟨gb608, 4, none⟩ = some (.int .u8 a0_4) := (blk_cell BK608.out 4).trans rfl; have hfz162_0 := blk_frozen BK608.out 0; have hfz162_1 := blk_frozen BK608.out 1; have hfz162_2 := blk_frozen BK608.out 2; have hfz162_3 := blk_frozen BK608.out 3; have hfz162_4 := blk_frozen BK608.out 4) | (go_at_call 42; (with_reducible refine (pianolalaw03_Sheet_made.calls a0_0 a0_1 a0_2 a0_3 a0_4 t609 t610 t611 t612 t613 _ A3.out).mono ?_); rintro e w163 ⟨rfl, hb⟩; have n0_ := zA (blk_below (g := gb608) (o := .cells #[.int .u8 a0_0, .int .u8 a0_1, .int .u8 a0_2, .int .u8 a0_3, .int .u8 a0_4] 86 (0, 0)) (zqB BK608.out) hb); have n1_ := zA (below_step (zqG HB.out GE608.out) hb); clear BK608; clear HB; have BK608 := n0_; have HB := n1_; clear n0_ n1_; (try clear hb); (try clear hb2); (try clear hk); (try clear hi)) | ((with_reducible refine gate_dst (N := 5) rfl ?_); (try (refine gate_guard (by rfl) ?_; dsimp only)); refine box_event ?hg (N := 5) ?hd (cs := #[.int .i64 0, .int .i64 0, .int .i64 0, .int .i64 0, .int .i64 0]) (t := 57) ?hr ?_; (case hd => rfl); (case hg => rfl); (case hr => first | (go_simp; done) | (go_simp; rfl)); intro gb614 hg w164 hbox hb; have n0_ := zA (blk_below (g := gb608) (o := .cells #[.int .u8 a0_0, .int .u8 a0_1, .int .u8 a0_2, .int .u8 a0_3, .int .u8 a0_4] 86 (0, 0)) (zqB BK608.out) hb); have n1_ := zA (below_step (zqG HB.out GE608.out) hb); have n2_ := zA (hbox); have n3_ := zA ((by rw [hg]; exact (below_size (zqG HB.out GE608.out)) : w.heap.size ≤ gb614)); have n4_ := zA ((by rw [hg]; exact (below_size (zqG HB.out GE608.out)) : w.heap.size ≤ gb614)); have n5_ := zA ((by rw [hg]; exact Nat.ne_of_lt (blk_lt (g := gb608) (o := .cells #[.int .u8 a0_0, .int .u8 a0_1, .int .u8 a0_2, .int .u8 a0_3, .int .u8 a0_4] 86 (0, 0)) (zqB BK608.out)) : gb608 ≠ gb614)); have n6_ := zA ((by rw [hg]; exact Nat.ne_of_gt (blk_lt (g := gb608) (o := .cells #[.int .u8 a0_0, .int .u8 a0_1, .int .u8 a0_2, .int .u8 a0_3, .int .u8 a0_4] 86 (0, 0)) (zqB BK608.out)) : gb614 ≠ gb608)); clear BK608; clear HB; have BK608 := n0_; have HB := n1_; have BK614 := n2_; have GW614 := n3_; have GE614 := n4_; have NB608_614 := n5_; have NB614_608 := n6_; clear n0_ n1_ n2_ n3_ n4_ n5_ n6_; clear hb hbox hg; have hnb165 := NB614_608.out; have hnc165 := NB608_614.out; have hcz166_0 : w164.cell? ⟨gb614, 0, none⟩ = some (.int .i64 0) := (blk_cell BK614.out 0).trans rfl; have hcz166_1 : w164.cell? ⟨gb614, 1, none⟩ = some (.int .i64 0) := (blk_cell BK614.out 1).trans rfl; have hcz166_2 : w164.cell? ⟨gb614, 2, none⟩ = some (.int .i64 0) := (blk_cell BK614.out 2).trans rfl; have hcz166_3 : w164.cell? ⟨gb614, 3, none⟩ = some (.int .i64 0) := (blk_cell BK614.out 3).trans rfl; have hcz166_4 : w164.cell? ⟨gb614, 4, none⟩ = some (.int .i64 0) := (blk_cell BK614.out 4).trans rfl; have hfz166_0 := blk_frozen BK614.out 0; have hfz166_1 := blk_frozen BK614.out 1; have hfz166_2 := blk_frozen BK614.out 2; have hfz166_3 := blk_frozen BK614.out 3; have hfz166_4 := blk_frozen BK614.out 4) | (go_at_call 30; (with_reducible refine (punch_Bars.calls t609 t610 t611 t612 t613 t615 t616 t617 t618 t619 _ A4.out).mono ?_); rintro e w167 ⟨rfl, hb⟩; have n0_ := zA (blk_below (g := gb608) (o := .cells #[.int .u8 a0_0, .int .u8 a0_1, .int .u8 a0_2, .int .u8 a0_3, .int .u8 a0_4] 86 (0, 0)) (by (with_reducible repeat (first | refine blk_drewN ?_ _ | refine blk_drew ?_ | refine blk_alloc ?_ _)); refine blk_far ?_ NB608_614.out _; (with_reducible repeat (first | refine blk_drewN ?_ _ | refine blk_drew ?_ | refine blk_alloc ?_ _)); refine blk_far ?_ NB608_614.out _; (with_reducible repeat (first | refine blk_drewN ?_ _ | refine blk_drew ?_ | refine blk_alloc ?_ _)); refine blk_far ?_ NB608_614.out _; (with_reducible repeat (first | refine blk_drewN ?_ _ | refine blk_drew ?_ | refine blk_alloc ?_ _)); refine blk_far ?_ NB608_614.out _; (with_reducible repeat (first | refine blk_drewN ?_ _ | refine blk_drew ?_ | refine blk_alloc ?_ _)); refine blk_far ?_ NB608_614.out _; (with_reducible repeat (first | refine blk_drewN ?_ _ | refine blk_drew ?_ | refine blk_alloc ?_ _)); exact BK608.out) hb); have n1_ := zA (blk_below (g := gb614) (o := .cells #[.int .i64 t609, .int .i64 t610, .int .i64 t611, .int .i64 t612, .int .i64 t613] 57 (0, 0)) (by (with_reducible repeat (first | refine blk_drewN ?_ _ | refine blk_drew ?_ | refine blk_alloc ?_ _)); refine blk_put (cs := #[.int .i64 t609, .int .i64 t610, .int .i64 t611, .int .i64 t612, .int .i64 0]) ?_ 4 _ rfl; (with_reducible repeat (first | refine blk_drewN ?_ _ | refine blk_drew ?_ | refine blk_alloc ?_ _)); refine blk_put (cs := #[.int .i64 t609, .int .i64 t610, .int .i64 t611, .int .i64 0, .int .i64 0]) ?_ 3 _ rfl; (with_reducible repeat (first | refine blk_drewN ?_ _ | refine blk_drew ?_ | refine blk_alloc ?_ _)); refine blk_put (cs := #[.int .i64 t609, .int .i64 t610, .int .i64 0, .int .i64 0, .int .i64 0]) ?_ 2 _ rfl; (with_reducible repeat (first | refine blk_drewN ?_ _ | refine blk_drew ?_ | refine blk_alloc ?_ _)); refine blk_put (cs := #[.int .i64 t609, .int .i64 0, .int .i64 0, .int .i64 0, .int .i64 0]) ?_ 1 _ rfl; (with_reducible repeat (first | refine blk_drewN ?_ _ | refine blk_drew ?_ | refine blk_alloc ?_ _)); refine blk_put (cs := #[.int .i64 0, .int .i64 0, .int .i64 0, .int .i64 0, .int .i64 0]) ?_ 0 _ rfl; (with_reducible repeat (first | refine blk_drewN ?_ _ | refine blk_drew ?_ | refine blk_alloc ?_ _)); exact BK614.out) hb); have n2_ := zA (below_step (zqH HB.out GE608.out GE614.out) hb); clear BK608; clear BK614; clear HB; have BK608 := n0_; have BK614 := n1_; have HB := n2_; clear n0_ n1_ n2_; (try clear hb); (try clear hb2); (try clear hk); (try clear hi)) | ((with_reducible refine gate_dst (N := 6) rfl ?_); (try (refine gate_guard (by rfl) ?_; dsimp only)); refine box_event ?hg (N := 6) ?hd (cs := #[.int .i64 0, .int .i64 0]) (t := 55) ?hr ?_; (case hd => rfl); (case hg => rfl); (case hr => first | (go_simp; done) | (go_simp; rfl)); intro gb620 hg w168 hbox hb; have n0_ := zA (blk_below (g := gb608) (o := .cells #[.int .u8 a0_0, .int .u8 a0_1, .int .u8 a0_2, .int .u8 a0_3, .int .u8 a0_4] 86 (0, 0)) (zqB BK608.out) hb); have n1_ := zA (blk_below (g := gb614) (o := .cells #[.int .i64 t609, .int .i64 t610, .int .i64 t611, .int .i64 t612, .int .i64 t613] 57 (0, 0)) (zqB BK614.out) hb); have n2_ := zA (below_step (zqH HB.out GE608.out GE614.out) hb); have n3_ := zA (hbox); have n4_ := zA ((by rw [hg]; exact (below_size (zqH HB.out GE608.out GE614.out)) : w.heap.size ≤ gb620)); have n5_ := zA ((by rw [hg]; exact (below_size (zqH HB.out GE608.out GE614.out)) : w.heap.size ≤ gb620)); have n6_ := zA ((by rw [hg]; exact Nat.ne_of_lt (blk_lt (g := gb608) (o := .cells #[.int .u8 a0_0, .int .u8 a0_1, .int .u8 a0_2, .int .u8 a0_3, .int .u8 a0_4] 86 (0, 0)) (zqB BK608.out)) : gb608 ≠ gb620)); have n7_ := zA ((by rw [hg]; exact Nat.ne_of_gt (blk_lt (g := gb608) (o := .cells #[.int .u8 a0_0, .int .u8 a0_1, .int .u8 a0_2, .int .u8 a0_3, .int .u8 a0_4] 86 (0, 0)) (zqB BK608.out)) : gb620 ≠ gb608)); have n8_ := zA ((by rw [hg]; exact Nat.ne_of_lt (blk_lt (g := gb614) (o := .cells #[.int .i64 t609, .int .i64 t610, .int .i64 t611, .int .i64 t612, .int .i64 t613] 57 (0, 0)) (zqB BK614.out)) : gb614 ≠ gb620)); have n9_ := zA ((by rw [hg]; exact Nat.ne_of_gt (blk_lt (g := gb614) (o := .cells #[.int .i64 t609, .int .i64 t610, .int .i64 t611, .int .i64 t612, .int .i64 t613] 57 (0, 0)) (zqB BK614.out)) : gb620 ≠ gb614)); clear BK608; clear BK614; clear HB; have BK608 := n0_; have BK614 := n1_; have HB := n2_; have BK620 := n3_; have GW620 := n4_; have GE620 := n5_; have NB608_620 := n6_; have NB620_608 := n7_; have NB614_620 := n8_; have NB620_614 := n9_; clear n0_ n1_ n2_ n3_ n4_ n5_ n6_ n7_ n8_ n9_; clear hb hbox hg) | ((with_reducible refine gate_dst (N := 7) rfl ?_); (try (refine gate_guard (by rfl) ?_; dsimp only)); refine box_event ?hg (N := 7) ?hd (cs := #[.int .i64 0, .int .i64 0]) (t := 55) ?hr ?_; (case hd => rfl); (case hg => rfl); (case hr => first | (go_simp; done) | (go_simp; rfl)); intro gb621 hg w169 hbox hb; have n0_ := zA (blk_below (g := gb608) (o := .cells #[.int .u8 a0_0, .int .u8 a0_1, .int .u8 a0_2, .int .u8 a0_3, .int .u8 a0_4] 86 (0, 0)) (zqB BK608.out) hb); have n1_ := zA (blk_below (g := gb614) (o := .cells #[.int .i64 t609, .int .i64 t610, .int .i64 t611, .int .i64 t612, .int .i64 t613] 57 (0, 0)) (zqB BK614.out) hb); have n2_ := zA (blk_below (g := gb620) (o := .cells #[.int .i64 0, .int .i64 0] 55 (0, 0)) (zqB BK620.out) hb); have n3_ := zA (below_step (zqI HB.out GE608.out GE614.out GE620.out) hb); have n4_ := zA (hbox); have n5_ := zA ((by rw [hg]; exact (below_size (zqI HB.out GE608.out GE614.out GE620.out)) : w.heap.size ≤ gb621)); have n6_ := zA ((by rw [hg]; exact (below_size (zqI HB.out GE608.out GE614.out GE620.out)) : w.heap.size ≤ gb621)); have n7_ := zA ((by rw [hg]; exact Nat.ne_of_lt (blk_lt (g := gb608) (o := .cells #[.int .u8 a0_0, .int .u8 a0_1, .int .u8 a0_2, .int .u8 a0_3, .int .u8 a0_4] 86 (0, 0)) (zqB BK608.out)) : gb608 ≠ gb621)); have n8_ := zA ((by rw [hg]; exact Nat.ne_of_gt (blk_lt (g := gb608) (o := .cells #[.int .u8 a0_0, .int .u8 a0_1, .int .u8 a0_2, .int .u8 a0_3, .int .u8 a0_4] 86 (0, 0)) (zqB BK608.out)) : gb621 ≠ gb608)); have n9_ := zA ((by rw [hg]; exact Nat.ne_of_lt (blk_lt (g := gb614) (o := .cells #[.int .i64 t609, .int .i64 t610, .int .i64 t611, .int .i64 t612, .int .i64 t613] 57 (0, 0)) (zqB BK614.out)) : gb614 ≠ gb621)); have n10_ := zA ((by rw [hg]; exact Nat.ne_of_gt (blk_lt (g := gb614) (o := .cells #[.int .i64 t609, .int .i64 t610, .int .i64 t611, .int .i64 t612, .int .i64 t613] 57 (0, 0)) (zqB BK614.out)) : gb621 ≠ gb614)); have n11_ := zA ((by rw [hg]; exact Nat.ne_of_lt (blk_lt (g := gb620) (o := .cells #[.int .i64 0, .int .i64 0] 55 (0, 0)) (zqB BK620.out)) : gb620 ≠ gb621)); have n12_ := zA ((by rw [hg]; exact Nat.ne_of_gt (blk_lt (g := gb620) (o := .cells #[.int .i64 0, .int .i64 0] 55 (0, 0)) (zqB BK620.out)) : gb621 ≠ gb620)); clear BK608; clear BK614; clear BK620; clear HB; have BK608 := n0_; have BK614 := n1_; have BK620 := n2_; have HB := n3_; have BK621 := n4_; have GW621 := n5_; have GE621 := n6_; have NB608_621 := n7_; have NB621_608 := n8_; have NB614_621 := n9_; have NB621_614 := n10_; have NB620_621 := n11_; have NB621_620 := n12_; clear n0_ n1_ n2_ n3_ n4_ n5_ n6_ n7_ n8_ n9_ n10_ n11_ n12_; clear hb hbox hg; have hnb170 := NB620_608.out; have hnc170 := NB608_620.out; have hnb171 := NB620_614.out; have hnc171 := NB614_620.out; have hnb172 := NB620_621.out; have hnc172 := NB621_620.out; have hcz173_0 : w169.cell? ⟨gb620, 0, none⟩ = some (.int .i64 0) := (blk_cell BK620.out 0).trans rfl; have hcz173_1 : w169.cell? ⟨gb620, 1, none⟩ = some (.int .i64 0) := (blk_cell BK620.out 1).trans rfl; have hfz173_0 := blk_frozen BK620.out 0; have hfz173_1 := blk_frozen BK620.out 1; have hnb174 := NB621_608.out; have hnc174 := NB608_621.out; have hnb175 := NB621_614.out; have hnc175 := NB614_621.out; have hcz176_0 : w169.cell? ⟨gb621, 0, none⟩ = some (.int .i64 0) := (blk_cell BK621.out 0).trans rfl; have hcz176_1 : w169.cell? ⟨gb621, 1, none⟩ = some (.int .i64 0) := (blk_cell BK621.out 1).trans rfl; have hfz176_0 := blk_frozen BK621.out 0; have hfz176_1 := blk_frozen BK621.out 1) | (go_at_call 15; (with_reducible refine (pianolalaw03_works.calls  t622 _ A160.out).mono ?_); rintro e w177 ⟨rfl, hb⟩; have n0_ := zA (blk_below (g := gb608) (o := .cells #[.int .u8 a0_0, .int .u8 a0_1, .int .u8 a0_2, .int .u8 a0_3, .int .u8 a0_4] 86 (0, 0)) (by (with_reducible repeat (first | refine blk_drewN ?_ _ | refine blk_drew ?_ | refine blk_alloc ?_ _)); refine blk_far ?_ NB608_621.out _; (with_reducible repeat (first | refine blk_drewN ?_ _ | refine blk_drew ?_ | refine blk_alloc ?_ _)); refine blk_far ?_ NB608_621.out _; (with_reducible repeat (first | refine blk_drewN ?_ _ | refine blk_drew ?_ | refine blk_alloc ?_ _)); refine blk_far ?_ NB608_620.out _; (with_reducible repeat (first | refine blk_drewN ?_ _ | refine blk_drew ?_ | refine blk_alloc ?_ _)); refine blk_far ?_ NB608_620.out _; (with_reducible repeat (first | refine blk_drewN ?_ _ | refine blk_drew ?_ | refine blk_alloc ?_ _)); exact BK608.out) hb); have n1_ := zA (blk_below (g := gb614) (o := .cells #[.int .i64 t609, .int .i64 t610, .int .i64 t611, .int .i64 t612, .int .i64 t613] 57 (0, 0)) (by (with_reducible repeat (first | refine blk_drewN ?_ _ | refine blk_drew ?_ | refine blk_alloc ?_ _)); refine blk_far ?_ NB614_621.out _; (with_reducible repeat (first | refine blk_drewN ?_ _ | refine blk_drew ?_ | refine blk_alloc ?_ _)); refine blk_far ?_ NB614_621.out _; (with_reducible repeat (first | refine blk_drewN ?_ _ | refine blk_drew ?_ | refine blk_alloc ?_ _)); refine blk_far ?_ NB614_620.out _; (with_reducible repeat (first | refine blk_drewN ?_ _ | refine blk_drew ?_ | refine blk_alloc ?_ _)); refine blk_far ?_ NB614_620.out _; (with_reducible repeat (first | refine blk_drewN ?_ _ | refine blk_drew ?_ | refine blk_alloc ?_ _)); exact BK614.out) hb); have n2_ := zA (blk_below (g := gb620) (o := .cells #[.int .i64 t615, .int .i64 t616] 55 (0, 0)) (by (with_reducible repeat (first | refine blk_drewN ?_ _ | refine blk_drew ?_ | refine blk_alloc ?_ _)); refine blk_far ?_ NB620_621.out _; (with_reducible repeat (first | refine blk_drewN ?_ _ | refine blk_drew ?_ | refine blk_alloc ?_ _)); refine blk_far ?_ NB620_621.out _; (with_reducible repeat (first | refine blk_drewN ?_ _ | refine blk_drew ?_ | refine blk_alloc ?_ _)); refine blk_put (cs := #[.int .i64 t615, .int .i64 0]) ?_ 1 _ rfl; (with_reducible repeat (first | refine blk_drewN ?_ _ | refine blk_drew ?_ | refine blk_alloc ?_ _)); refine blk_put (cs := #[.int .i64 0, .int .i64 0]) ?_ 0 _ rfl; (with_reducible repeat (first | refine blk_drewN ?_ _ | refine blk_drew ?_ | refine blk_alloc ?_ _)); exact BK620.out) hb); have n3_ := zA (blk_below (g := gb621) (o := .cells #[.int .i64 t617, .int .i64 t618] 55 (0, 0)) (by (with_reducible repeat (first | refine blk_drewN ?_ _ | refine blk_drew ?_ | refine blk_alloc ?_ _)); refine blk_put (cs := #[.int .i64 t617, .int .i64 0]) ?_ 1 _ rfl; (with_reducible repeat (first | refine blk_drewN ?_ _ | refine blk_drew ?_ | refine blk_alloc ?_ _)); refine blk_put (cs := #[.int .i64 0, .int .i64 0]) ?_ 0 _ rfl; (with_reducible repeat (first | refine blk_drewN ?_ _ | refine blk_drew ?_ | refine blk_alloc ?_ _)); refine blk_far ?_ NB621_620.out _; (with_reducible repeat (first | refine blk_drewN ?_ _ | refine blk_drew ?_ | refine blk_alloc ?_ _)); refine blk_far ?_ NB621_620.out _; (with_reducible repeat (first | refine blk_drewN ?_ _ | refine blk_drew ?_ | refine blk_alloc ?_ _)); exact BK621.out) hb); have n4_ := zA (below_step (zqJ HB.out GE608.out GE614.out GE620.out GE621.out) hb); clear BK608; clear BK614; clear BK620; clear BK621; clear HB; have BK608 := n0_; have BK614 := n1_; have BK620 := n2_; have BK621 := n3_; have HB := n4_; clear n0_ n1_ n2_ n3_ n4_; (try clear hb); (try clear hb2); (try clear hk); (try clear hi))))
   go_ret
   exact ⟨zqR, zqJ HB.out GE608.out GE614.out GE620.out GE621.out⟩
  ·
   rw [if_neg c159] at H
   exact absurd ((Option.some.inj H).trans HRT.out) (by decide)end Go.Proofs.Ytegffliopblajaa.P
end
section
namespace Go.Proofs.Ytegffliopblajaa.P
open Go.RowKit Go.Proofs.YtegffliopblajaaW.PrintWords Go.Proofs.YtegffliopblajaaW.PrintLast Go.Proofs.YtegffliopblajaaW.PrintMore
set_option linter.unusedVariables false
set_option linter.unusedSimpArgs false
def c52 (x : S47) : S52 := ⟨x.f0, x.f1⟩
theorem w_succ (i : Nat) (h : i ≤ 1000000000) : wrap64 ((i : Int) + 1) = ((i + 1 : Nat) : Int) := by unfold wrap64; omega
end Go.Proofs.Ytegffliopblajaa.P
end
section
namespace Go.Proofs.Ytegffliopblajaa.P
open Go.RowKit Go.Proofs.YtegffliopblajaaW.PrintWords Go.Proofs.YtegffliopblajaaW.PrintLast Go.Proofs.YtegffliopblajaaW.PrintMore
set_option linter.unusedVariables false
set_option linter.unusedSimpArgs false
theorem loop_ev {α : Type} {F : Nat → Int → Option α} {G : Nat → Option α} {bad : Nat → Bool} {n : Nat} {e r : α}
    (hs : ∀ k i, i < n → F (k + 1) (i : Nat) = if bad i = true then some e else F k ((i + 1 : Nat) : Int)) (hf : ∀ k, F (k + 1) (n : Nat) = G k) (hG : Ev G r) :
    ∀ (m i : Nat), i + m = n → Ev (fun k => F k (i : Nat)) (if (List.range' i m).any bad = true then e else r)
  | 0, i, h => by
    obtain rfl : i = n := by omega
    exact Ev.step hf hG
  | m + 1, i, h => by
    rw [List.range'_succ, List.any_cons]
    cases c : bad i with
    | true =>
      rw [Bool.true_or, if_pos rfl]
      exact Ev.step (f := fun _ => some e) (fun k => (hs k i (by omega)).trans (by rw [if_pos c])) (Ev.now _)
    | false =>
      rw [Bool.false_or]
      exact Ev.step (fun k => (hs k i (by omega)).trans (by rw [if_neg (by rw [c]; decide)])) (loop_ev hs hf hG m (i + 1) (by omega))
def badRule (a b c d e : Int) (l : List S47) (i : Nat) : Bool :=
  decide (wrap64 (wrap64 ((rd_T47 l (i : Nat)).f1 - (rd_T47 l (i : Nat)).f0) * b) > wrap64 (1000 * c)) ||
    (decide (0 < i) && (decide (wrap64 (wrap64 ((rd_T47 l (i : Nat)).f0 - (rd_T47 l (i - 1 : Nat)).f1) * a) < wrap64 (1000 * d)) || decide (wrap64 (wrap64 ((rd_T47 l (i : Nat)).f0 - (rd_T47 l (i - 1 : Nat)).f1) * b) ≥ wrap64 (1000 * e))))
def badGap (l : List S47) (i : Nat) : Bool := decide ((rd_T47 l (i + 1 : Nat)).f0 ≤ (rd_T47 l (i : Nat)).f1)
def holdsR (a b c d e x y : Int) (l : List S47) : Int :=
  if paperOk a b c d e = true ∧ good ⟨x, y⟩ = true then (if l.length > 200 then 5 else if l.length = 0 then 6 else
    if (List.range' 0 l.length).any (fun i => !good (rd_T47 l (i : Nat))) = true then 6 else
    if (rd_T47 l 0).f0 = x ∧ (rd_T47 l (l.length - 1 : Nat)).f1 = y then (if (List.range' 0 (l.length - 1)).any (badGap l) = true then 13 else if (List.range' 0 l.length).any (badRule a b c d e l) = true then 21 else 0) else 13) else 3
theorem w_pred (n : Nat) (h : 0 < n) (h2 : n ≤ 1000000) : wrap64 ((n : Int) - 1) = ((n - 1 : Nat) : Int) := by unfold wrap64; omega
theorem drop1_at (l : List S47) (i : Nat) : rd_T47 (l.drop 1) (i : Nat) = rd_T47 l (i + 1 : Nat) := by
  unfold rd_T47
  rw [List.getD_eq_getElem?_getD, List.getD_eq_getElem?_getD, List.getElem?_drop, Int.toNat_natCast, Int.toNat_natCast, Nat.add_comm]
theorem good_f' (x : S47) : punch_Slot_good.f x.f0 x.f1 = some (good x) := good_f x
theorem pholds_l2 (a b c d e : Int) (l : List S47) (hl : l.length ≤ 200) : Ev (fun k => punch_Holds.l2 k l l l.length 0 a b c d e) (if (List.range' 0 l.length).any (badRule a b c d e l) = true then 21 else 0) := by
  refine loop_ev (F := fun k i => punch_Holds.l2 k l l l.length i a b c d e) (n := l.length) (G := fun _ => some 0) (fun k i hi => ?_) (fun k => ?_) (Ev.now _) l.length 0 (by omega)
  · show punch_Holds.l2 (k + 1) l l l.length i a b c d e = _
    rw [punch_Holds.l2, if_pos (by omega), if_pos (by omega), if_pos (by omega), w_succ i (by omega)]
    unfold badRule
    by_cases h1 : wrap64 (wrap64 ((rd_T47 l (i : Nat)).f1 - (rd_T47 l (i : Nat)).f0) * b) > wrap64 (1000 * c)
    · rw [if_pos h1, decide_eq_true h1, Bool.true_or, if_pos rfl]
    · rw [if_neg h1, decide_eq_false h1, Bool.false_or]
      by_cases h2 : i = 0
      · rw [if_pos (by omega), decide_eq_false (show ¬ 0 < i by omega), Bool.false_and, if_neg (by decide)]
      · rw [if_neg (by omega), w_pred i (by omega) (by omega), if_pos (by omega), if_pos (by omega), decide_eq_true (show 0 < i by omega), Bool.true_and]
        by_cases h3 : wrap64 (wrap64 ((rd_T47 l (i : Nat)).f0 - (rd_T47 l (i - 1 : Nat)).f1) * a) < wrap64 (1000 * d)
        · rw [if_pos h3, decide_eq_true h3, Bool.true_or, if_pos rfl]
        · rw [if_neg h3, decide_eq_false h3, Bool.false_or]
          by_cases h4 : wrap64 (wrap64 ((rd_T47 l (i : Nat)).f0 - (rd_T47 l (i - 1 : Nat)).f1) * b) ≥ wrap64 (1000 * e)
          · rw [if_pos h4, decide_eq_true h4, if_pos rfl]
          · rw [if_neg h4, decide_eq_false h4, if_neg (by decide)]
  · show punch_Holds.l2 (k + 1) l l l.length l.length a b c d e = _
    rw [punch_Holds.l2, if_neg (by omega)]
theorem pholds_l1 (a b c d e : Int) (l : List S47) (hl : l.length ≤ 200) (h0 : 0 < l.length) : Ev (fun k => punch_Holds.l1 k l (l.drop 1) (l.drop 1).length 0 a b c d e) (if (List.range' 0 (l.length - 1)).any (badGap l) = true then 13 else if (List.range' 0 l.length).any (badRule a b c d e l) = true then 21 else 0) := by
  have hd : (l.drop 1).length = l.length - 1 := by rw [List.length_drop]
  refine loop_ev (F := fun k i => punch_Holds.l1 k l (l.drop 1) (l.drop 1).length i a b c d e) (n := l.length - 1) (G := fun k => punch_Holds.l2 k l l l.length 0 a b c d e) (fun k i hi => ?_) (fun k => ?_) (pholds_l2 a b c d e l hl) (l.length - 1) 0 (by omega)
  · show punch_Holds.l1 (k + 1) l (l.drop 1) (l.drop 1).length i a b c d e = _
    rw [punch_Holds.l1, if_pos (by omega), if_pos (by omega), if_pos (by omega), if_pos (by omega), w_succ i (by omega), drop1_at]
    unfold badGap
    by_cases h1 : (rd_T47 l (i + 1 : Nat)).f0 ≤ (rd_T47 l (i : Nat)).f1
    · rw [if_pos h1, decide_eq_true h1, if_pos rfl]
    · rw [if_neg h1, decide_eq_false h1, if_neg (by decide)]
  · show punch_Holds.l1 (k + 1) l (l.drop 1) (l.drop 1).length (l.length - 1 : Nat) a b c d e = _
    rw [punch_Holds.l1, if_neg (by omega)]
theorem pholds_l0 (a b c d e x y : Int) (l : List S47) (hl : l.length ≤ 200) (h0 : 0 < l.length) : Ev (fun k => punch_Holds.l0 k l l l.length 0 a b c d e x y) (if (List.range' 0 l.length).any (fun i => !good (rd_T47 l (i : Nat))) = true then 6 else
    if (rd_T47 l 0).f0 = x ∧ (rd_T47 l (l.length - 1 : Nat)).f1 = y then (if (List.range' 0 (l.length - 1)).any (badGap l) = true then 13 else if (List.range' 0 l.length).any (badRule a b c d e l) = true then 21 else 0) else 13) := by
  refine loop_ev (F := fun k i => punch_Holds.l0 k l l l.length i a b c d e x y) (n := l.length) (G := fun k => punch_Holds.j2 k l (!(decide ((rd_T47 l 0).f0 = x ∧ (rd_T47 l (l.length - 1 : Nat)).f1 = y))) a b c d e) (fun k i hi => ?_) (fun k => ?_) ?_ l.length 0 (by omega)
  · show punch_Holds.l0 (k + 1) l l l.length i a b c d e x y = _
    rw [punch_Holds.l0, if_pos (by omega), if_pos (by omega), if_pos (by omega), good_f', w_succ i (by omega)]
    show (if good (rd_T47 l (i : Nat)) = true then _ else _) = _
    cases good (rd_T47 l (i : Nat)) <;> rfl
  · show punch_Holds.l0 (k + 1) l l l.length l.length a b c d e x y = _
    rw [punch_Holds.l0, if_neg (by omega), if_pos (by omega)]
    by_cases c1 : (rd_T47 l 0).f0 = x
    · rw [if_pos c1, w_pred _ h0 (by omega), if_pos (by omega), if_pos (by omega)]
      congr 1
      by_cases c2 : (rd_T47 l (l.length - 1 : Nat)).f1 = y
      · rw [decide_eq_true ⟨c1, c2⟩]
        simpa using c2
      · rw [decide_eq_false (fun h => c2 h.2)]
        simpa using c2
    · rw [if_neg c1, decide_eq_false (fun h => c1 h.1)]
      rfl
  · by_cases c1 : (rd_T47 l 0).f0 = x ∧ (rd_T47 l (l.length - 1 : Nat)).f1 = y
    · rw [if_pos c1, decide_eq_true c1]
      refine Ev.step (fun k => ?_) (pholds_l1 a b c d e l hl h0)
      rw [punch_Holds.j2, if_neg (by decide), if_pos (by omega)]
      rfl
    · rw [if_neg c1, decide_eq_false c1]
      refine Ev.step (f := fun _ => some 13) (fun k => ?_) (Ev.now _)
      rw [punch_Holds.j2, if_pos (by decide)]
theorem Holds_f (a b c d e x y : Int) (l : List S47) (hl : l.length ≤ 1000000) : Ev (fun k => punch_Holds.f k a b c d e x y l) (holdsR a b c d e x y l) := by
  unfold punch_Holds.f holdsR
  simp only [paperOk_f, Option.bind_some]
  have bad : ∀ k, punch_Holds.j0 (k + 1) l true a b c d e x y = some 3 := fun k => by rw [punch_Holds.j0, if_pos rfl]
  by_cases c1 : paperOk a b c d e = true
  · simp only [if_pos c1, show punch_Slot_good.f x y = some (good ⟨x, y⟩) from good_f ⟨x, y⟩, Option.bind_some]
    cases c2 : good ⟨x, y⟩ with
    | true =>
      rw [if_pos ⟨c1, rfl⟩]
      simp only [Bool.not_true]
      have e1 : ∀ k, punch_Holds.j0 (k + 1) l false a b c d e x y = if l.length > 200 then some 5 else if l.length = 0 then some 6 else punch_Holds.l0 k l l l.length 0 a b c d e x y := fun k => by
        rw [punch_Holds.j0, if_neg (by decide)]
        by_cases c3 : l.length > 200
        · rw [if_pos (by omega), if_pos c3]
        · rw [if_neg (by omega), if_neg c3]
          by_cases c4 : l.length = 0
          · rw [if_pos (by omega), if_pos c4]
          · rw [if_neg (by omega), if_neg c4]
      refine Ev.step e1 ?_
      by_cases c3 : l.length > 200
      · simp only [if_pos c3]; exact Ev.now _
      · simp only [if_neg c3]
        by_cases c4 : l.length = 0
        · simp only [if_pos c4]; exact Ev.now _
        · simp only [if_neg c4]
          exact pholds_l0 a b c d e x y l (by omega) (by omega)
    | false =>
      rw [if_neg (fun h => by cases h.2)]
      exact Ev.step (f := fun _ => some 3) bad (Ev.now _)
  · simp only [if_neg c1]
    rw [if_neg (fun h => c1 h.1)]
    exact Ev.step (f := fun _ => some 3) bad (Ev.now _)
end Go.Proofs.Ytegffliopblajaa.P
end
section
namespace Go.Proofs.Ytegffliopblajaa.P
open Go.RowKit Go.Proofs.YtegffliopblajaaW.PrintWords Go.Proofs.YtegffliopblajaaW.PrintLast Go.Proofs.YtegffliopblajaaW.PrintMore
set_option linter.unusedVariables false
set_option linter.unusedSimpArgs false
def barsR (a b c d e : Int) : Int × Int × Int × Int × Int := if paperOk a b c d e = true then (if barHi b c < 1 then (0, 0, 0, 0, 20) else if barLo a d > barTo b e then (1, barHi b c, 0, 0, 0) else (1, barHi b c, barLo a d, barTo b e, 0)) else (0, 0, 0, 0, 3)
theorem Bars_f (a b c d e : Int) : punch_Bars.f a b c d e = some (barsR a b c d e) := by
  unfold punch_Bars.f barsR
  by_cases h1 : paperOk a b c d e = true
  · rw [if_pos h1, if_pos h1]
    by_cases h2 : barHi b c < 1
    · rw [if_pos h2, if_pos h2]
    · rw [if_neg h2, if_neg h2]
      by_cases h3 : barLo a d > barTo b e
      · rw [if_pos h3, if_pos h3]
      · rw [if_neg h3, if_neg h3]
  · rw [if_neg h1, if_neg h1]
theorem bar_bounds {a b c d e : Int} (h : paperOk a b c d e = true) : 0 ≤ barHi b c ∧ barHi b c ≤ 1200 ∧ 1 ≤ barLo a d ∧ 0 ≤ barTo b e ∧ barTo b e ≤ 1200 := by
  have hp := paperOk_iff.1 h
  unfold barHi barLo barTo
  refine ⟨Int.ediv_nonneg (by omega) (by omega), ?_, ?_, Int.ediv_nonneg (by omega) (by omega), ?_⟩
  · have : 1000 * c / b < 1201 := Int.ediv_lt_of_lt_mul (by omega) (by omega)
    omega
  · exact Int.le_ediv_of_mul_le (by omega) (by omega)
  · have : (1000 * e - 1) / b < 1201 := Int.ediv_lt_of_lt_mul (by omega) (by omega)
    omega
theorem lo_iff {a d : Int} (ha : 0 < a) {n : Int} : n * a ≥ 1000 * d ↔ barLo a d ≤ n := by
  unfold barLo
  rw [← Int.lt_add_one_iff, Int.ediv_lt_iff_lt_mul ha, Int.add_mul, Int.one_mul]
  omega
theorem to_iff {b e : Int} (hb : 0 < b) {n : Int} : n * b < 1000 * e ↔ n ≤ barTo b e := by
  unfold barTo
  rw [Int.le_ediv_iff_mul_le hb]
  omega
def s1 (H : Int) (i : Nat) : Int := if 1 ≤ min (i : Int) H then 1 else 0
def s3 (L T : Int) (i : Nat) : Int := if L ≤ min (i : Int) T then L else 0
def s4 (L T : Int) (i : Nat) : Int := if L ≤ min (i : Int) T then min (i : Int) T else 0
theorem barsR_ok {a b c d e : Int} (h : (barsR a b c d e).2.2.2.2 = 0) : (barsR a b c d e).1 = 1 ∧ 1 ≤ (barsR a b c d e).2.1 ∧ (barsR a b c d e).2.1 ≤ 1200 ∧ 0 ≤ (barsR a b c d e).2.2.1 ∧ (barsR a b c d e).2.2.1 ≤ (barsR a b c d e).2.2.2.1 ∧ (barsR a b c d e).2.2.2.1 ≤ 1200 := by
  unfold barsR at h ⊢
  split at h
  · rename_i c1
    obtain ⟨h1, h2, h3, h4, h5⟩ := bar_bounds c1
    rw [if_pos c1]
    split at h
    · cases h
    · rename_i c2
      rw [if_neg c2]
      split at h
      · rename_i c3
        rw [if_pos c3]
        refine ⟨rfl, ?_, ?_, ?_, ?_, ?_⟩ <;> dsimp only <;> omega
      · rename_i c3
        rw [if_neg c3]
        refine ⟨rfl, ?_, ?_, ?_, ?_, ?_⟩ <;> dsimp only <;> omega
  · cases h
end Go.Proofs.Ytegffliopblajaa.P
end
