/- Words and contracts for a claim. -/
import Derived.Test.YthoeindopljmkaaPumpWaits5

section
namespace Go.Proofs.Ythoeindopljmkaa.P
open Go.RowKit Go.Proofs.YthoeindopljmkaaW.PrintWords Go.Proofs.YthoeindopljmkaaW.PrintLast Go.Proofs.YthoeindopljmkaaW.PrintMore
attribute [local go_sem] max2_int min2_int max_two min_two max_three min_three max_four min_four
set_option linter.unusedVariables false
set_option linter.unusedSimpArgs false
mutual
def pianolalaw04_PumpWaits.j0 : Nat → Int → Int → List (List (S71)) → List (List (S71)) → Option (Bool)
  | 0, _, _, _, _ => none
  | k + 1, x6, x7, x691000, x691001 => if x7 = 0 then ((pianolalaw04_works.f).bind fun t693 => (some t693)) else (pianolalaw04_PumpWaits.l0 k x6 x7 false 1 x691000 x691001)
def pianolalaw04_PumpWaits.l0 : Nat → Int → Int → Bool → Int → List (List (S71)) → List (List (S71)) → Option (Bool)
  | 0, _, _, _, _, _, _ => none
  | k + 1, x6, x7, x9, x10, x691000, x691001 => if x10 ≤ x6 then ((pianolalaw04_course.f k x691000 x691001 x10 ([] : List Int)).bind fun bt695 => (pianolalaw04_PumpWaits.l1 k x6 x7 x9 x10 0 bt695.1 (bt695.1.length : Int) 0 x691000 x691001)) else (if x9 = true then ((pianolalaw04_works.f).bind fun t694 => (some t694)) else (some false))
def pianolalaw04_PumpWaits.l1 : Nat → Int → Int → Bool → Int → Int → List (List Int) → Int → Int → List (List (S71)) → List (List (S71)) → Option (Bool)
  | 0, _, _, _, _, _, _, _, _, _, _ => none
  | k + 1, x6, x7, x9, x10, x12, x52, x53, x54, x691000, x691001 => if x54 < x53 then (if 0 ≤ x54 then (if x54 < (x52.length : Int) then ((pianolalaw04_sums.f k (rd_L6 x52 x54) 0 x10).bind fun t703 => (pianolalaw04_PumpWaits.l1 k x6 x7 x9 x10 (wrap64 (x12 + t703)) x52 x53 (wrap64 (x54 + 1)) x691000 x691001)) else (none)) else (none)) else (if x9 = true then (pianolalaw04_PumpWaits.l0 k x6 x7 true (wrap64 (x10 + 1)) x691000 x691001) else (if 0 < (x691001.length : Int) then ((pianolalaw04_capacity.f k (rd_L4 x691001 0) (wrap64 ((wrap64 (x10 + x7)) - 1)) ([] : List Int)).bind fun t705 => ((pianolalaw04_sums.f k t705 0 (wrap64 ((wrap64 (x10 + x7)) - 1))).bind fun t708 => (pianolalaw04_PumpWaits.l0 k x6 x7 (decide (t708 < x12)) (wrap64 (x10 + 1)) x691000 x691001))) else (none)))
end
def pianolalaw04_PumpWaits.f (k : Nat) (l0_0 : List (S86)) (l0_1 : List (S86)) (l0_2 : List (S86)) (l0_3 : List (S86)) (a0_4 : Bool) (a0_5 : Bool) (a1 : Int) : Option (Bool) := (pianolalaw04_Engine_made.f k l0_0 l0_1 l0_2 l0_3 a0_4 false).bind fun bt684 => ((pump_Delay.f k bt684.1 bt684.2 (Int.tmod (wrap64 (a1)) 10)).bind fun bt691 => (if bt691.2 = 11 then (pianolalaw04_PumpWaits.j0 k (Int.tmod (wrap64 (a1)) 10) 201 bt684.1 bt684.2) else (if bt691.2 = 0 then (if bt691.1 < 0 then (some false) else (if bt691.1 > 200 then (some false) else (pianolalaw04_PumpWaits.j0 k (Int.tmod (wrap64 (a1)) 10) bt691.1 bt684.1 bt684.2))) else (some false))))
set_option maxHeartbeats 8000000 in
set_option maxRecDepth 100000 in
theorem pianolalaw04_PumpWaits.calls (k : Nat) (A0_0 : Option Addr) (c0_0 : Nat) (l0_0 : List (S86)) (A0_1 : Option Addr) (c0_1 : Nat) (l0_1 : List (S86)) (A0_2 : Option Addr) (c0_2 : Nat) (l0_2 : List (S86)) (A0_3 : Option Addr) (c0_3 : Nat) (l0_3 : List (S86)) (a0_4 : Bool) (a0_5 : Bool) (a1 : Int) (r : Bool) (hrt : r = true) (w : World) (hr0_0 : Kd.C k86 w A0_0 l0_0.length l0_0) (hc0_0 : l0_0.length ≤ c0_0) (hr0_1 : Kd.C k86 w A0_1 l0_1.length l0_1) (hc0_1 : l0_1.length ≤ c0_1) (hr0_2 : Kd.C k86 w A0_2 l0_2.length l0_2) (hc0_2 : l0_2.length ≤ c0_2) (hr0_3 : Kd.C k86 w A0_3 l0_3.length l0_3) (hc0_3 : l0_3.length ≤ c0_3) (h : pianolalaw04_PumpWaits.f k l0_0 l0_1 l0_2 l0_3 a0_4 a0_5 a1 = some r) :
  Calls Try.prog 10 #[.agg #[.slice A0_0 l0_0.length c0_0, .slice A0_1 l0_1.length c0_1, .slice A0_2 l0_2.length c0_2, .slice A0_3 l0_3.length c0_3, .bool a0_4, .bool a0_5], .int .u8 a1] w fun e w' => e = .returned (.bool r) ∧ Below w.heap.size w w' := by
 have HRT := zA hrt
 clear hrt
 have hu79 := Try.underlying79
 have hu40 := Try.underlying40
 have hu56 := Try.underlying56
 have HR0_0 := zA hr0_0
 have HC0_0 := zA hc0_0
 clear hr0_0 hc0_0
 have HR0_1 := zA hr0_1
 have HC0_1 := zA hc0_1
 clear hr0_1 hc0_1
 have HR0_2 := zA hr0_2
 have HC0_2 := zA hc0_2
 clear hr0_2 hc0_2
 have HR0_3 := zA hr0_3
 have HC0_3 := zA hc0_3
 clear hr0_3 hc0_3
 have HB := zA (Below.refl w.heap.size w)
 have H : ((pianolalaw04_Engine_made.f k l0_0 l0_1 l0_2 l0_3 a0_4 false).bind fun bt684 => ((pump_Delay.f k bt684.1 bt684.2 (Int.tmod (wrap64 (a1)) 10)).bind fun bt691 => (if bt691.2 = 11 then (pianolalaw04_PumpWaits.j0 k (Int.tmod (wrap64 (a1)) 10) 201 bt684.1 bt684.2) else (if bt691.2 = 0 then (if bt691.1 < 0 then (some false) else (if bt691.1 > 200 then (some false) else (pianolalaw04_PumpWaits.j0 k (Int.tmod (wrap64 (a1)) 10) bt691.1 bt684.1 bt684.2))) else (some false))))) = some r := h
 clear h
 replace H := Option.bind_eq_some_iff.mp H
 obtain ⟨⟨t684, t687⟩, A30, H⟩ := H
 replace H : ((pump_Delay.f k t684 t687 (Int.tmod (wrap64 (a1)) 10)).bind fun bt691 => (if bt691.2 = 11 then (pianolalaw04_PumpWaits.j0 k (Int.tmod (wrap64 (a1)) 10) 201 t684 t687) else (if bt691.2 = 0 then (if bt691.1 < 0 then (some false) else (if bt691.1 > 200 then (some false) else (pianolalaw04_PumpWaits.j0 k (Int.tmod (wrap64 (a1)) 10) bt691.1 t684 t687))) else (some false)))) = some r := H
 have A3 := zA A30
 clear A30
 replace H := Option.bind_eq_some_iff.mp H
 obtain ⟨⟨t691, t692⟩, A40, H⟩ := H
 replace H : (if t692 = 11 then (pianolalaw04_PumpWaits.j0 k (Int.tmod (wrap64 (a1)) 10) 201 t684 t687) else (if t692 = 0 then (if t691 < 0 then (some false) else (if t691 > 200 then (some false) else (pianolalaw04_PumpWaits.j0 k (Int.tmod (wrap64 (a1)) 10) t691 t684 t687))) else (some false))) = some r := H
 have A4 := zA A40
 clear A40
 have HC5 := zA H
 clear H
 go_enter Try.func10, Try.ntmps10
 go_upto_if 29 with (first | ((with_reducible refine gate_dst (N := 2) rfl ?_); refine box_event ?hg (N := 2) ?hd (cs := #[.slice A0_0 l0_0.length c0_0, .slice A0_1 l0_1.length c0_1, .slice A0_2 l0_2.length c0_2, .slice A0_3 l0_3.length c0_3, .bool a0_4, .bool a0_5]) (t := 79) ?hr ?_; (case hd => rfl); (case hg => rfl); (case hr => first | (go_simp; done) | (go_simp; rfl)); intro gb683 hg w6 hbox hb; have n0_ := zA (below_step (zqA HB.out) hb); have n1_ := zA (hbox); have n2_ := zA ((by rw [hg]; exact (below_size (zqA HB.out)) : w.heap.size ≤ gb683)); have n3_ := zA ((by rw [hg]; exact (below_size (zqA HB.out)) : w.heap.size ≤ gb683)); clear HB; have HB := n0_; have BK683 := n1_; have GW683 := n2_; have GE683 := n3_; clear n0_ n1_ n2_ n3_; clear hb hbox hg; have hcz7_0 : w6.cell? ⟨gb683, 0, none⟩ = some (.slice A0_0 l0_0.length c0_0) := (blk_cell BK683.out 0).trans rfl; have hcz7_1 : w6.cell? ⟨gb683, 1, none⟩ = some (.slice A0_1 l0_1.length c0_1) := (blk_cell BK683.out 1).trans rfl; have hcz7_2 : w6.cell? ⟨gb683, 2, none⟩ = some (.slice A0_2 l0_2.length c0_2) := (blk_cell BK683.out 2).trans rfl; have hcz7_3 : w6.cell? ⟨gb683, 3, none⟩ = some (.slice A0_3 l0_3.length c0_3) := (blk_cell BK683.out 3).trans rfl; have hcz7_4 : w6.cell? ⟨gb683, 4, none⟩ = some (.bool a0_4) := (blk_cell BK683.out 4).trans rfl; have hcz7_5 : w6.cell? ⟨gb683, 5, none⟩ = some (.bool a0_5) := (blk_cell BK683.out 5).trans rfl; have hfz7_0 := blk_frozen BK683.out 0; have hfz7_1 := blk_frozen BK683.out 1; have hfz7_2 := blk_frozen BK683.out 2; have hfz7_3 := blk_frozen BK683.out 3; have hfz7_4 := blk_frozen BK683.out 4; have hfz7_5 := blk_frozen BK683.out 5) | ((with_reducible refine gate_callee (f := 44) rfl ?_); refine goesL_ (some 18) rfl rfl Try.func44 (by kernel_rfl) rfl #[.agg #[.slice A0_0 l0_0.length c0_0, .slice A0_1 l0_1.length c0_1, .slice A0_2 l0_2.length c0_2, .slice A0_3 l0_3.length c0_3, .bool a0_4, .bool false]] rfl zqE ?_; (with_reducible refine (pianolalaw04_Engine_made.calls k _ _ l0_0 _ _ l0_1 _ _ l0_2 _ _ l0_3 a0_4 false t684 t687 _ ?side1 ?side2 ?side3 ?side4 ?side5 ?side6 ?side7 ?side8 A3.out).mono ?_); (case side1 => exact Kd.C_below HR0_0.out (zqG HB.out GE683.out)); (case side2 => exact HC0_0.out); (case side3 => exact Kd.C_below HR0_1.out (zqG HB.out GE683.out)); (case side4 => exact HC0_1.out); (case side5 => exact Kd.C_below HR0_2.out (zqG HB.out GE683.out)); (case side6 => exact HC0_2.out); (case side7 => exact Kd.C_below HR0_3.out (zqG HB.out GE683.out)); (case side8 => exact HC0_3.out); rintro e w8 ⟨v685, v688, rfl, ho0, ho1, hb⟩; refine ⟨_, rfl, ?_⟩; have n0_ := zA (Kd.N_lower (Kd.N_mono (ok' := fun k_ => some k_ ≠ (v688 : Value).ownBlock ∧ k_ ≠ gb683) ho0 (fun k_ hk_ => ⟨hk_.2, (Kd.freshB (g := gb683) (o := .cells #[.slice A0_0 l0_0.length c0_0, .slice A0_1 l0_1.length c0_1, .slice A0_2 l0_2.length c0_2, .slice A0_3 l0_3.length c0_3, .bool a0_4, .bool false] 79 (0, 0)) (by (with_reducible repeat (first | refine blk_drewN ?_ _ | refine blk_drew ?_ | refine blk_alloc ?_ _)); refine blk_put (cs := #[.slice A0_0 l0_0.length c0_0, .slice A0_1 l0_1.length c0_1, .slice A0_2 l0_2.length c0_2, .slice A0_3 l0_3.length c0_3, .bool a0_4, .bool a0_5]) ?_ 5 _ rfl; (with_reducible repeat (first | refine blk_drewN ?_ _ | refine blk_drew ?_ | refine blk_alloc ?_ _)); exact BK683.out) k_ hk_.1)⟩)) (below_size (zqG HB.out GE683.out))); have n1_ := zA (Kd.N_lower (Kd.N_mono (ok' := fun k_ => some k_ ≠ (v685 : Value).ownBlock ∧ k_ ≠ gb683) ho1 (fun k_ hk_ => ⟨hk_.2, (Kd.freshB (g := gb683) (o := .cells #[.slice A0_0 l0_0.length c0_0, .slice A0_1 l0_1.length c0_1, .slice A0_2 l0_2.length c0_2, .slice A0_3 l0_3.length c0_3, .bool a0_4, .bool false] 79 (0, 0)) (by (with_reducible repeat (first | refine blk_drewN ?_ _ | refine blk_drew ?_ | refine blk_alloc ?_ _)); refine blk_put (cs := #[.slice A0_0 l0_0.length c0_0, .slice A0_1 l0_1.length c0_1, .slice A0_2 l0_2.length c0_2, .slice A0_3 l0_3.length c0_3, .bool a0_4, .bool a0_5]) ?_ 5 _ rfl; (with_reducible repeat (first | refine blk_drewN ?_ _ | refine blk_drew ?_ | refine blk_alloc ?_ _)); exact BK683.out) k_ hk_.1)⟩)) (below_size (zqG HB.out GE683.out))); have n2_ := zA (blk_below (g := gb683) (o := .cells #[.slice A0_0 l0_0.length c0_0, .slice A0_1 l0_1.length c0_1, .slice A0_2 l0_2.length c0_2, .slice A0_3 l0_3.length c0_3, .bool a0_4, .bool false] 79 (0, 0)) (by (with_reducible repeat (first | refine blk_drewN ?_ _ | refine blk_drew ?_ | refine blk_alloc ?_ _)); refine blk_put (cs := #[.slice A0_0 l0_0.length c0_0, .slice A0_1 l0_1.length c0_1, .slice A0_2 l0_2.length c0_2, .slice A0_3 l0_3.length c0_3, .bool a0_4, .bool a0_5]) ?_ 5 _ rfl; (with_reducible repeat (first | refine blk_drewN ?_ _ | refine blk_drew ?_ | refine blk_alloc ?_ _)); exact BK683.out) hb); have n3_ := zA (below_step (zqG HB.out GE683.out) hb); clear BK683; clear HB; have HO686 := n0_; have HO689 := n1_; have BK683 := n2_; have HB := n3_; clear n0_ n1_ n2_ n3_; (try clear hb); (try clear hb2); (try clear hk); (try clear hi); (try clear ho0); (try clear ho1)) | ((with_reducible refine gate_dst (N := 5) rfl ?_); refine box_event ?hg (N := 5) ?hd (cs := #[.slice none 0 0, .slice none 0 0]) (t := 40) ?hr ?_; (case hd => rfl); (case hg => rfl); (case hr => first | (go_simp; done) | (go_simp; rfl)); intro gb690 hg w9 hbox hb; have n0_ := zA (Kd.N_below (Kd.N_elderB (zqN HO686.out) gb690 (Nat.le_of_eq hg.symm)) hb); have n1_ := zA (Kd.N_below (Kd.N_elderB (zqN HO689.out) gb690 (Nat.le_of_eq hg.symm)) hb); have n2_ := zA (blk_below (g := gb683) (o := .cells #[.slice A0_0 l0_0.length c0_0, .slice A0_1 l0_1.length c0_1, .slice A0_2 l0_2.length c0_2, .slice A0_3 l0_3.length c0_3, .bool a0_4, .bool false] 79 (0, 0)) (zqB BK683.out) hb); have n3_ := zA (below_step (zqG HB.out GE683.out) hb); have n4_ := zA (hbox); have n5_ := zA ((by rw [hg]; exact (below_size (zqG HB.out GE683.out)) : w.heap.size ≤ gb690)); have n6_ := zA ((by rw [hg]; exact (below_size (zqG HB.out GE683.out)) : w.heap.size ≤ gb690)); have n7_ := zA ((by rw [hg]; exact Nat.ne_of_lt (blk_lt (g := gb683) (o := .cells #[.slice A0_0 l0_0.length c0_0, .slice A0_1 l0_1.length c0_1, .slice A0_2 l0_2.length c0_2, .slice A0_3 l0_3.length c0_3, .bool a0_4, .bool false] 79 (0, 0)) (zqB BK683.out)) : gb683 ≠ gb690)); have n8_ := zA ((by rw [hg]; exact Nat.ne_of_gt (blk_lt (g := gb683) (o := .cells #[.slice A0_0 l0_0.length c0_0, .slice A0_1 l0_1.length c0_1, .slice A0_2 l0_2.length c0_2, .slice A0_3 l0_3.length c0_3, .bool a0_4, .bool false] 79 (0, 0)) (zqB BK683.out)) : gb690 ≠ gb683)); clear HO686; clear HO689; clear BK683; clear HB; have HO686 := n0_; have HO689 := n1_; have BK683 := n2_; have HB := n3_; have BK690 := n4_; have GW690 := n5_; have GE690 := n6_; have NB683_690 := n7_; have NB690_683 := n8_; clear n0_ n1_ n2_ n3_ n4_ n5_ n6_ n7_ n8_; clear hb hbox hg; obtain ⟨Ao10, co10, eo10⟩ := Kd.N_slice HO686.out; subst eo10; have hnb11 := NB690_683.out; have hnc11 := NB683_690.out; have hcz12_0 : w9.cell? ⟨gb690, 0, none⟩ = some (.slice none 0 0) := (blk_cell BK690.out 0).trans rfl; have hcz12_1 : w9.cell? ⟨gb690, 1, none⟩ = some (.slice none 0 0) := (blk_cell BK690.out 1).trans rfl; have hfz12_0 := blk_frozen BK690.out 0; have hfz12_1 := blk_frozen BK690.out 1; obtain ⟨Ao13, co13, eo13⟩ := Kd.N_slice HO689.out; subst eo13) | ((with_reducible refine gate_callee (f := 32) rfl ?_); refine goesL_ (some 25) rfl rfl Try.func32 (by kernel_rfl) rfl #[.agg #[.slice Ao10 t684.length co10, .slice Ao13 t687.length co13], .int .i64 (Int.tmod (wrap64 (a1)) 10)] rfl zqE ?_; (with_reducible refine (pump_Delay.calls k _ _ t684 _ _ t687 (Int.tmod (wrap64 (a1)) 10) t691 t692 _ ?side1 ?side2 ?side3 ?side4 A4.out).mono ?_); (case side1 => refine (Kd.N_reads' (e := 22) (base := w.heap.size) (ok := fun k_ => ((some k_ ≠ (.slice Ao13 t687.length co13 : Value).ownBlock ∧ k_ ≠ gb683) ∧ k_ ≠ gb690)) (n := t684.length) (c := co10) ?_).2.2; exact (by (with_reducible repeat (first | apply Kd.N_alloc | apply Kd.N_drewN | apply Kd.N_drew)); exact (Kd.N_mono (Kd.N_far (p := ⟨gb690, 1, none⟩) (Kd.N_far (p := ⟨gb690, 0, none⟩) (Kd.N_mono HO686.out (fun k_ hk => (⟨hk, hk.2⟩ : _ ∧ k_ ≠ gb690))) (fun _ hk => hk.2) (.slice Ao10 t684.length co10)) (fun _ hk => hk.2) (.slice Ao13 t687.length co13)) (fun _ h_ => h_.1)))); (case side2 => exact (Kd.N_reads' HO686.out).2.1); (case side3 => refine (Kd.N_reads' (e := 22) (base := w.heap.size) (ok := fun k_ => ((some k_ ≠ (.slice Ao10 t684.length co10 : Value).ownBlock ∧ k_ ≠ gb683) ∧ k_ ≠ gb690)) (n := t687.length) (c := co13) ?_).2.2; exact (by (with_reducible repeat (first | apply Kd.N_alloc | apply Kd.N_drewN | apply Kd.N_drew)); exact (Kd.N_mono (Kd.N_far (p := ⟨gb690, 1, none⟩) (Kd.N_far (p := ⟨gb690, 0, none⟩) (Kd.N_mono HO689.out (fun k_ hk => (⟨hk, hk.2⟩ : _ ∧ k_ ≠ gb690))) (fun _ hk => hk.2) (.slice Ao10 t684.length co10)) (fun _ hk => hk.2) (.slice Ao13 t687.length co13)) (fun _ h_ => h_.1)))); (case side4 => exact (Kd.N_reads' HO689.out).2.1); rintro e w14 ⟨rfl, hb⟩; refine ⟨_, rfl, ?_⟩; have n0_ := zA (Kd.N_below (by (with_reducible repeat (first | apply Kd.N_alloc | apply Kd.N_drewN | apply Kd.N_drew)); exact (Kd.N_mono (Kd.N_far (p := ⟨gb690, 1, none⟩) (Kd.N_far (p := ⟨gb690, 0, none⟩) (Kd.N_mono HO686.out (fun k_ hk => (⟨hk, hk.2⟩ : _ ∧ k_ ≠ gb690))) (fun _ hk => hk.2) (.slice Ao10 t684.length co10)) (fun _ hk => hk.2) (.slice Ao13 t687.length co13)) (fun _ h_ => h_.1))) hb); have n1_ := zA (Kd.N_below (by (with_reducible repeat (first | apply Kd.N_alloc | apply Kd.N_drewN | apply Kd.N_drew)); exact (Kd.N_mono (Kd.N_far (p := ⟨gb690, 1, none⟩) (Kd.N_far (p := ⟨gb690, 0, none⟩) (Kd.N_mono HO689.out (fun k_ hk => (⟨hk, hk.2⟩ : _ ∧ k_ ≠ gb690))) (fun _ hk => hk.2) (.slice Ao10 t684.length co10)) (fun _ hk => hk.2) (.slice Ao13 t687.length co13)) (fun _ h_ => h_.1))) hb); have n2_ := zA (blk_below (g := gb683) (o := .cells #[.slice A0_0 l0_0.length c0_0, .slice A0_1 l0_1.length c0_1, .slice A0_2 l0_2.length c0_2, .slice A0_3 l0_3.length c0_3, .bool a0_4, .bool false] 79 (0, 0)) (by (with_reducible repeat (first | refine blk_drewN ?_ _ | refine blk_drew ?_ | refine blk_alloc ?_ _)); refine blk_far ?_ NB683_690.out _; (with_reducible repeat (first | refine blk_drewN ?_ _ | refine blk_drew ?_ | refine blk_alloc ?_ _)); refine blk_far ?_ NB683_690.out _; (with_reducible repeat (first | refine blk_drewN ?_ _ | refine blk_drew ?_ | refine blk_alloc ?_ _)); exact BK683.out) hb); have n3_ := zA (blk_below (g := gb690) (o := .cells #[.slice Ao10 t684.length co10, .slice Ao13 t687.length co13] 40 (0, 0)) (by (with_reducible repeat (first | refine blk_drewN ?_ _ | refine blk_drew ?_ | refine blk_alloc ?_ _)); refine blk_put (cs := #[.slice Ao10 t684.length co10, .slice none 0 0]) ?_ 1 _ rfl; (with_reducible repeat (first | refine blk_drewN ?_ _ | refine blk_drew ?_ | refine blk_alloc ?_ _)); refine blk_put (cs := #[.slice none 0 0, .slice none 0 0]) ?_ 0 _ rfl; (with_reducible repeat (first | refine blk_drewN ?_ _ | refine blk_drew ?_ | refine blk_alloc ?_ _)); exact BK690.out) hb); have n4_ := zA (below_step (zqH HB.out GE683.out GE690.out) hb); clear HO686; clear HO689; clear BK683; clear BK690; clear HB; have HO686 := n0_; have HO689 := n1_; have BK683 := n2_; have BK690 := n3_; have HB := n4_; clear n0_ n1_ n2_ n3_ n4_; (try clear hb); (try clear hb2); (try clear hk); (try clear hi)))
 (try simp only [Act.put, List.setIfInBounds_toArray, List.set_cons_zero, List.set_cons_succ])
 go_cut [7] (fun v7 wc => ∃ (kq : Nat) (x7_4 : Int), v7 = .int .i64 x7_4 ∧ Aside0 (pianolalaw04_PumpWaits.j0 kq (Int.tmod (wrap64 (a1)) 10) x7_4 t684 t687 = some r) ∧ Aside0 (kq ≤ k) ∧ Aside0 (Kd.N (Kd.slice 71 k71) 22 wc w.heap.size (fun k_ => some k_ ≠ ((.slice Ao13 t687.length co13) : Value).ownBlock ∧ k_ ≠ gb683 ∧ k_ ≠ gb690) (.slice Ao10 t684.length co10) t684) ∧ Aside0 (Kd.N (Kd.slice 71 k71) 22 wc w.heap.size (fun k_ => some k_ ≠ ((.slice Ao10 t684.length co10) : Value).ownBlock ∧ k_ ≠ gb683 ∧ k_ ≠ gb690) (.slice Ao13 t687.length co13) t687) ∧ Aside0 (wc.heap[gb683]? = some (.cells #[(.slice A0_0 l0_0.length c0_0), (.slice A0_1 l0_1.length c0_1), (.slice A0_2 l0_2.length c0_2), (.slice A0_3 l0_3.length c0_3), .bool a0_4, .bool false] 79 (0, 0))) ∧ Aside0 (wc.heap[gb690]? = some (.cells #[(.slice Ao10 t684.length co10), (.slice Ao13 t687.length co13)] 40 (0, 0))) ∧ Aside0 (Below w.heap.size w wc))
 case first =>
  have H := HC5.out
  clear HC5
  by_cases c15 : t692 = 11
  ·
   rw [if_pos c15] at H
   have c15b0 : (t692 == 11) = true := beq_iff_eq.mpr c15
   have c15b1 : (t692 != 11) = false := bne_eq_false_iff_eq.mpr c15
   clear c15
   (first | rw [c15b0] | (simp only [i64_w, i32_w]; rw [c15b0]) | skip)
   have H' := zA H
   clear H
   go_wp2
   go_meet
   case rel => exact ⟨_, (201), zqQ, H', ⟨by first | omega | exact Nat.le_refl _⟩, ⟨by (with_reducible repeat (first | apply Kd.N_alloc | apply Kd.N_drewN | apply Kd.N_drew)); exact Kd.N_mono HO686.out (fun _ hk => ⟨hk.1.1, ⟨hk.1.2, hk.2⟩⟩)⟩, ⟨by (with_reducible repeat (first | apply Kd.N_alloc | apply Kd.N_drewN | apply Kd.N_drew)); exact Kd.N_mono HO689.out (fun _ hk => ⟨hk.1.1, ⟨hk.1.2, hk.2⟩⟩)⟩, ⟨zqB BK683.out⟩, ⟨zqB BK690.out⟩, ⟨zqH HB.out GE683.out GE690.out⟩⟩
  ·
   rw [if_neg c15] at H
   have c15b0 : (t692 == 11) = false := beq_eq_false_iff_ne.mpr c15
   have c15b1 : (t692 != 11) = true := bne_iff_ne.mpr c15
   (first | rw [c15b0] | (simp only [i64_w, i32_w]; rw [c15b0]) | skip)
   by_cases c16 : t692 = 0
   ·
    rw [if_pos c16] at H
    have c16b0 : (t692 == 0) = true := beq_iff_eq.mpr c16
    have c16b1 : (t692 != 0) = false := bne_eq_false_iff_eq.mpr c16
    clear c16
    by_cases c17 : t691 < 0
    ·
     rw [if_pos c17] at H
     exact absurd ((Option.some.inj H).trans HRT.out) (by decide)
    ·
     rw [if_neg c17] at H
     have c17b0 : decide (t691 < 0) = false := decide_eq_false c17
     clear c17
     by_cases c18 : t691 > 200
     ·
      rw [if_pos c18] at H
      exact absurd ((Option.some.inj H).trans HRT.out) (by decide)
     ·
      rw [if_neg c18] at H
      have c18b0 : decide (200 < t691) = false := decide_eq_false c18
      clear c18
      have H' := zA H
      clear H
      go_wp2
      go_meet
      case rel => exact ⟨_, (t691), zqQ, H', ⟨by first | omega | exact Nat.le_refl _⟩, ⟨by (with_reducible repeat (first | apply Kd.N_alloc | apply Kd.N_drewN | apply Kd.N_drew)); exact Kd.N_mono HO686.out (fun _ hk => ⟨hk.1.1, ⟨hk.1.2, hk.2⟩⟩)⟩, ⟨by (with_reducible repeat (first | apply Kd.N_alloc | apply Kd.N_drewN | apply Kd.N_drew)); exact Kd.N_mono HO689.out (fun _ hk => ⟨hk.1.1, ⟨hk.1.2, hk.2⟩⟩)⟩, ⟨zqB BK683.out⟩, ⟨zqB BK690.out⟩, ⟨zqH HB.out GE683.out GE690.out⟩⟩
   ·
    rw [if_neg c16] at H
    exact absurd ((Option.some.inj H).trans HRT.out) (by decide)
 case rest =>
  clear HC5
  try clear c1
  try clear p2
  try clear c3
  try clear c4
  try clear p6
  try clear c10
  try clear c11
  try clear c15
  try clear c15b0
  try clear c15b1
  try clear c16
  try clear c16b0
  try clear c16b1
  try clear c17
  try clear c17b0
  try clear c18
  try clear c18b0
  try clear hcz12_0
  try clear hcz12_1
  try clear hcz7_0
  try clear hcz7_1
  try clear hcz7_2
  try clear hcz7_3
  try clear hcz7_4
  try clear hcz7_5
  try clear hfz12_0
  try clear hfz12_1
  try clear hfz7_0
  try clear hfz7_1
  try clear hfz7_2
  try clear hfz7_3
  try clear hfz7_4
  try clear hfz7_5
  obtain ⟨kq, x7_4, rfl, HA, HJ4, HO_691000, HO_691001, BK683, BK690, HB⟩ := hcut
  cases kq with
  | zero => exact absurd HA.out (by simp [pianolalaw04_PumpWaits.j0])
  | succ kj4 =>
   have H := HA.out
   clear HA
   simp only [pianolalaw04_PumpWaits.j0] at H
   by_cases c19 : x7_4 = 0
   ·
    rw [if_pos c19] at H
    have c19b0 : (x7_4 == 0) = true := beq_iff_eq.mpr c19
    have c19b1 : (x7_4 != 0) = false := bne_eq_false_iff_eq.mpr c19
    clear c19
    replace H := Option.bind_eq_some_iff.mp H
    obtain ⟨t693, A200, H⟩ := H
    replace H : (some t693) = some r := H
    have A20 := zA A200
    clear A200
    obtain rfl := Option.some.inj H
    go_wp2_with (first | ((with_reducible refine gate_callee (f := 15) rfl ?_); refine goesL_ (some 42) rfl rfl Try.func15 (by kernel_rfl) rfl #[] rfl zqE ?_; (with_reducible refine (pianolalaw04_works.calls  t693 _ A20.out).mono ?_); rintro e w21 ⟨rfl, hb⟩; refine ⟨_, rfl, ?_⟩; have n0_ := zA (Kd.N_below (zqN HO_691000.out) hb); have n1_ := zA (Kd.N_below (zqN HO_691001.out) hb); have n2_ := zA (blk_below (g := gb683) (o := .cells #[.slice A0_0 l0_0.length c0_0, .slice A0_1 l0_1.length c0_1, .slice A0_2 l0_2.length c0_2, .slice A0_3 l0_3.length c0_3, .bool a0_4, .bool false] 79 (0, 0)) (zqB BK683.out) hb); have n3_ := zA (blk_below (g := gb690) (o := .cells #[.slice Ao10 t684.length co10, .slice Ao13 t687.length co13] 40 (0, 0)) (zqB BK690.out) hb); have n4_ := zA (below_step (zqH HB.out GE683.out GE690.out) hb); clear HO_691000; clear HO_691001; clear BK683; clear BK690; clear HB; have HO_691000 := n0_; have HO_691001 := n1_; have BK683 := n2_; have BK690 := n3_; have HB := n4_; clear n0_ n1_ n2_ n3_ n4_; (try clear hb); (try clear hb2); (try clear hk); (try clear hi)))
    go_ret
    exact ⟨zqR, zqH HB.out GE683.out GE690.out⟩
   ·
    rw [if_neg c19] at H
    have c19b0 : (x7_4 == 0) = false := beq_eq_false_iff_ne.mpr c19
    have c19b1 : (x7_4 != 0) = true := bne_iff_ne.mpr c19
    have H' := zA H
    clear H
    go_wp2
    go_loopg [9, 10] kj4 (fun kq v9 v10 w' => ∃ (x9_2 : Bool) (x10_2 : Int), v9 = .bool x9_2 ∧ v10 = .int .i64 x10_2 ∧ Aside0 (pianolalaw04_PumpWaits.l0 kq (Int.tmod (wrap64 (a1)) 10) x7_4 x9_2 x10_2 t684 t687 = some r) ∧ Aside0 (kq ≤ kj4) ∧ Aside0 (Kd.N (Kd.slice 71 k71) 22 w' w.heap.size (fun k_ => some k_ ≠ ((.slice Ao13 t687.length co13) : Value).ownBlock ∧ k_ ≠ gb683 ∧ k_ ≠ gb690) (.slice Ao10 t684.length co10) t684) ∧ Aside0 (Kd.N (Kd.slice 71 k71) 22 w' w.heap.size (fun k_ => some k_ ≠ ((.slice Ao10 t684.length co10) : Value).ownBlock ∧ k_ ≠ gb683 ∧ k_ ≠ gb690) (.slice Ao13 t687.length co13) t687) ∧ Aside0 (w'.heap[gb683]? = some (.cells #[(.slice A0_0 l0_0.length c0_0), (.slice A0_1 l0_1.length c0_1), (.slice A0_2 l0_2.length c0_2), (.slice A0_3 l0_3.length c0_3), .bool a0_4, .bool false] 79 (0, 0))) ∧ Aside0 (w'.heap[gb690]? = some (.cells #[(.slice Ao10 t684.length co10), (.slice Ao13 t687.length co13)] 40 (0, 0))) ∧ Aside0 (Below w.heap.size w w'))
    case atStart => exact ⟨(false), (1), zqQ, zqQ, H', ⟨Nat.le_refl _⟩, ⟨zqN HO_691000.out⟩, ⟨zqN HO_691001.out⟩, ⟨zqB BK683.out⟩, ⟨zqB BK690.out⟩, ⟨zqH HB.out GE683.out GE690.out⟩⟩
    case round =>
     clear H'
     try clear c1
     try clear p2
     try clear c3
     try clear c4
     try clear p6
     try clear c10
     try clear c11
     try clear c15
     try clear c15b0
     try clear c15b1
     try clear c16
     try clear c16b0
     try clear c16b1
     try clear c17
     try clear c17b0
     try clear c18
     try clear c18b0
     try clear c19
     try clear c19b0
     try clear c19b1
     try clear hcz12_0
     try clear hcz12_1
     try clear hcz7_0
     try clear hcz7_1
     try clear hcz7_2
     try clear hcz7_3
     try clear hcz7_4
     try clear hcz7_5
     try clear hfz12_0
     try clear hfz12_1
     try clear hfz7_0
     try clear hfz7_1
     try clear hfz7_2
     try clear hfz7_3
     try clear hfz7_4
     try clear hfz7_5
     try clear p2
     try clear p6
     obtain ⟨x9_2, x10_2, rfl, rfl, HA, HK2, HO_691000, HO_691001, BK683, BK690, HB⟩ := hrel
     cases gk with
     | zero => exact absurd HA.out (by simp [pianolalaw04_PumpWaits.l0])
     | succ k2 =>
      have H := HA.out
      clear HA
      simp only [pianolalaw04_PumpWaits.l0] at H
      by_cases c22 : x10_2 ≤ (Int.tmod (wrap64 (a1)) 10)
      ·
       rw [if_pos c22] at H
       have c22b0 : decide (x10_2 ≤ (Int.tmod (wrap64 (a1)) 10)) = true := decide_eq_true c22
       clear c22
       replace H := Option.bind_eq_some_iff.mp H
       obtain ⟨⟨t695, t698⟩, A230, H⟩ := H
       replace H : (pianolalaw04_PumpWaits.l1 k2 (Int.tmod (wrap64 (a1)) 10) x7_4 x9_2 x10_2 0 t695 (t695.length : Int) 0 t684 t687) = some r := H
       have A23 := zA A230
       clear A230
       have H' := zA H
       clear H
       have hnb24 := NB690_683.out
       have hnc24 := NB683_690.out
       have hcz25_0 : wr.cell? ⟨gb690, 0, none⟩ = some (.slice Ao10 t684.length co10) := (blk_cell BK690.out 0).trans rfl
       have hcz25_1 : wr.cell? ⟨gb690, 1, none⟩ = some (.slice Ao13 t687.length co13) := (blk_cell BK690.out 1).trans rfl
       have hfz25_0 := blk_frozen BK690.out 0
       have hfz25_1 := blk_frozen BK690.out 1
       go_wp2_with (first | ((with_reducible refine gate_callee (f := 45) rfl ?_); refine goesL_ (some 50) rfl rfl Try.func45 (by kernel_rfl) rfl #[.agg #[.slice Ao10 t684.length co10, .slice Ao13 t687.length co13], .int .i64 x10_2, .slice none 0 0] rfl zqE ?_; (refine (pianolalaw04_course.calls k2 _ _ t684 _ _ t687 x10_2 _ _ ([] : List Int) t695 t698 _ ?side1 ?side2 ?side3 ?side4 ?side5 ?side6 A23.out).mono ?_); (case side1 => exact zqK (Kd.N_reads' HO_691000.out).2.2); (case side2 => exact (Kd.N_reads' HO_691000.out).2.1); (case side3 => exact zqK (Kd.N_reads' HO_691001.out).2.2); (case side4 => exact (Kd.N_reads' HO_691001.out).2.1); (case side5 => exact Kd.C_nil _ _); (case side6 => exact Nat.le_refl _); rintro e w26 ⟨v696, v699, rfl, ho0, ho1, hb⟩; refine ⟨_, rfl, ?_⟩; have n0_ := zA (Kd.N_mono (Kd.N_told (Kd.N_told (Kd.N_old (zqN HO_691000.out) hb) (Kd.S_base ho0)) (Kd.S_base ho1)) (fun _ h_ => h_.1)); have n1_ := zA (Kd.N_mono (Kd.N_told (Kd.N_told (Kd.N_old (zqN HO_691001.out) hb) (Kd.S_base ho0)) (Kd.S_base ho1)) (fun _ h_ => h_.1)); have n2_ := zA (Kd.N_lower (Kd.N_mono (ok' := fun k_ => some k_ ≠ (v699 : Value).ownBlock ∧ some k_ ≠ (.slice Ao10 t684.length co10 : Value).ownBlock ∧ some k_ ≠ (.slice Ao13 t687.length co13 : Value).ownBlock ∧ k_ ≠ gb683 ∧ k_ ≠ gb690) (Kd.S_N (Kd.S_bound ho0)) (fun k_ hk_ => ⟨hk_.1, (Kd.fresh' (Kd.N_lt (zqN HO_691000.out)) k_ hk_.2.1), (Kd.fresh' (Kd.N_lt (zqN HO_691001.out)) k_ hk_.2.1), (Kd.freshB (g := gb683) (o := .cells #[.slice A0_0 l0_0.length c0_0, .slice A0_1 l0_1.length c0_1, .slice A0_2 l0_2.length c0_2, .slice A0_3 l0_3.length c0_3, .bool a0_4, .bool false] 79 (0, 0)) (zqB BK683.out) k_ hk_.2.1), (Kd.freshB (g := gb690) (o := .cells #[.slice Ao10 t684.length co10, .slice Ao13 t687.length co13] 40 (0, 0)) (zqB BK690.out) k_ hk_.2.1)⟩)) (below_size (zqH HB.out GE683.out GE690.out))); have n3_ := zA (Kd.N_lower (Kd.N_mono (ok' := fun k_ => some k_ ≠ (v696 : Value).ownBlock ∧ some k_ ≠ (.slice Ao10 t684.length co10 : Value).ownBlock ∧ some k_ ≠ (.slice Ao13 t687.length co13 : Value).ownBlock ∧ k_ ≠ gb683 ∧ k_ ≠ gb690) (Kd.S_N (Kd.S_bound ho1)) (fun k_ hk_ => ⟨hk_.1, (Kd.fresh' (Kd.N_lt (zqN HO_691000.out)) k_ hk_.2.1), (Kd.fresh' (Kd.N_lt (zqN HO_691001.out)) k_ hk_.2.1), (Kd.freshB (g := gb683) (o := .cells #[.slice A0_0 l0_0.length c0_0, .slice A0_1 l0_1.length c0_1, .slice A0_2 l0_2.length c0_2, .slice A0_3 l0_3.length c0_3, .bool a0_4, .bool false] 79 (0, 0)) (zqB BK683.out) k_ hk_.2.1), (Kd.freshB (g := gb690) (o := .cells #[.slice Ao10 t684.length co10, .slice Ao13 t687.length co13] 40 (0, 0)) (zqB BK690.out) k_ hk_.2.1)⟩)) (below_size (zqH HB.out GE683.out GE690.out))); have n4_ := zA (blk_below (g := gb683) (o := .cells #[.slice A0_0 l0_0.length c0_0, .slice A0_1 l0_1.length c0_1, .slice A0_2 l0_2.length c0_2, .slice A0_3 l0_3.length c0_3, .bool a0_4, .bool false] 79 (0, 0)) (zqB BK683.out) hb); have n5_ := zA (blk_below (g := gb690) (o := .cells #[.slice Ao10 t684.length co10, .slice Ao13 t687.length co13] 40 (0, 0)) (zqB BK690.out) hb); have n6_ := zA (below_step (zqH HB.out GE683.out GE690.out) hb); clear HO_691000; clear HO_691001; clear BK683; clear BK690; clear HB; have HO_691000 := n0_; have HO_691001 := n1_; have HO697 := n2_; have HO700 := n3_; have BK683 := n4_; have BK690 := n5_; have HB := n6_; clear n0_ n1_ n2_ n3_ n4_ n5_ n6_; (try clear hb); (try clear hb2); (try clear hk); (try clear hi); (try clear ho0); (try clear ho1)) | ((with_reducible refine gate_dst (N := 11) rfl ?_); refine box_event ?hg (N := 11) ?hd (cs := #[.slice none 0 0, .slice none 0 0]) (t := 56) ?hr ?_; (case hd => rfl); (case hg => rfl); (case hr => first | (go_simp; done) | (go_simp; rfl)); intro gb701 hg w27 hbox hb; have n0_ := zA (Kd.N_below (Kd.N_elderB (zqN HO_691000.out) gb701 (Nat.le_of_eq hg.symm)) hb); have n1_ := zA (Kd.N_below (Kd.N_elderB (zqN HO_691001.out) gb701 (Nat.le_of_eq hg.symm)) hb); have n2_ := zA (Kd.N_below (Kd.N_elderB (zqN HO697.out) gb701 (Nat.le_of_eq hg.symm)) hb); have n3_ := zA (Kd.N_below (Kd.N_elderB (zqN HO700.out) gb701 (Nat.le_of_eq hg.symm)) hb); have n4_ := zA (blk_below (g := gb683) (o := .cells #[.slice A0_0 l0_0.length c0_0, .slice A0_1 l0_1.length c0_1, .slice A0_2 l0_2.length c0_2, .slice A0_3 l0_3.length c0_3, .bool a0_4, .bool false] 79 (0, 0)) (zqB BK683.out) hb); have n5_ := zA (blk_below (g := gb690) (o := .cells #[.slice Ao10 t684.length co10, .slice Ao13 t687.length co13] 40 (0, 0)) (zqB BK690.out) hb); have n6_ := zA (below_step (zqH HB.out GE683.out GE690.out) hb); have n7_ := zA (hbox); have n8_ := zA ((by rw [hg]; exact (below_size (zqH HB.out GE683.out GE690.out)) : w.heap.size ≤ gb701)); have n9_ := zA ((by rw [hg]; exact (below_size (zqH HB.out GE683.out GE690.out)) : w.heap.size ≤ gb701)); have n10_ := zA ((by rw [hg]; exact Nat.ne_of_lt (blk_lt (g := gb683) (o := .cells #[.slice A0_0 l0_0.length c0_0, .slice A0_1 l0_1.length c0_1, .slice A0_2 l0_2.length c0_2, .slice A0_3 l0_3.length c0_3, .bool a0_4, .bool false] 79 (0, 0)) (zqB BK683.out)) : gb683 ≠ gb701)); have n11_ := zA ((by rw [hg]; exact Nat.ne_of_gt (blk_lt (g := gb683) (o := .cells #[.slice A0_0 l0_0.length c0_0, .slice A0_1 l0_1.length c0_1, .slice A0_2 l0_2.length c0_2, .slice A0_3 l0_3.length c0_3, .bool a0_4, .bool false] 79 (0, 0)) (zqB BK683.out)) : gb701 ≠ gb683)); have n12_ := zA ((by rw [hg]; exact Nat.ne_of_lt (blk_lt (g := gb690) (o := .cells #[.slice Ao10 t684.length co10, .slice Ao13 t687.length co13] 40 (0, 0)) (zqB BK690.out)) : gb690 ≠ gb701)); have n13_ := zA ((by rw [hg]; exact Nat.ne_of_gt (blk_lt (g := gb690) (o := .cells #[.slice Ao10 t684.length co10, .slice Ao13 t687.length co13] 40 (0, 0)) (zqB BK690.out)) : gb701 ≠ gb690)); clear HO_691000; clear HO_691001; clear HO697; clear HO700; clear BK683; clear BK690; clear HB; have HO_691000 := n0_; have HO_691001 := n1_; have HO697 := n2_; have HO700 := n3_; have BK683 := n4_; have BK690 := n5_; have HB := n6_; have BK701 := n7_; have GW701 := n8_; have GE701 := n9_; have NB683_701 := n10_; have NB701_683 := n11_; have NB690_701 := n12_; have NB701_690 := n13_; clear n0_ n1_ n2_ n3_ n4_ n5_ n6_ n7_ n8_ n9_ n10_ n11_ n12_ n13_; clear hb hbox hg; obtain ⟨Ao28, co28, eo28⟩ := Kd.N_slice HO697.out; subst eo28; have hnb29 := NB701_683.out; have hnc29 := NB683_701.out; have hnb30 := NB701_690.out; have hnc30 := NB690_701.out; have hcz31_0 : w27.cell? ⟨gb701, 0, none⟩ = some (.slice none 0 0) := (blk_cell BK701.out 0).trans rfl; have hcz31_1 : w27.cell? ⟨gb701, 1, none⟩ = some (.slice none 0 0) := (blk_cell BK701.out 1).trans rfl; have hfz31_0 := blk_frozen BK701.out 0; have hfz31_1 := blk_frozen BK701.out 1; obtain ⟨Ao32, co32, eo32⟩ := Kd.N_slice HO700.out; subst eo32))
       go_loopg [12, 54] k2 (fun kq v12 v54 w' => ∃ (x12_3 : Int) (x54_3 : Int), v12 = .int .i64 x12_3 ∧ v54 = .int .i64 x54_3 ∧ Aside0 (pianolalaw04_PumpWaits.l1 kq (Int.tmod (wrap64 (a1)) 10) x7_4 x9_2 x10_2 x12_3 t695 (t695.length : Int) x54_3 t684 t687 = some r) ∧ Aside0 (kq ≤ k2) ∧ Aside0 (Kd.N (Kd.slice 3 (Kd.int .i64)) 30 w' w.heap.size (fun k_ => some k_ ≠ ((.slice Ao10 t684.length co10) : Value).ownBlock ∧ some k_ ≠ ((.slice Ao13 t687.length co13) : Value).ownBlock ∧ some k_ ≠ ((.slice Ao32 t698.length co32) : Value).ownBlock ∧ k_ ≠ gb683 ∧ k_ ≠ gb690 ∧ k_ ≠ gb701) (.slice Ao28 t695.length co28) t695) ∧ Aside0 (Kd.N (Kd.slice 71 k71) 22 w' w.heap.size (fun k_ => some k_ ≠ ((.slice Ao28 t695.length co28) : Value).ownBlock ∧ some k_ ≠ ((.slice Ao13 t687.length co13) : Value).ownBlock ∧ some k_ ≠ ((.slice Ao28 t695.length co28) : Value).ownBlock ∧ some k_ ≠ ((.slice Ao32 t698.length co32) : Value).ownBlock ∧ k_ ≠ gb683 ∧ k_ ≠ gb690 ∧ k_ ≠ gb701) (.slice Ao10 t684.length co10) t684) ∧ Aside0 (Kd.N (Kd.slice 71 k71) 22 w' w.heap.size (fun k_ => some k_ ≠ ((.slice Ao28 t695.length co28) : Value).ownBlock ∧ some k_ ≠ ((.slice Ao10 t684.length co10) : Value).ownBlock ∧ some k_ ≠ ((.slice Ao28 t695.length co28) : Value).ownBlock ∧ some k_ ≠ ((.slice Ao32 t698.length co32) : Value).ownBlock ∧ k_ ≠ gb683 ∧ k_ ≠ gb690 ∧ k_ ≠ gb701) (.slice Ao13 t687.length co13) t687) ∧ Aside0 (Kd.N (Kd.slice 3 (Kd.int .i64)) 30 w' w.heap.size (fun k_ => some k_ ≠ ((.slice Ao10 t684.length co10) : Value).ownBlock ∧ some k_ ≠ ((.slice Ao13 t687.length co13) : Value).ownBlock ∧ some k_ ≠ ((.slice Ao32 t698.length co32) : Value).ownBlock ∧ k_ ≠ gb683 ∧ k_ ≠ gb690 ∧ k_ ≠ gb701) (.slice Ao28 t695.length co28) t695) ∧ Aside0 (Kd.N (Kd.slice 3 (Kd.int .i64)) 30 w' w.heap.size (fun k_ => some k_ ≠ ((.slice Ao28 t695.length co28) : Value).ownBlock ∧ some k_ ≠ ((.slice Ao10 t684.length co10) : Value).ownBlock ∧ some k_ ≠ ((.slice Ao13 t687.length co13) : Value).ownBlock ∧ some k_ ≠ ((.slice Ao28 t695.length co28) : Value).ownBlock ∧ k_ ≠ gb683 ∧ k_ ≠ gb690 ∧ k_ ≠ gb701) (.slice Ao32 t698.length co32) t698) ∧ Aside0 (w'.heap[gb683]? = some (.cells #[(.slice A0_0 l0_0.length c0_0), (.slice A0_1 l0_1.length c0_1), (.slice A0_2 l0_2.length c0_2), (.slice A0_3 l0_3.length c0_3), .bool a0_4, .bool false] 79 (0, 0))) ∧ Aside0 (w'.heap[gb690]? = some (.cells #[(.slice Ao10 t684.length co10), (.slice Ao13 t687.length co13)] 40 (0, 0))) ∧ Aside0 (w'.heap[gb701]? = some (.cells #[(.slice Ao28 t695.length co28), (.slice Ao32 t698.length co32)] 56 (0, 0))) ∧ Aside0 (Below w.heap.size w w'))
       case atStart => exact ⟨(0), (0), zqQ, zqQ, H', ⟨Nat.le_refl _⟩, ⟨by (with_reducible repeat (first | apply Kd.N_alloc | apply Kd.N_drewN | apply Kd.N_drew)); exact Kd.N_mono (Kd.N_far (p := ⟨gb701, 1, none⟩) (Kd.N_far (p := ⟨gb701, 0, none⟩) (Kd.N_mono HO697.out (fun k_ hk => (⟨hk, hk.2⟩ : _ ∧ k_ ≠ gb701))) (fun _ hk => hk.2) (.slice Ao28 t695.length co28)) (fun _ hk => hk.2) (.slice Ao32 t698.length co32)) (fun _ hk => ⟨hk.1.1.2.1, ⟨hk.1.1.2.2.1, ⟨hk.1.1.1, ⟨hk.1.1.2.2.2.1, ⟨hk.1.1.2.2.2.2, hk.1.2⟩⟩⟩⟩⟩)⟩, ⟨by (with_reducible repeat (first | apply Kd.N_alloc | apply Kd.N_drewN | apply Kd.N_drew)); exact Kd.N_mono (Kd.N_far (p := ⟨gb701, 1, none⟩) (Kd.N_far (p := ⟨gb701, 0, none⟩) (Kd.N_mono HO_691000.out (fun k_ hk => (⟨hk, hk.2⟩ : _ ∧ k_ ≠ gb701))) (fun _ hk => hk.2) (.slice Ao28 t695.length co28)) (fun _ hk => hk.2) (.slice Ao32 t698.length co32)) (fun _ hk => ⟨hk.1.1.1.2, ⟨hk.1.1.1.1.1, ⟨hk.1.1.1.2, ⟨hk.1.1.2, ⟨hk.1.1.1.1.2.1, ⟨hk.1.1.1.1.2.2, hk.1.2⟩⟩⟩⟩⟩⟩)⟩, ⟨by (with_reducible repeat (first | apply Kd.N_alloc | apply Kd.N_drewN | apply Kd.N_drew)); exact Kd.N_mono (Kd.N_far (p := ⟨gb701, 1, none⟩) (Kd.N_far (p := ⟨gb701, 0, none⟩) (Kd.N_mono HO_691001.out (fun k_ hk => (⟨hk, hk.2⟩ : _ ∧ k_ ≠ gb701))) (fun _ hk => hk.2) (.slice Ao28 t695.length co28)) (fun _ hk => hk.2) (.slice Ao32 t698.length co32)) (fun _ hk => ⟨hk.1.1.1.2, ⟨hk.1.1.1.1.1, ⟨hk.1.1.1.2, ⟨hk.1.1.2, ⟨hk.1.1.1.1.2.1, ⟨hk.1.1.1.1.2.2, hk.1.2⟩⟩⟩⟩⟩⟩)⟩, ⟨by (with_reducible repeat (first | apply Kd.N_alloc | apply Kd.N_drewN | apply Kd.N_drew)); exact Kd.N_mono (Kd.N_far (p := ⟨gb701, 1, none⟩) (Kd.N_far (p := ⟨gb701, 0, none⟩) (Kd.N_mono HO697.out (fun k_ hk => (⟨hk, hk.2⟩ : _ ∧ k_ ≠ gb701))) (fun _ hk => hk.2) (.slice Ao28 t695.length co28)) (fun _ hk => hk.2) (.slice Ao32 t698.length co32)) (fun _ hk => ⟨hk.1.1.2.1, ⟨hk.1.1.2.2.1, ⟨hk.1.1.1, ⟨hk.1.1.2.2.2.1, ⟨hk.1.1.2.2.2.2, hk.1.2⟩⟩⟩⟩⟩)⟩, ⟨by (with_reducible repeat (first | apply Kd.N_alloc | apply Kd.N_drewN | apply Kd.N_drew)); exact Kd.N_mono (Kd.N_far (p := ⟨gb701, 1, none⟩) (Kd.N_far (p := ⟨gb701, 0, none⟩) (Kd.N_mono HO700.out (fun k_ hk => (⟨hk, hk.2⟩ : _ ∧ k_ ≠ gb701))) (fun _ hk => hk.2) (.slice Ao28 t695.length co28)) (fun _ hk => hk.2) (.slice Ao32 t698.length co32)) (fun _ hk => ⟨hk.1.1.1, ⟨hk.1.1.2.1, ⟨hk.1.1.2.2.1, ⟨hk.1.1.1, ⟨hk.1.1.2.2.2.1, ⟨hk.1.1.2.2.2.2, hk.1.2⟩⟩⟩⟩⟩⟩)⟩, ⟨by (with_reducible repeat (first | refine blk_drewN ?_ _ | refine blk_drew ?_ | refine blk_alloc ?_ _)); refine blk_far ?_ NB683_701.out _; (with_reducible repeat (first | refine blk_drewN ?_ _ | refine blk_drew ?_ | refine blk_alloc ?_ _)); refine blk_far ?_ NB683_701.out _; (with_reducible repeat (first | refine blk_drewN ?_ _ | refine blk_drew ?_ | refine blk_alloc ?_ _)); exact BK683.out⟩, ⟨by (with_reducible repeat (first | refine blk_drewN ?_ _ | refine blk_drew ?_ | refine blk_alloc ?_ _)); refine blk_far ?_ NB690_701.out _; (with_reducible repeat (first | refine blk_drewN ?_ _ | refine blk_drew ?_ | refine blk_alloc ?_ _)); refine blk_far ?_ NB690_701.out _; (with_reducible repeat (first | refine blk_drewN ?_ _ | refine blk_drew ?_ | refine blk_alloc ?_ _)); exact BK690.out⟩, ⟨by (with_reducible repeat (first | refine blk_drewN ?_ _ | refine blk_drew ?_ | refine blk_alloc ?_ _)); refine blk_put (cs := #[.slice Ao28 t695.length co28, .slice none 0 0]) ?_ 1 _ rfl; (with_reducible repeat (first | refine blk_drewN ?_ _ | refine blk_drew ?_ | refine blk_alloc ?_ _)); refine blk_put (cs := #[.slice none 0 0, .slice none 0 0]) ?_ 0 _ rfl; (with_reducible repeat (first | refine blk_drewN ?_ _ | refine blk_drew ?_ | refine blk_alloc ?_ _)); exact BK701.out⟩, ⟨zqI HB.out GE683.out GE690.out GE701.out⟩⟩
       case round =>
        clear H'
        try clear c1
        try clear c2
        try clear p2
        try clear c3
        try clear c4
        try clear p6
        try clear c10
        try clear c11
        try clear c15
        try clear c15b0
        try clear c15b1
        try clear c16
        try clear c16b0
        try clear c16b1
        try clear c17
        try clear c17b0
        try clear c18
        try clear c18b0
        try clear c19
        try clear c19b0
        try clear c19b1
        try clear c22
        try clear c22b0
        try clear c24
        try clear c29
        try clear c30
        try clear c32
        try clear hcz12_0
        try clear hcz12_1
        try clear hcz25_0
        try clear hcz25_1
        try clear hcz31_0
        try clear hcz31_1
        try clear hcz7_0
        try clear hcz7_1
        try clear hcz7_2
        try clear hcz7_3
        try clear hcz7_4
        try clear hcz7_5
        try clear hfz12_0
        try clear hfz12_1
        try clear hfz25_0
        try clear hfz25_1
        try clear hfz31_0
        try clear hfz31_1
        try clear hfz7_0
        try clear hfz7_1
        try clear hfz7_2
        try clear hfz7_3
        try clear hfz7_4
        try clear hfz7_5
        try clear p2
        try clear p6
        obtain ⟨x12_3, x54_3, rfl, rfl, HA, HK3, HO_52, HO_691000, HO_691001, HO_702000, HO_702001, BK683, BK690, BK701, HB⟩ := hrel
        cases gk with
        | zero => exact absurd HA.out (by simp [pianolalaw04_PumpWaits.l1])
        | succ k3 =>
         have H := HA.out
         clear HA
         simp only [pianolalaw04_PumpWaits.l1] at H
         by_cases c33 : x54_3 < (t695.length : Int)
         ·
          rw [if_pos c33] at H
          have c33b0 : decide (x54_3 < (t695.length : Int)) = true := decide_eq_true c33
          clear c33
          by_cases c34 : 0 ≤ x54_3
          ·
           rw [if_pos c34] at H
           have c34b0 : decide (0 ≤ x54_3) = true := decide_eq_true c34
           clear c34
           by_cases c35 : x54_3 < (t695.length : Int)
           ·
            rw [if_pos c35] at H
            have c35b0 : decide (x54_3 < (t695.length : Int)) = true := decide_eq_true c35
            clear c35
            replace H := Option.bind_eq_some_iff.mp H
            obtain ⟨t703, A360, H⟩ := H
            replace H : (pianolalaw04_PumpWaits.l1 k3 (Int.tmod (wrap64 (a1)) 10) x7_4 x9_2 x10_2 (wrap64 (x12_3 + t703)) t695 (t695.length : Int) (wrap64 (x54_3 + 1)) t684 t687) = some r := H
            have A36 := zA A360
            clear A360
            have H' := zA H
            clear H
            have p702 : 0 ≤ (x54_3 : Int) := of_decide_eq_true (zqD)
            have q702 : x54_3 < (t695.length : Int) := of_decide_eq_true (zqD)
            obtain ⟨ad702, A702_0, c702_0, e702, hx702_0, hl702_0, hi702_0⟩ := at_L6 (Kd.N_reads' HO_52.out).2.2 x54_3 p702 q702
            cases e702
            obtain ⟨ce702, hce702, hMe702, hcc702⟩ := Kd.N_get HO_52.out [] x54_3 p702 (by first | exact q702 | exact of_decide_eq_true (zqD) | (have e_ := (Kd.N_reads' HO_52.out).1; omega))
            obtain ⟨ua702_0, uc702_0, rfl, ul702_0, ge702_0⟩ := Kd.FK_slice_open hMe702
            have hv702_0 := hcc702 0 _ rfl
            rw [Nat.add_zero, show ((Kd.slice 3 (Kd.int .i64))).sz = 1 from rfl, Nat.mul_one] at hv702_0
            replace hv702_0 := Option.some.inj (hv702_0.symm.trans hx702_0)
            injection hv702_0 with hva_ hvn_ hvc_
            rw [hva_] at ge702_0
            rw [hvc_] at ul702_0
            have HL702_0 := zA (show Kd.V (Kd.int .i64) 3 _ w.heap.size _ _ (rd_L6 t695 x54_3) from Kd.V_mk ul702_0 ge702_0)
            clear hva_ hvn_ hvc_ ge702_0 ul702_0 hcc702 hce702
            have HR702_0 := zA hi702_0
            have HC702_0 := zA hl702_0
            clear hi702_0 hl702_0; replace p702 := eq_true p702; replace q702 := eq_true q702
            go_wp2_with (first | ((with_reducible refine gate_callee (f := 43) rfl ?_); refine goesL_ (some 61) rfl rfl Try.func43 (by kernel_rfl) rfl #[.slice A702_0 (rd_L6 t695 x54_3).length c702_0, .int .i64 0, .int .i64 x10_2] rfl zqE ?_; (with_reducible refine (pianolalaw04_sums.calls k3 _ _ (rd_L6 t695 x54_3) 0 x10_2 t703 _ ?side1 ?side2 A36.out).mono ?_); (case side1 => repeat (first | exact (by repeat (first | (with_reducible exact HR702_0.out) | (with_reducible refine Kd.C_alloc ?_ _) | (with_reducible refine Kd.C_drewN ?_ _) | (with_reducible refine Kd.C_drew ?_) | exact HR702_0.out)) | (with_reducible refine Kd.C_alloc ?_ _) | (with_reducible refine Kd.C_drewN ?_ _) | (with_reducible refine Kd.C_drew ?_))); (case side2 => exact HC702_0.out); rintro e w' ⟨rfl, ⟨nd, rfl⟩⟩; refine ⟨_, rfl, ?_⟩))
            go_roundg k3
            case measure => have := HJ4.out; have := HK2.out; have := HK3.out; omega
            case rel => exact ⟨(wrap64 (x12_3 + t703)), (wrap64 (x54_3 + 1)), zqQ, zqQ, H', ⟨by have := HJ4.out; have := HK2.out; have := HK3.out; omega⟩, ⟨zqN HO_52.out⟩, ⟨zqN HO_691000.out⟩, ⟨zqN HO_691001.out⟩, ⟨zqN HO_702000.out⟩, ⟨zqN HO_702001.out⟩, ⟨zqB BK683.out⟩, ⟨zqB BK690.out⟩, ⟨zqB BK701.out⟩, ⟨zqI HB.out GE683.out GE690.out GE701.out⟩⟩
           ·
            rw [if_neg c35] at H
            exact absurd H (by simp)
          ·
           rw [if_neg c34] at H
           exact absurd H (by simp)
         ·
          rw [if_neg c33] at H
          have c33b0 : decide (x54_3 < (t695.length : Int)) = false := decide_eq_false c33
          clear c33
          by_cases c37 : x9_2 = true
          ·
           subst c37
           have H1 : (pianolalaw04_PumpWaits.l0 k3 (Int.tmod (wrap64 (a1)) 10) x7_4 true (wrap64 (x10_2 + 1)) t684 t687) = some r := by rw [if_pos rfl] at H; exact H
           clear H; have H := H1; clear H1
           have H' := zA H
           clear H
           go_wp2
           go_roundg k3
           case measure => have := HJ4.out; have := HK2.out; have := HK3.out; omega
           case rel => exact ⟨(true), (wrap64 (x10_2 + 1)), zqQ, zqQ, H', ⟨by have := HJ4.out; have := HK2.out; have := HK3.out; omega⟩, ⟨by (with_reducible repeat (first | apply Kd.N_alloc | apply Kd.N_drewN | apply Kd.N_drew)); exact Kd.N_mono HO_691000.out (fun _ hk => ⟨hk.2.1, ⟨hk.2.2.2.2.1, hk.2.2.2.2.2.1⟩⟩)⟩, ⟨by (with_reducible repeat (first | apply Kd.N_alloc | apply Kd.N_drewN | apply Kd.N_drew)); exact Kd.N_mono HO_691001.out (fun _ hk => ⟨hk.2.1, ⟨hk.2.2.2.2.1, hk.2.2.2.2.2.1⟩⟩)⟩, ⟨zqB BK683.out⟩, ⟨zqB BK690.out⟩, ⟨zqI HB.out GE683.out GE690.out GE701.out⟩⟩
          ·
           replace c37 := Bool.eq_false_iff.mpr c37
           subst c37
           have H1 : (if 0 < (t687.length : Int) then ((pianolalaw04_capacity.f k3 (rd_L4 t687 0) (wrap64 ((wrap64 (x10_2 + x7_4)) - 1)) ([] : List Int)).bind fun t705 => ((pianolalaw04_sums.f k3 t705 0 (wrap64 ((wrap64 (x10_2 + x7_4)) - 1))).bind fun t708 => (pianolalaw04_PumpWaits.l0 k3 (Int.tmod (wrap64 (a1)) 10) x7_4 (decide (t708 < x12_3)) (wrap64 (x10_2 + 1)) t684 t687))) else (none)) = some r := by rw [if_neg (show ¬ (false = true) by decide)] at H; exact H
           clear H; have H := H1; clear H1
           by_cases c38 : 0 < (t687.length : Int)
           ·
            rw [if_pos c38] at H
            have c38b0 : decide (0 < (t687.length : Int)) = true := decide_eq_true c38
            have c38b1 : decide (0 < t687.length) = true := decide_eq_true (by omega)
            clear c38
            replace H := Option.bind_eq_some_iff.mp H
            obtain ⟨t705, A390, H⟩ := H
            replace H : ((pianolalaw04_sums.f k3 t705 0 (wrap64 ((wrap64 (x10_2 + x7_4)) - 1))).bind fun t708 => (pianolalaw04_PumpWaits.l0 k3 (Int.tmod (wrap64 (a1)) 10) x7_4 (decide (t708 < x12_3)) (wrap64 (x10_2 + 1)) t684 t687)) = some r := H
            have A39 := zA A390
            clear A390
            replace H := Option.bind_eq_some_iff.mp H
            obtain ⟨t708, A400, H⟩ := H
            replace H : (pianolalaw04_PumpWaits.l0 k3 (Int.tmod (wrap64 (a1)) 10) x7_4 (decide (t708 < x12_3)) (wrap64 (x10_2 + 1)) t684 t687) = some r := H
            have A40 := zA A400
            clear A400
            have H' := zA H
            clear H
            have hnb41 := NB690_683.out
            have hnc41 := NB683_690.out
            have hnb42 := NB690_701.out
            have hnc42 := NB701_690.out
            have hcz43_0 : wr.cell? ⟨gb690, 0, none⟩ = some (.slice Ao10 t684.length co10) := (blk_cell BK690.out 0).trans rfl
            have hcz43_1 : wr.cell? ⟨gb690, 1, none⟩ = some (.slice Ao13 t687.length co13) := (blk_cell BK690.out 1).trans rfl
            have hfz43_0 := blk_frozen BK690.out 0
            have hfz43_1 := blk_frozen BK690.out 1
            have p704 : 0 ≤ (0 : Int) := (by omega)
            have q704 : 0 < (t687.length : Int) := of_decide_eq_true (zqD)
            obtain ⟨ad704, A704_0, c704_0, e704, hx704_0, hl704_0, hi704_0⟩ := at_L4 (Kd.N_reads' HO_691001.out).2.2 0 p704 q704
            cases e704
            obtain ⟨ce704, hce704, hMe704, hcc704⟩ := Kd.N_get HO_691001.out [] 0 p704 (by first | exact q704 | exact of_decide_eq_true (zqD) | (have e_ := (Kd.N_reads' HO_691001.out).1; omega))
            obtain ⟨ua704_0, uc704_0, rfl, ul704_0, ge704_0⟩ := Kd.FK_slice_open hMe704
            have hv704_0 := hcc704 0 _ rfl
            rw [Nat.add_zero, show ((Kd.slice 71 k71)).sz = 1 from rfl, Nat.mul_one] at hv704_0
            replace hv704_0 := Option.some.inj (hv704_0.symm.trans hx704_0)
            injection hv704_0 with hva_ hvn_ hvc_
            rw [hva_] at ge704_0
            rw [hvc_] at ul704_0
            have HL704_0 := zA (show Kd.V k71 71 _ w.heap.size _ _ (rd_L4 t687 0) from Kd.V_mk ul704_0 ge704_0)
            clear hva_ hvn_ hvc_ ge704_0 ul704_0 hcc704 hce704
            have qi704 : (0 < t687.length) = True := eq_true (by omega)
            (try rw [show ((0 : Int)).toNat = 0 from rfl] at hx704_0)
            (try rw [Addr.add_zero'] at hx704_0)
            have HR704_0 := zA hi704_0
            have HC704_0 := zA hl704_0
            clear hi704_0 hl704_0; replace p704 := eq_true p704; replace q704 := eq_true q704
            go_wp2_with (first | (go_at_call 42; (refine (pianolalaw04_capacity.calls k3 _ _ (rd_L4 t687 0) (wrap64 ((wrap64 (x10_2 + x7_4)) - 1)) _ _ ([] : List Int) t705 _ ?side1 ?side2 ?side3 ?side4 A39.out).mono ?_); (case side1 => repeat (first | exact (by repeat (first | (with_reducible exact HR704_0.out) | (with_reducible refine Kd.C_alloc ?_ _) | (with_reducible refine Kd.C_drewN ?_ _) | (with_reducible refine Kd.C_drew ?_) | exact HR704_0.out)) | (with_reducible refine Kd.C_alloc ?_ _) | (with_reducible refine Kd.C_drewN ?_ _) | (with_reducible refine Kd.C_drew ?_))); (case side2 => exact HC704_0.out); (case side3 => exact Kd.C_nil _ _); (case side4 => exact Nat.le_refl _); rintro e w44 ⟨v706, rfl, ho0, hb⟩; have n0_ := zA (Kd.N_elder' (zqN HO_52.out) (Kd.R_base ho0) hb); have n1_ := zA (Kd.N_elder' (zqN HO_691000.out) (Kd.R_base ho0) hb); have n2_ := zA (Kd.N_elder' (zqN HO_691001.out) (Kd.R_base ho0) hb); have n3_ := zA (Kd.N_elder' (zqN HO_702000.out) (Kd.R_base ho0) hb); have n4_ := zA (Kd.N_elder' (zqN HO_702001.out) (Kd.R_base ho0) hb); have n5_ := zA (Kd.V_elder' (by (with_reducible repeat (first | apply Kd.V_alloc | apply Kd.V_drewN | apply Kd.V_drew)); exact HL704_0.out) (Kd.R_base ho0) hb); have n6_ := zA (Kd.R_lower ho0 (below_size (zqI HB.out GE683.out GE690.out GE701.out))); have n7_ := zA (blk_below (g := gb683) (o := .cells #[.slice A0_0 l0_0.length c0_0, .slice A0_1 l0_1.length c0_1, .slice A0_2 l0_2.length c0_2, .slice A0_3 l0_3.length c0_3, .bool a0_4, .bool false] 79 (0, 0)) (zqB BK683.out) hb); have n8_ := zA (blk_below (g := gb690) (o := .cells #[.slice Ao10 t684.length co10, .slice (some ad704) t687.length co13] 40 (0, 0)) (zqB BK690.out) hb); have n9_ := zA (blk_below (g := gb701) (o := .cells #[.slice Ao28 t695.length co28, .slice Ao32 t698.length co32] 56 (0, 0)) (zqB BK701.out) hb); have n10_ := zA (Kd.C_below (by repeat (first | (with_reducible exact HR704_0.out) | (with_reducible refine Kd.C_alloc ?_ _) | (with_reducible refine Kd.C_drewN ?_ _) | (with_reducible refine Kd.C_drew ?_) | exact HR704_0.out)) hb); have n11_ := zA (below_step (zqI HB.out GE683.out GE690.out GE701.out) hb); clear HO_52; clear HO_691000; clear HO_691001; clear HO_702000; clear HO_702001; clear HL704_0; clear BK683; clear BK690; clear BK701; clear HR704_0; clear HB; have HO_52 := n0_; have HO_691000 := n1_; have HO_691001 := n2_; have HO_702000 := n3_; have HO_702001 := n4_; have HL704_0 := n5_; have HO707 := n6_; have BK683 := n7_; have BK690 := n8_; have BK701 := n9_; have HR704_0 := n10_; have HB := n11_; clear n0_ n1_ n2_ n3_ n4_ n5_ n6_ n7_ n8_ n9_ n10_ n11_; (try clear hb); (try clear hb2); (try clear hk); (try clear hi); (try clear ho0); obtain ⟨Ao45, co45, eo45⟩ := Kd.R_slice HO707.out; subst eo45) | (go_at_call 43; (with_reducible refine (pianolalaw04_sums.calls k3 _ _ t705 0 (wrap64 ((wrap64 (x10_2 + x7_4)) - 1)) t708 _ ?side1 ?side2 A40.out).mono ?_); (case side1 => exact zqK (Kd.R_reads' HO707.out).2.2); (case side2 => exact (Kd.R_reads' HO707.out).2.1); rintro e w' ⟨rfl, ⟨nd, rfl⟩⟩))
            go_roundg k3
            case measure => have := HJ4.out; have := HK2.out; have := HK3.out; omega
            case rel => exact ⟨(decide (t708 < x12_3)), (wrap64 (x10_2 + 1)), zqQ, zqQ, H', ⟨by have := HJ4.out; have := HK2.out; have := HK3.out; omega⟩, ⟨by (with_reducible repeat (first | apply Kd.N_alloc | apply Kd.N_drewN | apply Kd.N_drew)); exact Kd.N_mono HO_691000.out (fun _ hk => ⟨hk.1.2.1, ⟨hk.1.2.2.2.2.1, hk.1.2.2.2.2.2.1⟩⟩)⟩, ⟨by (with_reducible repeat (first | apply Kd.N_alloc | apply Kd.N_drewN | apply Kd.N_drew)); exact Kd.N_mono HO_691001.out (fun _ hk => ⟨hk.1.2.1, ⟨hk.1.2.2.2.2.1, hk.1.2.2.2.2.2.1⟩⟩)⟩, ⟨zqB BK683.out⟩, ⟨zqB BK690.out⟩, ⟨zqI HB.out GE683.out GE690.out GE701.out⟩⟩
           ·
            rw [if_neg c38] at H
            exact absurd H (by simp)
      ·
       rw [if_neg c22] at H
       have c22b0 : decide (x10_2 ≤ (Int.tmod (wrap64 (a1)) 10)) = false := decide_eq_false c22
       clear c22
       by_cases c46 : x9_2 = true
       ·
        subst c46
        have H1 : ((pianolalaw04_works.f).bind fun t694 => (some t694)) = some r := by rw [if_pos rfl] at H; exact H
        clear H; have H := H1; clear H1
        replace H := Option.bind_eq_some_iff.mp H
        obtain ⟨t694, A470, H⟩ := H
        replace H : (some t694) = some r := H
        have A47 := zA A470
        clear A470
        obtain rfl := Option.some.inj H
        go_wp2_with (first | (go_at_call 15; (with_reducible refine (pianolalaw04_works.calls  t694 _ A47.out).mono ?_); rintro e w48 ⟨rfl, hb⟩; have n0_ := zA (Kd.N_below (zqN HO_691000.out) hb); have n1_ := zA (Kd.N_below (zqN HO_691001.out) hb); have n2_ := zA (blk_below (g := gb683) (o := .cells #[.slice A0_0 l0_0.length c0_0, .slice A0_1 l0_1.length c0_1, .slice A0_2 l0_2.length c0_2, .slice A0_3 l0_3.length c0_3, .bool a0_4, .bool false] 79 (0, 0)) (zqB BK683.out) hb); have n3_ := zA (blk_below (g := gb690) (o := .cells #[.slice Ao10 t684.length co10, .slice Ao13 t687.length co13] 40 (0, 0)) (zqB BK690.out) hb); have n4_ := zA (below_step (zqH HB.out GE683.out GE690.out) hb); clear HO_691000; clear HO_691001; clear BK683; clear BK690; clear HB; have HO_691000 := n0_; have HO_691001 := n1_; have BK683 := n2_; have BK690 := n3_; have HB := n4_; clear n0_ n1_ n2_ n3_ n4_; (try clear hb); (try clear hb2); (try clear hk); (try clear hi)))
        go_ret
        exact ⟨zqR, zqH HB.out GE683.out GE690.out⟩
       ·
        replace c46 := Bool.eq_false_iff.mpr c46
        subst c46
        have H1 : (some false) = some r := by rw [if_neg (show ¬ (false = true) by decide)] at H; exact H
        clear H; have H := H1; clear H1
        exact absurd ((Option.some.inj H).trans HRT.out) (by decide)end Go.Proofs.Ythoeindopljmkaa.P
end
section
namespace Pm
abbrev B2 := Int × Int
structure Bds (L : List B2) : Prop where
  ne : L ≠ []
  t : ∀ b ∈ L, 1 ≤ b.1 ∧ b.1 ≤ 100
  a : ∀ b ∈ L, 0 ≤ b.2 ∧ b.2 ≤ 1000000
def minFrom (f : B2 → Int) : List B2 → Int → Int → Int → Int × Int
  | [], _, s, k => (s, k)
  | b :: l, i, s, k => if i = 0 ∨ f b < s then minFrom f l (i + 1) (f b) i else minFrom f l (i + 1) s k
def maxFrom (n : Int) (f : B2 → Int) : List B2 → Int → Int → Int → Int × Int
  | [], _, s, k => (s, k)
  | b :: l, i, s, k => if b.1 ≤ n ∧ f b > s then maxFrom n f l (i + 1) (f b) i else maxFrom n f l (i + 1) s k
theorem minFrom_le (f : B2 → Int) : ∀ (l : List B2) (i s k : Int), 0 < i → (minFrom f l i s k).1 ≤ s ∧ ∀ b ∈ l, (minFrom f l i s k).1 ≤ f b
  | [], _, s, k, _ => ⟨Int.le_refl _, fun _ h => by cases h⟩
  | b :: l, i, s, k, hi => by
    unfold minFrom
    by_cases c : i = 0 ∨ f b < s
    · rw [if_pos c]
      obtain ⟨h1, h2⟩ := minFrom_le f l (i + 1) (f b) i (by omega)
      refine ⟨by omega, fun x hx => ?_⟩
      cases hx with
      | head => exact h1
      | tail _ hx => exact h2 x hx
    · rw [if_neg c]
      obtain ⟨h1, h2⟩ := minFrom_le f l (i + 1) s k (by omega)
      refine ⟨h1, fun x hx => ?_⟩
      cases hx with
      | head => omega
      | tail _ hx => exact h2 x hx
theorem minFrom_at (f : B2 → Int) : ∀ (l pre : List B2) (s k : Int), (k = -1 ∧ pre = [] ∨ ∃ j : Nat, k = j ∧ ∃ b, (pre ++ l)[j]? = some b ∧ j < pre.length ∧ f b = s) →
    (minFrom f l (pre.length : Int) s k = (s, k) ∧ l = [] ∧ pre = []) ∨ ∃ j : Nat, (minFrom f l (pre.length : Int) s k).2 = j ∧ ∃ b, (pre ++ l)[j]? = some b ∧ f b = (minFrom f l (pre.length : Int) s k).1
  | [], pre, s, k, h => by
    rcases h with ⟨h1, h2⟩ | ⟨j, hj, b, hb, _, hf⟩
    · exact .inl ⟨rfl, rfl, h2⟩
    · exact .inr ⟨j, hj, b, hb, hf⟩
  | b :: l, pre, s, k, h => by
    have e : pre ++ b :: l = (pre ++ [b]) ++ l := by simp
    have el : ((pre ++ [b]).length : Int) = (pre.length : Int) + 1 := by simp
    unfold minFrom
    by_cases c : (pre.length : Int) = 0 ∨ f b < s
    · rw [if_pos c, ← el, e]
      rcases minFrom_at f l (pre ++ [b]) (f b) pre.length (.inr ⟨pre.length, rfl, b, by simp, by simp, rfl⟩) with ⟨_, _, h3⟩ | h
      · simp at h3
      · exact .inr h
    · rw [if_neg c, ← el, e]
      rcases h with ⟨h1, h2⟩ | ⟨j, hj, x, hx, hlt, hf⟩
      · exact absurd (.inl (by rw [h2]; rfl)) c
      · rcases minFrom_at f l (pre ++ [b]) s k (.inr ⟨j, hj, x, by rw [← e]; exact hx, by simp; omega, hf⟩) with ⟨_, _, h3⟩ | h
        · simp at h3
        · exact .inr h
theorem maxFrom_le (n : Int) (f : B2 → Int) : ∀ (l : List B2) (i s k : Int), s ≤ (maxFrom n f l i s k).1 ∧ ∀ b ∈ l, b.1 ≤ n → f b ≤ (maxFrom n f l i s k).1
  | [], _, s, k => ⟨Int.le_refl _, fun _ h => by cases h⟩
  | b :: l, i, s, k => by
    unfold maxFrom
    by_cases c : b.1 ≤ n ∧ f b > s
    · rw [if_pos c]
      obtain ⟨h1, h2⟩ := maxFrom_le n f l (i + 1) (f b) i
      refine ⟨by omega, fun x hx hn => ?_⟩
      cases hx with
      | head => exact h1
      | tail _ hx => exact h2 x hx hn
    · rw [if_neg c]
      obtain ⟨h1, h2⟩ := maxFrom_le n f l (i + 1) s k
      refine ⟨h1, fun x hx hn => ?_⟩
      cases hx with
      | head => omega
      | tail _ hx => exact h2 x hx hn
theorem maxFrom_at (n : Int) (f : B2 → Int) : ∀ (l pre : List B2) (s0 s k : Int), (k = -1 ∧ s = s0 ∨ ∃ j : Nat, k = j ∧ ∃ b, (pre ++ l)[j]? = some b ∧ f b = s ∧ b.1 ≤ n) →
    ((maxFrom n f l (pre.length : Int) s k).2 = -1 ∧ (maxFrom n f l (pre.length : Int) s k).1 = s0) ∨ ∃ j : Nat, (maxFrom n f l (pre.length : Int) s k).2 = j ∧ ∃ b, (pre ++ l)[j]? = some b ∧ f b = (maxFrom n f l (pre.length : Int) s k).1 ∧ b.1 ≤ n
  | [], pre, s0, s, k, h => by
    rcases h with ⟨h1, h2⟩ | ⟨j, hj, b, hb, hf, hn⟩
    · exact .inl ⟨h1, h2⟩
    · exact .inr ⟨j, hj, b, hb, hf, hn⟩
  | b :: l, pre, s0, s, k, h => by
    have e : pre ++ b :: l = (pre ++ [b]) ++ l := by simp
    have el : ((pre ++ [b]).length : Int) = (pre.length : Int) + 1 := by simp
    unfold maxFrom
    by_cases c : b.1 ≤ n ∧ f b > s
    · rw [if_pos c, ← el, e]
      exact maxFrom_at n f l (pre ++ [b]) s0 (f b) pre.length (.inr ⟨pre.length, rfl, b, by simp, rfl, c.1⟩)
    · rw [if_neg c, ← el, e]
      exact maxFrom_at n f l (pre ++ [b]) s0 s k (by rw [← e]; exact h)
def stepM (L : List B2) (s : List Int) : Int × Int := minFrom (fun b => s.getD (max 0 ((s.length : Int) - b.1)).toNat 0 + b.2) L 0 0 0
def stepL (L : List B2) (s : List Int) : Int × Int := maxFrom (s.length : Int) (fun b => s.getD ((s.length : Int) - b.1).toNat 0 + b.2) L 0 (s.getD (s.length - 1) 0) (-1)
def tabF (R : List Int → Int × Int) : Nat → List Int × List Int
  | 0 => ([0], [-1])
  | n + 1 => ((tabF R n).1 ++ [(R (tabF R n).1).1], (tabF R n).2 ++ [(R (tabF R n).1).2])
theorem tabF_len (R : List Int → Int × Int) : ∀ n, (tabF R n).1.length = n + 1 ∧ (tabF R n).2.length = n + 1
  | 0 => ⟨rfl, rfl⟩
  | n + 1 => by
    obtain ⟨h1, h2⟩ := tabF_len R n
    simp [tabF, h1, h2]
def valF (R : List Int → Int × Int) (n : Nat) : Int := (tabF R n).1.getD n 0
def lastF (R : List Int → Int × Int) (n : Nat) : Int := (tabF R n).2.getD n 0
theorem tabF_get (R : List Int → Int × Int) : ∀ (n m : Nat), m ≤ n → (tabF R n).1.getD m 0 = valF R m ∧ (tabF R n).2.getD m 0 = lastF R m
  | 0, m, h => by
    have : m = 0 := by omega
    subst this
    exact ⟨rfl, rfl⟩
  | n + 1, m, h => by
    by_cases c : m = n + 1
    · subst c; exact ⟨rfl, rfl⟩
    · obtain ⟨h1, h2⟩ := tabF_get R n m (by omega)
      obtain ⟨l1, l2⟩ := tabF_len R n
      simp only [tabF]
      rw [List.getD_eq_getElem?_getD, List.getElem?_append_left (by omega), ← List.getD_eq_getElem?_getD, h1, List.getD_eq_getElem?_getD, List.getElem?_append_left (by omega), ← List.getD_eq_getElem?_getD, h2]
      exact ⟨rfl, rfl⟩
theorem valF_succ (R : List Int → Int × Int) (n : Nat) : valF R (n + 1) = (R (tabF R n).1).1 ∧ lastF R (n + 1) = (R (tabF R n).1).2 := by
  obtain ⟨l1, l2⟩ := tabF_len R n
  unfold valF lastF
  simp only [tabF]
  rw [List.getD_eq_getElem?_getD, List.getElem?_append_right (by omega), List.getD_eq_getElem?_getD, List.getElem?_append_right (by omega), l1, l2]
  simp
def mst (L : List B2) : Nat → Int := valF (stepM L)
def lst (L : List B2) : Nat → Int := valF (stepL L)
section
variable {L : List B2} (h : Bds L)
include h
theorem mst_spec (n : Nat) : (∀ b ∈ L, mst L (n + 1) ≤ mst L (n + 1 - b.1.toNat) + b.2) ∧ ∃ j : Nat, lastF (stepM L) (n + 1) = j ∧ ∃ b, L[j]? = some b ∧ mst L (n + 1) = mst L (n + 1 - b.1.toNat) + b.2 := by
  obtain ⟨l1, _⟩ := tabF_len (stepM L) n
  have hg : ∀ b ∈ L, (tabF (stepM L) n).1.getD (max 0 (((tabF (stepM L) n).1.length : Int) - b.1)).toNat 0 = mst L (n + 1 - b.1.toNat) := by
    intro b hb
    have := h.t b hb
    rw [show (max 0 (((tabF (stepM L) n).1.length : Int) - b.1)).toNat = n + 1 - b.1.toNat by omega]
    exact (tabF_get (stepM L) n _ (by omega)).1
  have hv := valF_succ (stepM L) n
  have hne := h.ne
  constructor
  · intro b hb
    show valF (stepM L) (n + 1) ≤ _
    rw [hv.1, ← hg b hb]
    unfold stepM
    cases L with
    | nil => exact absurd rfl hne
    | cons c l =>
      unfold minFrom
      rw [if_pos (.inl rfl)]
      obtain ⟨m1, m2⟩ := minFrom_le (fun b => (tabF (stepM (c :: l)) n).1.getD (max 0 (((tabF (stepM (c :: l)) n).1.length : Int) - b.1)).toNat 0 + b.2) l (0 + 1) ((tabF (stepM (c :: l)) n).1.getD (max 0 (((tabF (stepM (c :: l)) n).1.length : Int) - c.1)).toNat 0 + c.2) 0 (by omega)
      cases hb with
      | head => exact m1
      | tail _ hb => exact m2 b hb
  · rw [hv.2]
    show ∃ j : Nat, _ ∧ ∃ b, _ ∧ valF (stepM L) (n + 1) = _
    rw [hv.1]
    have := minFrom_at (fun b => (tabF (stepM L) n).1.getD (max 0 (((tabF (stepM L) n).1.length : Int) - b.1)).toNat 0 + b.2) L [] 0 0
    unfold stepM
    cases L with
    | nil => exact absurd rfl hne
    | cons c l =>
      unfold minFrom
      rw [if_pos (.inl rfl)]
      rcases minFrom_at (fun b => (tabF (stepM (c :: l)) n).1.getD (max 0 (((tabF (stepM (c :: l)) n).1.length : Int) - b.1)).toNat 0 + b.2) l [c] ((tabF (stepM (c :: l)) n).1.getD (max 0 (((tabF (stepM (c :: l)) n).1.length : Int) - c.1)).toNat 0 + c.2) 0 (.inr ⟨0, rfl, c, rfl, by simp, rfl⟩) with ⟨_, _, h3⟩ | ⟨j, hj, b, hb, hf⟩
      · simp at h3
      · refine ⟨j, hj, b, hb, ?_⟩
        rw [← hg b (List.mem_of_getElem? hb)]
        exact hf.symm
theorem lst_spec (n : Nat) : lst L n ≤ lst L (n + 1) ∧ (∀ b ∈ L, b.1 ≤ (n : Int) + 1 → lst L (n + 1 - b.1.toNat) + b.2 ≤ lst L (n + 1)) ∧
    ((lastF (stepL L) (n + 1) = -1 ∧ lst L (n + 1) = lst L n) ∨ ∃ j : Nat, lastF (stepL L) (n + 1) = j ∧ ∃ b, L[j]? = some b ∧ b.1 ≤ (n : Int) + 1 ∧ lst L (n + 1) = lst L (n + 1 - b.1.toNat) + b.2) := by
  obtain ⟨l1, _⟩ := tabF_len (stepL L) n
  have hg : ∀ b ∈ L, b.1 ≤ (n : Int) + 1 → (tabF (stepL L) n).1.getD (((tabF (stepL L) n).1.length : Int) - b.1).toNat 0 = lst L (n + 1 - b.1.toNat) := by
    intro b hb hn
    have := h.t b hb
    rw [show (((tabF (stepL L) n).1.length : Int) - b.1).toNat = n + 1 - b.1.toNat by omega]
    exact (tabF_get (stepL L) n _ (by omega)).1
  have h0 : (tabF (stepL L) n).1.getD ((tabF (stepL L) n).1.length - 1) 0 = lst L n := by
    rw [l1]
    exact (tabF_get (stepL L) n n (by omega)).1
  have hv := valF_succ (stepL L) n
  have hm := maxFrom_le ((tabF (stepL L) n).1.length : Int) (fun b => (tabF (stepL L) n).1.getD (((tabF (stepL L) n).1.length : Int) - b.1).toNat 0 + b.2) L 0 ((tabF (stepL L) n).1.getD ((tabF (stepL L) n).1.length - 1) 0) (-1)
  have ha := maxFrom_at ((tabF (stepL L) n).1.length : Int) (fun b => (tabF (stepL L) n).1.getD (((tabF (stepL L) n).1.length : Int) - b.1).toNat 0 + b.2) L [] ((tabF (stepL L) n).1.getD ((tabF (stepL L) n).1.length - 1) 0) ((tabF (stepL L) n).1.getD ((tabF (stepL L) n).1.length - 1) 0) (-1) (.inl ⟨rfl, rfl⟩)
  have ev : lst L (n + 1) = (stepL L (tabF (stepL L) n).1).1 := hv.1
  have el : lastF (stepL L) (n + 1) = (stepL L (tabF (stepL L) n).1).2 := hv.2
  have es : stepL L (tabF (stepL L) n).1 = maxFrom ((tabF (stepL L) n).1.length : Int) (fun b => (tabF (stepL L) n).1.getD (((tabF (stepL L) n).1.length : Int) - b.1).toNat 0 + b.2) L 0 ((tabF (stepL L) n).1.getD ((tabF (stepL L) n).1.length - 1) 0) (-1) := rfl
  rw [es] at ev el
  simp only [List.length_nil] at ha
  rw [show ((0 : Nat) : Int) = 0 from rfl, ← ev, ← el] at ha
  rw [← ev] at hm
  rw [h0] at hm ha
  refine ⟨hm.1, fun b hb hn => ?_, ?_⟩
  · have := hm.2 b hb (by rw [l1]; omega)
    rw [hg b hb hn] at this
    exact this
  · rcases ha with ⟨h1, h2⟩ | ⟨j, hj, b, hb, hf, hn⟩
    · exact .inl ⟨h1, h2⟩
    · have hb' : L[j]? = some b := hb
      have hn' : b.1 ≤ (n : Int) + 1 := by rw [l1] at hn; omega
      refine .inr ⟨j, hj, b, hb', hn', ?_⟩
      rw [← hf]
      rw [hg b (List.mem_of_getElem? hb') hn']
theorem mst_nonneg : ∀ n, 0 ≤ mst L n := by
  intro n
  induction n using Nat.strongRecOn with
  | _ n ih =>
    cases n with
    | zero => exact Int.le_refl _
    | succ n =>
      obtain ⟨_, j, _, b, hb, e⟩ := mst_spec h n
      have hbm := List.mem_of_getElem? hb
      have := h.t b hbm
      have := h.a b hbm
      have := ih (n + 1 - b.1.toNat) (by omega)
      omega
theorem mst_step : ∀ n, mst L n ≤ mst L (n + 1) := by
  intro n
  induction n using Nat.strongRecOn with
  | _ n ih =>
    obtain ⟨_, j, _, b, hb, e⟩ := mst_spec h n
    have hbm := List.mem_of_getElem? hb
    have ht := h.t b hbm
    have ha := h.a b hbm
    cases n with
    | zero =>
      have := mst_nonneg h 1
      exact this
    | succ n =>
      have h1 := (mst_spec h n).1 b hbm
      by_cases c : (b.1.toNat) ≤ n + 1
      · have h2 := ih (n + 1 - b.1.toNat) (by omega)
        rw [show n + 1 - b.1.toNat + 1 = n + 1 + 1 - b.1.toNat by omega] at h2
        omega
      · rw [show n + 1 - b.1.toNat = n + 1 + 1 - b.1.toNat by omega] at h1
        omega
theorem mst_mono {m n : Nat} (hmn : m ≤ n) : mst L m ≤ mst L n := by
  induction n with
  | zero =>
    have : m = 0 := by omega
    subst this; exact Int.le_refl _
  | succ n ih =>
    by_cases c : m = n + 1
    · subst c; exact Int.le_refl _
    · exact Int.le_trans (ih (by omega)) (mst_step h n)
theorem mst_bd : ∀ n : Nat, mst L n ≤ 1000000 * n := by
  intro n
  induction n with
  | zero => exact Int.le_refl _
  | succ n ih =>
    obtain ⟨c, l, e⟩ := List.exists_cons_of_ne_nil h.ne
    have hc : c ∈ L := by rw [e]; exact List.mem_cons_self ..
    have h1 := (mst_spec h n).1 c hc
    have ha := h.a c hc
    have ht := h.t c hc
    have h2 := mst_mono h (show n + 1 - c.1.toNat ≤ n by omega)
    omega
theorem lst_mono {m n : Nat} (hmn : m ≤ n) : lst L m ≤ lst L n := by
  induction n with
  | zero =>
    have : m = 0 := by omega
    subst this; exact Int.le_refl _
  | succ n ih =>
    by_cases c : m = n + 1
    · subst c; exact Int.le_refl _
    · exact Int.le_trans (ih (by omega)) (lst_spec h n).1
theorem lst_nonneg (n : Nat) : 0 ≤ lst L n := lst_mono h (Nat.zero_le n)
theorem lst_bd : ∀ n : Nat, lst L n ≤ 1000000 * n := by
  intro n
  induction n using Nat.strongRecOn with
  | _ n ih =>
    cases n with
    | zero => exact Int.le_refl _
    | succ n =>
      rcases (lst_spec h n).2.2 with ⟨_, e⟩ | ⟨j, _, b, hb, hn, e⟩
      · have := ih n (by omega)
        omega
      · have hbm := List.mem_of_getElem? hb
        have ht := h.t b hbm
        have ha := h.a b hbm
        have := ih (n + 1 - b.1.toNat) (by omega)
        omega
end
end Pm
end
section
namespace Go.Proofs.Ythoeindopljmkaa.P
open Go.RowKit Go.Proofs.YthoeindopljmkaaW.PrintWords Go.Proofs.YthoeindopljmkaaW.PrintLast Go.Proofs.YthoeindopljmkaaW.PrintMore
open Pm
def bs (l : List S71) : List B2 := l.map fun b => (b.f0, b.f1)
theorem bs_drop (l : List S71) {i : Nat} (h : i < l.length) : (bs l).drop i = ((rd_T71 l i).f0, (rd_T71 l i).f1) :: (bs l).drop (i + 1) := by
  have hl : i < (bs l).length := by simpa [bs] using h
  rw [List.drop_eq_getElem_cons hl]
  congr 1
  unfold rd_T71
  rw [List.getD_eq_getElem?_getD, Int.toNat_natCast, List.getElem?_eq_getElem h]
  simp [bs]
theorem mx_max (a b : Int) : mx a b = max a b := by unfold mx; omega
def Small (s : List Int) : Prop := ∀ n, 0 ≤ s.getD n 0 ∧ s.getD n 0 ≤ 1000000000
theorem most_l0 {l : List S71} (hb : Bds (bs l)) (hl : l.length ≤ 1000) (s t : List Int) (hs : Small s) (hn : 0 < s.length) (hn2 : s.length ≤ 1000) : ∀ (k : Nat) (i : Nat) (x4 x5 : Int), i ≤ l.length → l.length - i < k →
    pump_bounds_most.l0 k x4 x5 s.length l l.length i s t = some (minFrom (fun b => s.getD (max 0 ((s.length : Int) - b.1)).toNat 0 + b.2) ((bs l).drop i) i x4 x5)
  | 0, i, x4, x5, hi, hk => by omega
  | k + 1, i, x4, x5, hi, hk => by
    unfold pump_bounds_most.l0
    by_cases c : i < l.length
    · have hm : ((rd_T71 l i).f0, (rd_T71 l i).f1) ∈ bs l := List.mem_of_mem_drop (i := i) (by rw [bs_drop l c]; exact List.mem_cons_self)
      have ht := hb.t _ hm
      have ha := hb.a _ hm
      dsimp only at ht ha
      have e1 : wrap64 ((s.length : Int) - (rd_T71 l i).f0) = (s.length : Int) - (rd_T71 l i).f0 := by unfold wrap64; omega
      have e2 : wrap64 ((i : Int) + 1) = ((i + 1 : Nat) : Int) := by unfold wrap64; omega
      have hj := hs (max 0 ((s.length : Int) - (rd_T71 l i).f0)).toNat
      have e3 : wrap64 (rd s (mx 0 (wrap64 ((s.length : Int) - (rd_T71 l i).f0))) + (rd_T71 l i).f1) = s.getD (max 0 ((s.length : Int) - (rd_T71 l i).f0)).toNat 0 + (rd_T71 l i).f1 := by
        rw [e1, mx_max]
        show wrap64 (s.getD _ 0 + _) = _
        unfold wrap64; omega
      rw [if_pos (by omega), if_pos (by omega), if_pos (by omega), if_pos (by rw [e1, mx_max]; omega), if_pos (by rw [e1, mx_max]; omega), e3, e2, bs_drop l c]
      have ih := fun a b => most_l0 hb hl s t hs hn hn2 k (i + 1) a b (by omega) (by omega)
      unfold minFrom
      by_cases c0 : i = 0
      · rw [if_pos (by omega), ih, if_pos (.inl (by omega))]
        rfl
      · rw [if_neg (by omega)]
        by_cases c4 : s.getD (max 0 ((s.length : Int) - (rd_T71 l i).f0)).toNat 0 + (rd_T71 l i).f1 < x4
        · rw [if_pos c4, ih, if_pos (.inr c4)]; rfl
        · rw [if_neg c4, ih, if_neg (by rintro (h | h); omega; exact c4 h)]; rfl
    · rw [if_neg (by omega), List.drop_eq_nil_of_le (by simp [bs]; omega)]
      rfl
theorem tab_out (R : List Int → Int × Int) (n m : Nat) (h : n < m) : (tabF R n).1.getD m 0 = 0 := by
  rw [List.getD_eq_getElem?_getD, List.getElem?_eq_none (by rw [(tabF_len R n).1]; omega)]; rfl
theorem small_most {L : List B2} (hb : Bds L) {n : Nat} (hn : n ≤ 500) : Small (tabF (stepM L) n).1 := fun m => by
  by_cases c : m ≤ n
  · rw [(tabF_get _ n m c).1]
    have h1 := mst_nonneg hb m
    have h2 := mst_bd hb m
    unfold mst at h1 h2
    omega
  · rw [tab_out _ n m (by omega)]; omega
theorem small_least {L : List B2} (hb : Bds L) {n : Nat} (hn : n ≤ 500) : Small (tabF (stepL L) n).1 := fun m => by
  by_cases c : m ≤ n
  · rw [(tabF_get _ n m c).1]
    have h1 := lst_nonneg hb m
    have h2 := lst_bd hb m
    unfold lst at h1 h2
    omega
  · rw [tab_out _ n m (by omega)]; omega
theorem most_f {l : List S71} (hb : Bds (bs l)) (hl : l.length ≤ 1000) {n : Nat} (hn : n ≤ 500) (t : List Int) : pump_bounds_most.f (l.length + 1) l (tabF (stepM (bs l)) n).1 t = some (stepM (bs l) (tabF (stepM (bs l)) n).1) := by
  unfold pump_bounds_most.f
  have h := most_l0 hb hl (tabF (stepM (bs l)) n).1 t (small_most hb hn) (by rw [(tabF_len _ n).1]; omega) (by rw [(tabF_len _ n).1]; omega) (l.length + 1) 0 0 0 (Nat.zero_le _) (by omega)
  rw [List.drop_zero] at h
  exact h
theorem tabledm_l0 {l : List S71} (hb : Bds (bs l)) (hl : l.length ≤ 1000) {a : Nat} (ha : a ≤ 400) : ∀ (k m : Nat), m ≤ a → a - m + 1 < k → pump_tabledR.l0 pump_bounds_most.f k l a (tabF (stepM (bs l)) m).1 (tabF (stepM (bs l)) m).2 = some (tabF (stepM (bs l)) a)
  | 0, m, _, hk => by omega
  | k + 1, m, hm, hk => by
    unfold pump_tabledR.l0
    have l1 := tabF_len (stepM (bs l)) m
    by_cases c : m < a
    · have e := tabledm_l0 hb hl ha k (m + 1) (by omega) (by omega)
      rw [if_pos (by rw [l1.1]; omega), most_f hb hl (by omega), Option.bind_some, if_pos (by rw [l1.1]; omega), if_pos (by rw [l1.2]; omega)]
      exact e
    · obtain rfl : m = a := by omega
      rw [if_neg (by rw [l1.1]; omega)]
theorem tabled_most_f {l : List S71} (hb : Bds (bs l)) (hl : l.length ≤ 1000) {a : Nat} (ha : a ≤ 400) : tabled_most.f l a = some (tabF (stepM (bs l)) a) := by
  unfold tabled_most.f pump_tabledR.f
  exact tabledm_l0 hb hl ha _ 0 (Nat.zero_le _) (by rw [Int.toNat_natCast]; omega)
theorem least_l0 {l : List S71} (hb : Bds (bs l)) (hl : l.length ≤ 1000) (s t : List Int) (hs : Small s) (hn : 0 < s.length) (hn2 : s.length ≤ 1000) : ∀ (k : Nat) (i : Nat) (x4 x5 : Int), i ≤ l.length → l.length - i < k →
    pump_bounds_least.l0 k x4 x5 s.length l l.length i s t = some (maxFrom (s.length : Int) (fun b => s.getD ((s.length : Int) - b.1).toNat 0 + b.2) ((bs l).drop i) i x4 x5)
  | 0, i, x4, x5, hi, hk => by omega
  | k + 1, i, x4, x5, hi, hk => by
    unfold pump_bounds_least.l0
    by_cases c : i < l.length
    · have hm : ((rd_T71 l i).f0, (rd_T71 l i).f1) ∈ bs l := List.mem_of_mem_drop (i := i) (by rw [bs_drop l c]; exact List.mem_cons_self)
      have ht := hb.t _ hm
      have ha := hb.a _ hm
      dsimp only at ht ha
      have e1 : wrap64 ((s.length : Int) - (rd_T71 l i).f0) = (s.length : Int) - (rd_T71 l i).f0 := by unfold wrap64; omega
      have e2 : wrap64 ((i : Int) + 1) = ((i + 1 : Nat) : Int) := by unfold wrap64; omega
      have hj := hs ((s.length : Int) - (rd_T71 l i).f0).toNat
      have e3 : wrap64 (rd s (wrap64 ((s.length : Int) - (rd_T71 l i).f0)) + (rd_T71 l i).f1) = s.getD ((s.length : Int) - (rd_T71 l i).f0).toNat 0 + (rd_T71 l i).f1 := by
        rw [e1]
        show wrap64 (s.getD _ 0 + _) = _
        unfold wrap64; omega
      have ih := fun a b => least_l0 hb hl s t hs hn hn2 k (i + 1) a b (by omega) (by omega)
      rw [if_pos (by omega), if_pos (by omega), if_pos (by omega), bs_drop l c]
      unfold maxFrom
      by_cases c0 : (rd_T71 l i).f0 ≤ (s.length : Int)
      · rw [if_pos c0, if_pos (by rw [e1]; omega), if_pos (by rw [e1]; omega), e3, e2]
        by_cases c4 : s.getD ((s.length : Int) - (rd_T71 l i).f0).toNat 0 + (rd_T71 l i).f1 > x4
        · rw [if_pos c4, ih, if_pos ⟨c0, c4⟩]; rfl
        · rw [if_neg c4, ih, if_neg (fun h => c4 h.2)]; rfl
      · rw [if_neg c0, e2, ih, if_neg (fun h => c0 h.1)]; rfl
    · rw [if_neg (by omega), List.drop_eq_nil_of_le (by simp [bs]; omega)]
      rfl
theorem least_f {l : List S71} (hb : Bds (bs l)) (hl : l.length ≤ 1000) {n : Nat} (hn : n ≤ 500) (t : List Int) : pump_bounds_least.f (l.length + 1) l (tabF (stepL (bs l)) n).1 t = some (stepL (bs l) (tabF (stepL (bs l)) n).1) := by
  have l1 := (tabF_len (stepL (bs l)) n).1
  have hsm := small_least hb hn
  generalize (tabF (stepL (bs l)) n).1 = X at l1 hsm
  unfold pump_bounds_least.f
  have e1 : wrap64 ((X.length : Int) - 1) = (n : Int) := by rw [l1]; unfold wrap64; omega
  rw [e1, if_pos (by omega), if_pos (by rw [l1]; omega)]
  have h := least_l0 hb hl X t hsm (by rw [l1]; omega) (by rw [l1]; omega) (l.length + 1) 0 (rd X n) (-1) (Nat.zero_le _) (by omega)
  rw [List.drop_zero] at h
  refine h.trans ?_
  unfold stepL
  rw [show X.length - 1 = n by omega]
  rfl
theorem tabledl_l0 {l : List S71} (hb : Bds (bs l)) (hl : l.length ≤ 1000) {a : Nat} (ha : a ≤ 400) : ∀ (k m : Nat), m ≤ a → a - m + 1 < k → pump_tabledR.l0 pump_bounds_least.f k l a (tabF (stepL (bs l)) m).1 (tabF (stepL (bs l)) m).2 = some (tabF (stepL (bs l)) a)
  | 0, m, _, hk => by omega
  | k + 1, m, hm, hk => by
    unfold pump_tabledR.l0
    have l1 := tabF_len (stepL (bs l)) m
    by_cases c : m < a
    · have e := tabledl_l0 hb hl ha k (m + 1) (by omega) (by omega)
      rw [if_pos (by rw [l1.1]; omega), least_f hb hl (by omega), Option.bind_some, if_pos (by rw [l1.1]; omega), if_pos (by rw [l1.2]; omega)]
      exact e
    · obtain rfl : m = a := by omega
      rw [if_neg (by rw [l1.1]; omega)]
theorem tabled_least_f {l : List S71} (hb : Bds (bs l)) (hl : l.length ≤ 1000) {a : Nat} (ha : a ≤ 400) : tabled_least.f l a = some (tabF (stepL (bs l)) a) := by
  unfold tabled_least.f pump_tabledR.f
  exact tabledl_l0 hb hl ha _ 0 (Nat.zero_le _) (by rw [Int.toNat_natCast]; omega)
end Go.Proofs.Ythoeindopljmkaa.P
end
section
namespace Go.Proofs.Ythoeindopljmkaa.P
open Go.RowKit Go.Proofs.YthoeindopljmkaaW.PrintWords Go.Proofs.YthoeindopljmkaaW.PrintLast Go.Proofs.YthoeindopljmkaaW.PrintMore
open Pm
def cb (l : List S71) : Int := if l.length = 0 then 4 else if 5 < l.length then 5 else if (l.any fun x => !good x) = true then 3 else 0
theorem cb_f (l : List S71) : pump_CheckBounds.f l = some (cb l) := by
  unfold pump_CheckBounds.f cb
  by_cases c : l.length = 0
  · rw [if_pos (by omega), if_pos c]
  · rw [if_neg (by omega), if_neg c]
    by_cases c5 : 5 < l.length
    · rw [if_pos (by omega), if_pos c5]
    · rw [if_neg (by omega), if_neg c5]
      unfold any_bad.f
      rw [if_pos (by omega), Option.bind_some]
      split <;> rfl
theorem cb_zero {l : List S71} : cb l = 0 ↔ l.length ≠ 0 ∧ l.length ≤ 5 ∧ ∀ b ∈ l, good b = true := by
  unfold cb
  by_cases c : l.length = 0
  · rw [if_pos c]; constructor
    · intro h; cases h
    · rintro ⟨h, _⟩; exact absurd c h
  rw [if_neg c]
  by_cases c5 : 5 < l.length
  · rw [if_pos c5]; constructor
    · intro h; cases h
    · rintro ⟨_, h, _⟩; omega
  rw [if_neg c5]
  by_cases ca : (l.any fun x => !good x) = true
  · rw [if_pos ca]; constructor
    · intro h; cases h
    · rintro ⟨_, _, h⟩
      obtain ⟨x, hx, hg⟩ := List.any_eq_true.1 ca
      rw [h x hx] at hg; cases hg
  · rw [if_neg ca]
    refine ⟨fun _ => ⟨c, by omega, fun b hb => ?_⟩, fun _ => rfl⟩
    cases hg : good b
    · exact absurd (List.any_eq_true.2 ⟨b, hb, by rw [hg]; rfl⟩) ca
    · rfl
theorem good_iff {x : S71} : good x = true ↔ (1 ≤ x.f0 ∧ x.f0 ≤ 100) ∧ 0 ≤ x.f1 ∧ x.f1 ≤ 1000000 := by
  unfold good
  rw [Bool.and_eq_true, btw_iff, btw_iff]
theorem bds_of {l : List S71} (h : cb l = 0) : Bds (bs l) ∧ l.length ≤ 5 := by
  obtain ⟨h0, h5, hg⟩ := cb_zero.1 h
  refine ⟨⟨?_, ?_, ?_⟩, h5⟩
  · intro e
    have : (bs l).length = 0 := by rw [e]; rfl
    simp [bs] at this
    exact h0 (by rw [this]; rfl)
  · intro b hb
    obtain ⟨x, hx, rfl⟩ := List.mem_map.1 hb
    exact (good_iff.1 (hg x hx)).1
  · intro b hb
    obtain ⟨x, hx, rfl⟩ := List.mem_map.1 hb
    exact (good_iff.1 (hg x hx)).2
end Go.Proofs.Ythoeindopljmkaa.P
end
section
namespace Go.Proofs.Ythoeindopljmkaa.P
open Go.RowKit Go.Proofs.YthoeindopljmkaaW.PrintWords Go.Proofs.YthoeindopljmkaaW.PrintLast Go.Proofs.YthoeindopljmkaaW.PrintMore
open Pm
def c90 (x : S71) : S90 := ⟨x.f0, x.f1⟩
end Go.Proofs.Ythoeindopljmkaa.P
end
section
namespace Pm
def convTo (f g : Nat → Int) (n : Nat) : Nat → Int
  | 0 => f n + g 0
  | m + 1 => min (convTo f g n m) (f (n - (m + 1)) + g (m + 1))
def conv (f g : Nat → Int) (n : Nat) : Int := convTo f g n n
theorem convTo_le (f g : Nat → Int) (n : Nat) : ∀ (m k : Nat), k ≤ m → convTo f g n m ≤ f (n - k) + g k
  | 0, k, h => by
    have : k = 0 := by omega
    subst this; exact Int.le_refl _
  | m + 1, k, h => by
    unfold convTo
    by_cases c : k = m + 1
    · subst c; omega
    · have := convTo_le f g n m k (by omega); omega
theorem convTo_at (f g : Nat → Int) (n : Nat) : ∀ m : Nat, ∃ k, k ≤ m ∧ convTo f g n m = f (n - k) + g k
  | 0 => ⟨0, Nat.le_refl _, rfl⟩
  | m + 1 => by
    obtain ⟨k, hk, e⟩ := convTo_at f g n m
    unfold convTo
    by_cases c : convTo f g n m ≤ f (n - (m + 1)) + g (m + 1)
    · exact ⟨k, by omega, by omega⟩
    · exact ⟨m + 1, Nat.le_refl _, by omega⟩
theorem conv_le (f g : Nat → Int) {n k : Nat} (h : k ≤ n) : conv f g n ≤ f (n - k) + g k := convTo_le f g n n k h
theorem conv_at (f g : Nat → Int) (n : Nat) : ∃ k, k ≤ n ∧ conv f g n = f (n - k) + g k := convTo_at f g n n
structure Line (f : Nat → Int) : Prop where
  zero : f 0 = 0
  step : ∀ n, f n ≤ f (n + 1)
theorem Line.mono {f : Nat → Int} (h : Line f) {m n : Nat} (hmn : m ≤ n) : f m ≤ f n := by
  induction n with
  | zero =>
    have : m = 0 := by omega
    subst this; exact Int.le_refl _
  | succ n ih =>
    by_cases c : m = n + 1
    · subst c; exact Int.le_refl _
    · exact Int.le_trans (ih (by omega)) (h.step n)
theorem Line.nonneg {f : Nat → Int} (h : Line f) (n : Nat) : 0 ≤ f n := by
  have := h.mono (Nat.zero_le n)
  have := h.zero
  omega
theorem conv_line {f g : Nat → Int} (hf : Line f) (hg : Line g) : Line (conv f g) := by
  constructor
  · show f 0 + g 0 = 0
    have := hf.zero
    have := hg.zero
    omega
  · intro n
    obtain ⟨k, hk, e⟩ := conv_at f g (n + 1)
    by_cases c : k ≤ n
    · have h1 := conv_le f g c
      have h2 := hf.step (n - k)
      rw [show n - k + 1 = n + 1 - k by omega] at h2
      omega
    · have hk' : k = n + 1 := by omega
      subst hk'
      have h1 := conv_le f g (Nat.le_refl n)
      have h2 := hg.step n
      rw [show n - n = 0 by omega] at h1
      rw [show n + 1 - (n + 1) = 0 by omega] at e
      omega
theorem conv_le_left {f g : Nat → Int} (hg : Line g) (n : Nat) : conv f g n ≤ f n := by
  have := conv_le f g (Nat.zero_le n)
  have := hg.zero
  simp at *
  omega
def rowF (f : Nat → Int) : List (Nat → Int) → Nat → Int
  | [] => f
  | g :: l => rowF (conv f g) l
theorem rowF_line : ∀ (l : List (Nat → Int)) (f : Nat → Int), Line f → (∀ g ∈ l, Line g) → Line (rowF f l)
  | [], _, hf, _ => hf
  | g :: l, f, hf, h => rowF_line l (conv f g) (conv_line hf (h g (List.mem_cons_self ..))) (fun x hx => h x (List.mem_cons_of_mem _ hx))
theorem rowF_le (n : Nat) : ∀ (l : List (Nat → Int)) (f : Nat → Int), (∀ g ∈ l, Line g) → rowF f l n ≤ f n
  | [], _, _ => Int.le_refl _
  | g :: l, f, h => Int.le_trans (rowF_le n l (conv f g) (fun x hx => h x (List.mem_cons_of_mem _ hx))) (conv_le_left (h g (List.mem_cons_self ..)) n)
def okD (d s : Nat → Int) (n k : Nat) : Prop := ∀ m, m < n → d m ≤ s (m + k)
instance (d s : Nat → Int) (n k : Nat) : Decidable (okD d s n k) := by unfold okD; infer_instance
theorem okD_mono {d s : Nat → Int} (hs : Line s) {n k j : Nat} (h : okD d s n k) (hkj : k ≤ j) : okD d s n j := fun m hm => Int.le_trans (h m hm) (hs.mono (by omega))
def delayF (d s : Nat → Int) (n : Nat) : Nat → Nat → Option Nat
  | 0, _ => none
  | f + 1, k => if okD d s n k then some k else delayF d s n f (k + 1)
theorem delayF_some {d s : Nat → Int} {n : Nat} : ∀ (f k j : Nat), delayF d s n f k = some j → k ≤ j ∧ j < k + f ∧ okD d s n j ∧ ∀ i, k ≤ i → i < j → ¬ okD d s n i
  | 0, _, _, h => by simp [delayF] at h
  | f + 1, k, j, h => by
    unfold delayF at h
    by_cases c : okD d s n k
    · rw [if_pos c] at h
      injection h with h
      subst h
      exact ⟨Nat.le_refl _, by omega, c, fun i h1 h2 => by omega⟩
    · rw [if_neg c] at h
      obtain ⟨h1, h2, h3, h4⟩ := delayF_some f (k + 1) j h
      refine ⟨by omega, by omega, h3, fun i i1 i2 => ?_⟩
      by_cases e : i = k
      · subst e; exact c
      · exact h4 i (by omega) i2
theorem delayF_none {d s : Nat → Int} {n : Nat} : ∀ (f k : Nat), delayF d s n f k = none → ∀ i, k ≤ i → i < k + f → ¬ okD d s n i
  | 0, _, _ => fun i h1 h2 => by omega
  | f + 1, k, h => by
    unfold delayF at h
    by_cases c : okD d s n k
    · rw [if_pos c] at h; cases h
    · rw [if_neg c] at h
      intro i i1 i2
      by_cases e : i = k
      · subst e; exact c
      · exact delayF_none f (k + 1) h i (by omega) (by omega)
theorem delayF_is {d s : Nat → Int} {n f j : Nat} (h1 : j < f) (h2 : okD d s n j) (h3 : ∀ i, i < j → ¬ okD d s n i) : delayF d s n f 0 = some j := by
  cases h : delayF d s n f 0 with
  | none => exact absurd h2 (delayF_none f 0 h j (by omega) (by omega))
  | some i =>
    obtain ⟨_, _, g3, g4⟩ := delayF_some f 0 i h
    rcases Nat.lt_trichotomy i j with c | c | c
    · exact absurd g3 (h3 i c)
    · rw [c]
    · exact absurd h2 (g4 j (by omega) c)
theorem delayF_not {d s : Nat → Int} {n f : Nat} (h : ∀ i, i < f → ¬ okD d s n i) : delayF d s n f 0 = none := by
  cases e : delayF d s n f 0 with
  | none => rfl
  | some i =>
    obtain ⟨_, g2, g3, _⟩ := delayF_some f 0 i e
    exact absurd g3 (h i (by omega))
end Pm
end
section
namespace Pm
def preS (l : List Int) : Nat → Int
  | 0 => 0
  | n + 1 => preS l n + l.getD n 0
def Keeps (L : List B2) (l : List Int) : Prop := ∀ b ∈ L, ∀ s, preS l (s + b.1.toNat) - preS l s ≤ b.2
def Has (L : List B2) (T : Nat) (l : List Int) : Prop := ∀ b ∈ L, ∀ s, s + b.1.toNat ≤ T → b.2 ≤ preS l (s + b.1.toNat) - preS l s
theorem preS_mono {l : List Int} (h : ∀ n, 0 ≤ l.getD n 0) {m n : Nat} (hmn : m ≤ n) : preS l m ≤ preS l n := by
  induction n with
  | zero =>
    have : m = 0 := by omega
    subst this; exact Int.le_refl _
  | succ n ih =>
    by_cases c : m = n + 1
    · subst c; exact Int.le_refl _
    · have := ih (by omega)
      have := h n
      show _ ≤ preS l n + l.getD n 0
      omega
theorem keeps_mst {L : List B2} (h : Bds L) {l : List Int} (h0 : ∀ n, 0 ≤ l.getD n 0) (hk : Keeps L l) : ∀ d s : Nat, preS l (s + d) - preS l s ≤ mst L d := by
  intro d
  induction d using Nat.strongRecOn with
  | _ d ih =>
    intro s
    cases d with
    | zero => show preS l s - preS l s ≤ 0; omega
    | succ d =>
      obtain ⟨_, j, _, b, hb, e⟩ := mst_spec h d
      have hbm := List.mem_of_getElem? hb
      have ht := h.t b hbm
      rw [e]
      by_cases c : d + 1 ≤ b.1.toNat
      · have h1 := hk b hbm s
        have h2 := preS_mono h0 (show s + (d + 1) ≤ s + b.1.toNat by omega)
        have h3 := mst_nonneg h (d + 1 - b.1.toNat)
        omega
      · have h1 := ih (d + 1 - b.1.toNat) (by omega) s
        have h2 := hk b hbm (s + (d + 1 - b.1.toNat))
        rw [show s + (d + 1 - b.1.toNat) + b.1.toNat = s + (d + 1) by omega] at h2
        omega
theorem has_lst {L : List B2} (h : Bds L) {T : Nat} {l : List Int} (h0 : ∀ n, 0 ≤ l.getD n 0) (hk : Has L T l) : ∀ d s : Nat, s + d ≤ T → lst L d ≤ preS l (s + d) - preS l s := by
  intro d
  induction d using Nat.strongRecOn with
  | _ d ih =>
    intro s hT
    cases d with
    | zero => show 0 ≤ preS l s - preS l s; omega
    | succ d =>
      rcases (lst_spec h d).2.2 with ⟨_, e⟩ | ⟨j, _, b, hb, hn, e⟩
      · have h1 := ih d (by omega) s (by omega)
        have h2 := h0 (s + d)
        have h3 : preS l (s + (d + 1)) = preS l (s + d) + l.getD (s + d) 0 := rfl
        omega
      · have hbm := List.mem_of_getElem? hb
        have ht := h.t b hbm
        have h1 := ih (d + 1 - b.1.toNat) (by omega) s (by omega)
        have h2 := hk b hbm (s + (d + 1 - b.1.toNat)) (by omega)
        rw [show s + (d + 1 - b.1.toNat) + b.1.toNat = s + (d + 1) by omega] at h2
        omega
theorem mst_line {L : List B2} (h : Bds L) : Line (mst L) := ⟨rfl, mst_step h⟩
theorem lst_line {L : List B2} (h : Bds L) : Line (lst L) := ⟨rfl, fun n => (lst_spec h n).1⟩
end Pm
end
section
namespace Go.Proofs.Ythoeindopljmkaa.P
open Go.RowKit Go.Proofs.YthoeindopljmkaaW.PrintWords Go.Proofs.YthoeindopljmkaaW.PrintLast Go.Proofs.YthoeindopljmkaaW.PrintMore
open Pm
def firstE : List (List S71) → Int
  | [] => 0
  | l :: r => if cb l = 0 then firstE r else cb l
def chk (ps rs : List (List S71)) : Int := if ps.length = 0 ∨ rs.length = 0 then 4 else if 3 < ps.length ∨ 3 < rs.length then 5 else firstE (ps ++ rs)
def pln (ps rs : List (List S71)) (a : Int) : Int := if chk ps rs = 0 then (if btw 0 a 200 = true then 0 else 3) else chk ps rs
theorem wrapN {n : Nat} (h : n ≤ 1000000000) : wrap64 ((n : Int) + 1) = ((n + 1 : Nat) : Int) := by unfold wrap64; omega
theorem rd_L4_nat {l : List (List S71)} {i : Nat} (h : i < l.length) : rd_L4 l i = l[i] := by
  unfold rd_L4; rw [List.getD_eq_getElem?_getD, Int.toNat_natCast, List.getElem?_eq_getElem h]; rfl
theorem concat_two (ps rs : List (List S71)) (h : ps.length ≤ 3) (h' : rs.length ≤ 3) (k : Nat) : pump_concatB.f (k + 6) [ps, rs] = some (ps ++ rs) := by
  have e0 : rd_L7 [ps, rs] 0 = ps := rfl
  have e1 : rd_L7 [ps, rs] 1 = rs := rfl
  have w0 : wrap64 (0 + 1) = 1 := by unfold wrap64; omega
  have w1 : wrap64 (1 + 1) = 2 := by unfold wrap64; omega
  have wa : wrap64 (0 + (ps.length : Int)) = ps.length := by unfold wrap64; omega
  have wb : wrap64 ((ps.length : Int) + rs.length) = ((ps.length + rs.length : Nat) : Int) := by unfold wrap64; omega
  unfold pump_concatB.f
  have le : ([ps, rs].length : Int) = 2 := rfl
  rw [le]
  rw [pump_concatB.l0, if_pos (by decide), if_pos (by decide), if_pos (by rw [le]; decide), e0, wa, if_neg (by omega), w0]
  rw [pump_concatB.l0, if_pos (by decide), if_pos (by decide), if_pos (by rw [le]; decide), e1, wb, if_neg (by omega), w1]
  rw [pump_concatB.l0, if_neg (by decide), if_pos (by omega), if_pos (by omega), show ([ps, rs].length : Int) = 2 from rfl]
  rw [pump_concatB.l1, if_pos (by decide), if_pos (by decide), if_pos (by rw [le]; decide), e0, if_pos (by simp; omega), w0]
  rw [pump_concatB.l1, if_pos (by decide), if_pos (by decide), if_pos (by rw [le]; decide), e1, if_pos (by simp; omega), w1]
  rw [pump_concatB.l1, if_neg (by decide), List.nil_append]
theorem checkV_l0 (l : List (List S71)) (hl : l.length ≤ 10) : ∀ (m i k : Nat), i + m = l.length → m < k → pump_CheckV.l0 k l l.length i = some (firstE (l.drop i))
  | 0, i, 0, h, hk => by omega
  | 0, i, k + 1, h, hk => by
    rw [pump_CheckV.l0, if_neg (by omega), List.drop_eq_nil_of_le (by omega)]; rfl
  | m + 1, i, 0, h, hk => by omega
  | m + 1, i, k + 1, h, hk => by
    rw [pump_CheckV.l0, if_pos (by omega), if_pos (by omega), if_pos (by omega), cb_f, Option.bind_some, wrapN (by omega), rd_L4_nat (by omega), List.drop_eq_getElem_cons (by omega)]
    unfold firstE
    by_cases c : cb l[i] = 0
    · rw [if_pos c, if_pos c]; exact checkV_l0 l hl m (i + 1) k (by omega) (by omega)
    · rw [if_neg c, if_neg c]
theorem Check_f (ps rs : List (List S71)) : pump_Check.f ps rs = some (chk ps rs) := by
  unfold pump_Check.f pump_CheckV.f chk
  by_cases c1 : ps.length = 0
  · rw [if_pos (by omega), if_pos (.inl c1)]; rfl
  · rw [if_neg (by omega)]
    by_cases c2 : rs.length = 0
    · rw [show ((rs.length : Int) == 0) = true by simp [c2], if_pos (.inr c2)]; rfl
    · rw [show ((rs.length : Int) == 0) = false by simp only [beq_eq_false_iff_ne]; omega, if_neg (by omega)]
      rw [show (40 : Nat) = 39 + 1 from rfl, pump_CheckV.j0, if_neg (by simp)]
      by_cases c3 : 3 < ps.length
      · rw [if_pos (by omega), if_pos (.inl c3)]
      · rw [if_neg (by omega)]
        by_cases c4 : 3 < rs.length
        · rw [if_pos (by omega), if_pos (.inr c4)]
        · rw [if_neg (by omega), if_neg (by omega), concat_two ps rs (by omega) (by omega) 33, Option.bind_some]
          have := checkV_l0 (ps ++ rs) (by simp; omega) (ps ++ rs).length 0 39 (by omega) (by simp; omega)
          rw [List.drop_zero] at this
          exact this
theorem planned_f (ps rs : List (List S71)) (a : Int) : pump_planned.f ps rs a = some (pln ps rs a) := by
  unfold pump_planned.f pln
  rw [Check_f, Option.bind_some, btw_f, Option.bind_some]
  by_cases c : chk ps rs = 0
  · rw [if_pos c, if_pos c]
    split
    · rw [c]
    · rfl
  · rw [if_neg c, if_neg c]
theorem firstE_zero : ∀ {l : List (List S71)}, firstE l = 0 ↔ ∀ x ∈ l, cb x = 0
  | [] => by simp [firstE]
  | x :: r => by
    unfold firstE
    rw [List.forall_mem_cons]
    by_cases c : cb x = 0
    · rw [if_pos c, firstE_zero (l := r)]; exact ⟨fun h => ⟨c, h⟩, And.right⟩
    · rw [if_neg c]; exact ⟨fun h => absurd h c, fun h => absurd h.1 c⟩
structure Plant (ps rs : List (List S71)) : Prop where
  p0 : 0 < ps.length
  p3 : ps.length ≤ 3
  r0 : 0 < rs.length
  r3 : rs.length ≤ 3
  p : ∀ x ∈ ps, cb x = 0
  r : ∀ x ∈ rs, cb x = 0
theorem chk_zero {ps rs : List (List S71)} : chk ps rs = 0 ↔ Plant ps rs := by
  unfold chk
  by_cases c1 : ps.length = 0 ∨ rs.length = 0
  · rw [if_pos c1]; exact ⟨fun h => by omega, fun h => by have := h.p0; have := h.r0; omega⟩
  · rw [if_neg c1]
    by_cases c2 : 3 < ps.length ∨ 3 < rs.length
    · rw [if_pos c2]; exact ⟨fun h => by omega, fun h => by have := h.p3; have := h.r3; omega⟩
    · rw [if_neg c2, firstE_zero, List.forall_mem_append]
      exact ⟨fun h => ⟨by omega, by omega, by omega, by omega, h.1, h.2⟩, fun h => ⟨h.p, h.r⟩⟩
theorem pln_zero {ps rs : List (List S71)} {a : Int} : pln ps rs a = 0 ↔ Plant ps rs ∧ 0 ≤ a ∧ a ≤ 200 := by
  unfold pln
  by_cases c : chk ps rs = 0
  · rw [if_pos c]
    have := chk_zero.1 c
    by_cases b : btw 0 a 200 = true
    · rw [if_pos b]; exact ⟨fun _ => ⟨this, btw_iff.1 b⟩, fun _ => rfl⟩
    · rw [if_neg b]; exact ⟨fun h => by omega, fun h => absurd (btw_iff.2 h.2) b⟩
  · rw [if_neg c]
    exact ⟨fun h => absurd h c, fun h => absurd (chk_zero.2 h.1) c⟩
def tabL (f : Nat → Int) (n : Nat) : List Int := (List.range (n + 1)).map f
theorem tabL_len (f : Nat → Int) (n : Nat) : (tabL f n).length = n + 1 := by simp [tabL]
theorem tabL_rd (f : Nat → Int) {n i : Nat} (h : i ≤ n) : rd (tabL f n) (i : Int) = f i := by
  unfold rd tabL
  rw [List.getD_eq_getElem?_getD, Int.toNat_natCast, List.getElem?_eq_getElem (by simp; omega)]
  simp
theorem tabL_congr {f g : Nat → Int} {n : Nat} (h : ∀ i, i ≤ n → f i = g i) : tabL f n = tabL g n := by
  unfold tabL
  exact List.map_congr_left fun i hi => h i (by have := List.mem_range.1 hi; omega)
theorem tabL_set (f : Nat → Int) (n q : Nat) (v : Int) : (tabL f n).set q v = tabL (fun i => if i = q then v else f i) n := by
  apply List.ext_getElem
  · simp [tabL]
  · intro i h1 h2
    rw [List.getElem_set]
    simp only [tabL, List.getElem_map, List.getElem_range]
    by_cases c : q = i
    · rw [if_pos c, if_pos c.symm]
    · rw [if_neg c, if_neg (fun h => c h.symm)]
theorem tab_tabL (R : List Int → Int × Int) (n : Nat) : (tabF R n).1 = tabL (valF R) n := by
  apply List.ext_getElem
  · rw [(tabF_len R n).1, tabL_len]
  · intro i h1 h2
    rw [tabL_len] at h2
    have := (tabF_get R n i (by omega)).1
    rw [List.getD_eq_getElem?_getD, List.getElem?_eq_getElem h1] at this
    rw [show (tabF R n).1[i] = valF R i from this]
    simp [tabL]
def rowFs : List (List S71) → Nat → Int
  | [] => fun _ => 0
  | r :: l => rowF (lst (bs r)) (l.map fun x => lst (bs x))
def demFs (ps : List (List S71)) (n : Nat) : Int := (ps.map fun l => mst (bs l) n).sum
theorem rowF_snoc : ∀ (l : List (Nat → Int)) (f g : Nat → Int), rowF f (l ++ [g]) = conv (rowF f l) g
  | [], _, _ => rfl
  | x :: l, f, g => rowF_snoc l (conv f x) g
theorem rowFs_snoc {rs : List (List S71)} (h : rs ≠ []) (x : List S71) : rowFs (rs ++ [x]) = conv (rowFs rs) (lst (bs x)) := by
  cases rs with
  | nil => exact absurd rfl h
  | cons r l =>
    show rowF _ ((l ++ [x]).map fun x => lst (bs x)) = _
    rw [List.map_append]
    exact rowF_snoc _ _ _
theorem rowFs_line {rs : List (List S71)} (h : ∀ x ∈ rs, cb x = 0) : Line (rowFs rs) := by
  cases rs with
  | nil => exact ⟨rfl, fun _ => Int.le_refl _⟩
  | cons r l =>
    refine rowF_line _ _ (lst_line (bds_of (h r List.mem_cons_self)).1) fun g hg => ?_
    obtain ⟨x, hx, rfl⟩ := List.mem_map.1 hg
    exact lst_line (bds_of (h x (List.mem_cons_of_mem _ hx))).1
theorem rowFs_bd {rs : List (List S71)} (h : ∀ x ∈ rs, cb x = 0) (n : Nat) : 0 ≤ rowFs rs n ∧ rowFs rs n ≤ 1000000 * n := by
  refine ⟨(rowFs_line h).nonneg n, ?_⟩
  cases rs with
  | nil => show (0 : Int) ≤ _; omega
  | cons r l =>
    refine Int.le_trans (rowF_le n _ _ fun g hg => ?_) (lst_bd (bds_of (h r List.mem_cons_self)).1 n)
    obtain ⟨x, hx, rfl⟩ := List.mem_map.1 hg
    exact lst_line (bds_of (h x (List.mem_cons_of_mem _ hx))).1
theorem demFs_line {ps : List (List S71)} (h : ∀ x ∈ ps, cb x = 0) : Line (demFs ps) := by
  induction ps with
  | nil => exact ⟨rfl, fun _ => Int.le_refl _⟩
  | cons r l ih =>
    have i1 := ih fun x hx => h x (List.mem_cons_of_mem _ hx)
    have i2 := mst_line (bds_of (h r List.mem_cons_self)).1
    have e : ∀ n, demFs (r :: l) n = mst (bs r) n + demFs l n := fun n => by simp [demFs]
    refine ⟨by rw [e, i1.1, i2.1]; rfl, fun n => ?_⟩
    rw [e, e]
    have := i1.2 n
    have := i2.2 n
    omega
theorem demFs_bd {ps : List (List S71)} (h : ∀ x ∈ ps, cb x = 0) (n : Nat) : 0 ≤ demFs ps n ∧ demFs ps n ≤ 1000000 * n * ps.length := by
  refine ⟨(demFs_line h).nonneg n, ?_⟩
  induction ps with
  | nil => simp [demFs]
  | cons r l ih =>
    have i1 := ih fun x hx => h x (List.mem_cons_of_mem _ hx)
    have i2 := mst_bd (bds_of (h r List.mem_cons_self)).1 n
    have e : demFs (r :: l) n = mst (bs r) n + demFs l n := by simp [demFs]
    rw [e, List.length_cons, Int.natCast_add, Int.mul_add]
    omega
theorem mixN_conv {f g : Nat → Int} {a : Nat} (hf : ∀ i, 0 ≤ f i ∧ f i ≤ 1000000 * i) (hg : ∀ i, 0 ≤ g i ∧ g i ≤ 1000000 * i) (ha : a ≤ 1000) {n : Nat} (hn : n ≤ a) : ∀ k, k ≤ n → mixN (tabL f a) (tabL g a) n (k + 1) = convTo f g n k
  | 0, hk => by
    have h0 := hf n
    have h1 := hg 0
    unfold mixN mixN convTo
    rw [show (n : Int) - ((0 : Nat) : Int) = ((n : Nat) : Int) by omega, tabL_rd f hn, tabL_rd g (Nat.zero_le _), show wrap64 (f n + g 0) = f n + g 0 by unfold wrap64; omega]
    split <;> omega
  | k + 1, hk => by
    have h0 := hf (n - (k + 1))
    have h1 := hg (k + 1)
    have ih := mixN_conv hf hg ha hn k (by omega)
    unfold mixN convTo
    rw [ih, show (n : Int) - ((k + 1 : Nat) : Int) = ((n - (k + 1) : Nat) : Int) by omega, tabL_rd f (by omega), tabL_rd g (by omega), show wrap64 (f (n - (k + 1)) + g (k + 1)) = f (n - (k + 1)) + g (k + 1) by unfold wrap64; omega]
    split <;> omega
theorem mixF_conv {f g : Nat → Int} {a : Nat} (hf : ∀ i, 0 ≤ f i ∧ f i ≤ 1000000 * i) (hg : ∀ i, 0 ≤ g i ∧ g i ≤ 1000000 * i) (ha : a ≤ 1000) : mixF (tabL f a) (tabL g a) a = tabL (conv f g) a := by
  unfold mixF
  rw [show ((a : Int) + 1).toNat = a + 1 by omega]
  exact List.map_congr_left fun n hn => mixN_conv hf hg ha (by have := List.mem_range.1 hn; omega) n (Nat.le_refl _)
def regF (rs : List (List S71)) (a : Nat) : List S115 := (List.range rs.length).map fun i => ⟨rs.getD i [], tabL (lst (bs (rs.getD i []))) a, tabL (rowFs (rs.take (i + 1))) a⟩
theorem regF_len (rs : List (List S71)) (a : Nat) : (regF rs a).length = rs.length := by simp [regF]
theorem regF_get {rs : List (List S71)} {a i : Nat} (h : i < rs.length) : rd_T115 (regF rs a) (i : Int) = ⟨rs.getD i [], tabL (lst (bs (rs.getD i []))) a, tabL (rowFs (rs.take (i + 1))) a⟩ := by
  unfold rd_T115 regF
  rw [List.getD_eq_getElem?_getD, Int.toNat_natCast, List.getElem?_eq_getElem (by simpa using h)]
  simp
theorem regF_snoc (rs : List (List S71)) (x : List S71) (a : Nat) : regF (rs ++ [x]) a = regF rs a ++ [⟨x, tabL (lst (bs x)) a, tabL (rowFs (rs ++ [x])) a⟩] := by
  unfold regF
  rw [List.length_append, List.length_singleton, List.range_succ, List.map_append]
  congr 1
  · refine List.map_congr_left fun i hi => ?_
    have hi := List.mem_range.1 hi
    rw [List.getD_eq_getElem?_getD, List.getElem?_append_left hi, List.take_append_of_le_length (by omega), ← List.getD_eq_getElem?_getD]
  · simp [List.getD_eq_getElem?_getD]
    rw [List.take_of_length_le (by simp)]
theorem regStep_f {rs : List (List S71)} {x : List S71} (h : ∀ y ∈ rs, cb y = 0) (hx : cb x = 0) {a : Nat} (ha : a ≤ 400) : regStep a (regF rs a) x = some (regF (rs ++ [x]) a) := by
  obtain ⟨hb, h5⟩ := bds_of hx
  unfold regStep
  rw [tabled_least_f hb (by omega) ha, Option.bind_some, if_pos (by rw [(tabF_len _ a).1]; omega), tab_tabL, regF_snoc]
  show some _ = some _
  congr 3
  show S115.mk x _ _ = _
  by_cases c : rs = []
  · subst c
    rfl
  · have hl : 0 < rs.length := List.length_pos_iff.2 c
    rw [if_neg (by intro e; have := congrArg List.length e; rw [regF_len] at this; simp at this; exact c this)]
    rw [regF_len, show (rs.length : Int) - 1 = ((rs.length - 1 : Nat) : Int) by omega, regF_get (by omega), rowFs_snoc c, show rs.length - 1 + 1 = rs.length by omega, List.take_length]
    show S115.mk x _ (mixF (tabL (rowFs rs) a) (tabL (lst (bs x)) a) a) = _
    rw [mixF_conv (rowFs_bd h) (fun i => ⟨lst_nonneg hb i, lst_bd hb i⟩) (by omega)]
    rfl
theorem regs_fold {a : Nat} (ha : a ≤ 400) : ∀ (l rs : List (List S71)), (∀ y ∈ rs, cb y = 0) → (∀ y ∈ l, cb y = 0) → l.foldlM (regStep a) (regF rs a) = some (regF (rs ++ l) a)
  | [], rs, _, _ => by rw [List.append_nil]; rfl
  | x :: l, rs, h1, h2 => by
    have hx := h2 x List.mem_cons_self
    rw [List.foldlM_cons, regStep_f h1 hx ha]
    have := regs_fold ha l (rs ++ [x]) (by
      intro y hy
      rcases List.mem_append.1 hy with hy | hy
      · exact h1 y hy
      · rw [List.mem_singleton.1 hy]; exact hx) (fun y hy => h2 y (List.mem_cons_of_mem _ hy))
    rw [List.append_assoc] at this
    exact this
theorem regs_f {rs : List (List S71)} (h : ∀ y ∈ rs, cb y = 0) (hr : rs.length ≤ 3) {a : Nat} (ha : a ≤ 400) : regs.f rs a = some (regF rs a) := by
  unfold regs.f
  rw [if_pos ⟨by omega, by omega, by omega⟩]
  exact regs_fold ha rs [] (fun _ h => by cases h) h
theorem Plant_row_f {ps rs : List (List S71)} (h : Plant ps rs) {a : Nat} (ha : a ≤ 400) : pump_Plant_row.f ps rs a = some (tabL (rowFs rs) a) := by
  have h0 := h.r0
  unfold pump_Plant_row.f
  rw [regs_f h.r h.r3 ha, Option.bind_some, regF_len, if_neg (by omega), show (rs.length : Int) - 1 = ((rs.length - 1 : Nat) : Int) by omega, regF_get (by omega), show rs.length - 1 + 1 = rs.length by omega, List.take_length]
theorem dem_l1 {x x15 : Int} {ps : List (List S71)} {f g : Nat → Int} {a : Nat} (hf : ∀ i, i ≤ a → 0 ≤ f i ∧ f i ≤ 1000000000000) (hg : ∀ i, i ≤ a → 0 ≤ g i ∧ g i ≤ 1000000000000) (ha : a ≤ 1000) (r : List Int) : ∀ (m i : Nat), i + m = a + 1 →
    Ev (fun k => pump_Plant_demands.l0 k a (tabL (fun j => f j + g j) a) ps x15 (wrap64 (x + 1))) r →
    Ev (fun k => pump_Plant_demands.l1 k a (tabL (fun j => if j < i then f j + g j else f j) a) ps x15 x (tabL g a) ((a + 1 : Nat) : Int) i) r
  | 0, i, h, hr => by
    refine Ev.step (fun k => ?_) hr
    rw [pump_Plant_demands.l1, if_neg (by omega)]
    congr 1
    exact tabL_congr fun j hj => by rw [if_pos (by omega)]
  | m + 1, i, h, hr => by
    have ih := dem_l1 (x := x) (x15 := x15) (ps := ps) hf hg ha r m (i + 1) (by omega) hr
    refine Ev.step (fun k => ?_) ih
    have hfi := hf i (by omega)
    have hgi := hg i (by omega)
    rw [pump_Plant_demands.l1, if_pos (by omega), if_pos (by omega), if_pos (by rw [tabL_len]; omega), if_pos (by rw [tabL_len]; omega), tabL_rd _ (by omega), tabL_rd _ (by omega), if_neg (by omega), wrapN (by omega), Int.toNat_natCast, tabL_set,
      show wrap64 (f i + g i) = f i + g i by unfold wrap64; omega]
    congr 1
    refine tabL_congr fun j hj => ?_
    by_cases c : j = i
    · subst c; rw [if_pos rfl, if_pos (by omega)]
    · rw [if_neg c]
      by_cases c2 : j < i
      · rw [if_pos c2, if_pos (by omega)]
      · rw [if_neg c2, if_neg (by omega)]
theorem demFs_snoc (ps : List (List S71)) (x : List S71) (n : Nat) : demFs (ps ++ [x]) n = demFs ps n + mst (bs x) n := by simp [demFs]
theorem dem_l0 {ps : List (List S71)} (h : ∀ x ∈ ps, cb x = 0) (h3 : ps.length ≤ 3) {a : Nat} (ha : a ≤ 400) : ∀ (m i : Nat), i + m = ps.length →
    Ev (fun k => pump_Plant_demands.l0 k a (tabL (demFs (ps.take i)) a) ps ps.length i) (tabL (demFs ps) a)
  | 0, i, hi => by
    refine Ev.step (f := fun _ => some (tabL (demFs ps) a)) (fun k => ?_) (Ev.now _)
    rw [pump_Plant_demands.l0, if_neg (by omega), List.take_of_length_le (by omega)]
  | m + 1, i, hi => by
    have hx := h ps[i] (List.getElem_mem _)
    obtain ⟨hb, h5⟩ := bds_of hx
    have ht : ∀ x ∈ ps.take i, cb x = 0 := fun x hx => h x (List.mem_of_mem_take hx)
    have ih := dem_l0 h h3 ha m (i + 1) (by omega)
    refine Ev.step (fun k => ?_) (dem_l1 (x := i) (x15 := ps.length) (ps := ps) (f := demFs (ps.take i)) (g := mst (bs ps[i])) (a := a) (fun j hj => ?_) (fun j hj => ?_) (by omega) _ (a + 1) 0 (by omega) ?_)
    · rw [pump_Plant_demands.l0, if_pos (by omega), if_pos (by omega), if_pos (by omega), rd_L4_nat (by omega), tabled_most_f hb (by omega) ha, Option.bind_some, tab_tabL, tabL_len]
      congr 1
    · have := demFs_bd ht j
      have : (List.take i ps).length ≤ 3 := by rw [List.length_take]; omega
      refine ⟨by omega, ?_⟩
      have e : 1000000 * (j : Int) * ((ps.take i).length : Int) ≤ 1000000 * (j : Int) * 3 := Int.mul_le_mul_of_nonneg_left (by omega) (by omega)
      omega
    · have := mst_nonneg hb j
      have := mst_bd hb j
      omega
    · rw [wrapN (by omega)]
      have e : tabL (fun j => demFs (ps.take i) j + mst (bs ps[i]) j) a = tabL (demFs (ps.take (i + 1))) a := tabL_congr fun j _ => by
        rw [List.take_succ_eq_append_getElem (by omega), demFs_snoc]
      rw [e]
      exact ih
theorem Plant_demands_f {ps rs : List (List S71)} (h : Plant ps rs) {a : Nat} (ha : a ≤ 400) : Ev (fun k => pump_Plant_demands.f k ps rs a) (tabL (demFs ps) a) := by
  unfold pump_Plant_demands.f
  simp only [wrapN (show a ≤ 1000000000 by omega)]
  simp only [if_pos (show (0 : Int) ≤ ((a + 1 : Nat) : Int) by omega), Int.toNat_natCast, if_pos (show a + 1 ≤ 35184372088832 by omega)]
  have := dem_l0 h.p h.p3 ha ps.length 0 (by omega)
  have e : tabL (demFs (ps.take 0)) a = List.replicate (a + 1) 0 := by
    unfold tabL
    rw [show demFs (List.take 0 ps) = fun _ => (0 : Int) from rfl, List.map_const']
    simp
  rw [e] at this
  exact this
def dlyR (o : Option Nat) : Int × Int := match o with | some j => ((j : Int), 0) | none => (0, 11)
section
variable {d s : Nat → Int} {a : Nat} (ha : a ≤ 200) (hs : Line s)
include ha hs
theorem delay_l {F : Nat} (hF : F = 201) : ∀ (m : Nat), ∀ (i j : Nat), (a + 1 - i) + (201 - j) < m → i ≤ a + 1 → j ≤ 200 → okD d s i j → (∀ q, q < j → ¬ okD d s (a + 1) q) →
    Ev (fun k => pump_Delay.l0 k (tabL s (a + 200)) j (tabL d a) ((a + 1 : Nat) : Int) i) (dlyR (delayF d s (a + 1) F 0)) ∧
    (i < a + 1 → Ev (fun k => pump_Delay.l1 k (tabL s (a + 200)) j i (d i) (tabL d a) ((a + 1 : Nat) : Int) i) (dlyR (delayF d s (a + 1) F 0)))
  | 0, i, j, hm, hi, hj, h1, h2 => by omega
  | m + 1, i, j, hm, hi, hj, h1, h2 => by
    have in_ : i < a + 1 → Ev (fun k => pump_Delay.l1 k (tabL s (a + 200)) j i (d i) (tabL d a) ((a + 1 : Nat) : Int) i) (dlyR (delayF d s (a + 1) F 0)) := fun c => by
      have ew : wrap64 ((i : Int) + (j : Int)) = ((i + j : Nat) : Int) := by unfold wrap64; omega
      have open_ : ∀ k, pump_Delay.l1 (k + 1) (tabL s (a + 200)) j i (d i) (tabL d a) ((a + 1 : Nat) : Int) i = if s (i + j) < d i then (if ((j + 1 : Nat) : Int) > 200 then some (0, 11) else pump_Delay.l1 k (tabL s (a + 200)) ((j + 1 : Nat) : Int) i (d i) (tabL d a) ((a + 1 : Nat) : Int) i)
          else pump_Delay.l0 k (tabL s (a + 200)) j (tabL d a) ((a + 1 : Nat) : Int) ((i + 1 : Nat) : Int) := fun k => by
        rw [pump_Delay.l1, ew, if_pos (by omega), if_pos (by rw [tabL_len]; omega), tabL_rd _ (by omega), wrapN (by omega), wrapN (by omega)]
      by_cases cc : s (i + j) < d i
      · have hno : ∀ q, q ≤ j → ¬ okD d s (a + 1) q := fun q hq => by
          by_cases e : q = j
          · subst e
            intro hk
            have := hk i (by omega)
            omega
          · exact h2 q (by omega)
        by_cases c2 : j = 200
        · rw [delayF_not (fun q hq => hno q (by omega))]
          refine Ev.step (f := fun _ => some (0, 11)) (fun k => ?_) (Ev.now _)
          rw [open_, if_pos cc, if_pos (by omega)]
        · refine Ev.step (fun k => ?_) ((delay_l hF m i (j + 1) (by omega) hi (by omega) (okD_mono hs h1 (by omega)) (fun q hq => hno q (by omega))).2 c)
          rw [open_, if_pos cc, if_neg (by omega)]
      · refine Ev.step (fun k => ?_) ((delay_l hF m (i + 1) j (by omega) (by omega) hj (fun q hq => ?_) h2).1)
        · rw [open_, if_neg cc]
        · by_cases e : q = i
          · subst e; omega
          · exact h1 q (by omega)
    refine ⟨?_, in_⟩
    by_cases c : i = a + 1
    · subst c
      rw [delayF_is (show j < F by omega) h1 h2]
      refine Ev.step (f := fun _ => some ((j : Int), 0)) (fun k => ?_) (Ev.now _)
      rw [pump_Delay.l0, if_neg (by omega)]
    · refine Ev.step (fun k => ?_) (in_ (by omega))
      rw [pump_Delay.l0, if_pos (by omega), if_pos (by omega), if_pos (by rw [tabL_len]; omega), tabL_rd _ (by omega)]
end
def lateN : Nat := 201
theorem lateN_eq : lateN = 201 := rfl
def dly (ps rs : List (List S71)) (a : Int) : Int × Int := if pln ps rs a = 0 then dlyR (delayF (demFs ps) (rowFs rs) (a.toNat + 1) lateN 0) else (0, pln ps rs a)
theorem Plant_row_f200 {ps rs : List (List S71)} (h : Plant ps rs) {n : Nat} (hn : n ≤ 200) : pump_Plant_row.f ps rs (wrap64 ((n : Int) + 200)) = some (tabL (rowFs rs) (n + 200)) := by
  have ew : wrap64 ((n : Int) + 200) = ((n + 200 : Nat) : Int) := by unfold wrap64; omega
  rw [ew]
  exact Plant_row_f h (by omega)
theorem dly_pos {ps rs : List (List S71)} {a : Int} (c : pln ps rs a = 0) : dly ps rs a = dlyR (delayF (demFs ps) (rowFs rs) (a.toNat + 1) lateN 0) := if_pos c
theorem dly_neg {ps rs : List (List S71)} {a : Int} (c : ¬ pln ps rs a = 0) : dly ps rs a = (0, pln ps rs a) := if_neg c
theorem Delay_pos {ps rs : List (List S71)} (h : Plant ps rs) {n : Nat} (hn : n ≤ 200) (r : Int × Int) (hr : dlyR (delayF (demFs ps) (rowFs rs) (n + 1) lateN 0) = r) : Ev (fun k => pump_Delay.f k ps rs n) r := by
  have c : pln ps rs n = 0 := pln_zero.2 ⟨h, by omega, by omega⟩
  refine Ev.congr (f := fun k => (pump_Plant_demands.f k ps rs n).bind fun t => pump_Delay.l0 k (tabL (rowFs rs) (n + 200)) 0 t (t.length : Int) 0) (fun k => ?_) ?_
  · unfold pump_Delay.f
    rw [planned_f, Option.bind_some, if_pos c, Plant_row_f200 h hn, Option.bind_some]
  · refine Ev.bind (Plant_demands_f h (by omega)) ?_
    rw [← hr]
    simp only [tabL_len]
    exact (delay_l hn (rowFs_line h.r) lateN_eq (n + 300) 0 0 (by omega) (by omega) (by omega) (fun q hq => by omega) (fun q hq => by omega)).1
theorem Delay_f (ps rs : List (List S71)) (a : Int) : Ev (fun k => pump_Delay.f k ps rs a) (dly ps rs a) := by
  by_cases c : pln ps rs a = 0
  · obtain ⟨h, h0, h1⟩ := pln_zero.1 c
    obtain ⟨n, rfl⟩ := Int.eq_ofNat_of_zero_le h0
    exact Delay_pos h (by omega) _ (dly_pos c).symm
  · rw [dly_neg c]
    refine Ev.congr (f := fun _ => some (0, pln ps rs a)) (fun k => ?_) (Ev.now _)
    unfold pump_Delay.f
    rw [planned_f, Option.bind_some, if_neg c]
end Go.Proofs.Ythoeindopljmkaa.P
end
section
namespace Go.Proofs.Ythoeindopljmkaa.P
open Go.RowKit Go.Proofs.YthoeindopljmkaaW.PrintWords Go.Proofs.YthoeindopljmkaaW.PrintLast Go.Proofs.YthoeindopljmkaaW.PrintMore
open Pm
def U8s (l : List S86) : Prop := ∀ x ∈ l, (0 ≤ x.f0 ∧ x.f0 < 256) ∧ 0 ≤ x.f1 ∧ x.f1 < 256
structure Few (L : List S71) : Prop where
  ne : 1 ≤ L.length
  le : L.length ≤ 3
  small : ∀ b ∈ L, (1 ≤ b.f0 ∧ b.f0 ≤ 4) ∧ 0 ≤ b.f1 ∧ b.f1 ≤ 5
theorem few_cb {L : List S71} (h : Few L) : cb L = 0 := cb_zero.2 ⟨by have := h.ne; omega, by have := h.le; omega, fun b hb => good_iff.2 (by have := h.small b hb; omega)⟩
theorem few_one {x : S86} (h : (0 ≤ x.f0 ∧ x.f0 < 256) ∧ 0 ≤ x.f1 ∧ x.f1 < 256) : (1 ≤ wrap64 (1 + (Int.tmod (wrap64 x.f0) 4)) ∧ wrap64 (1 + (Int.tmod (wrap64 x.f0) 4)) ≤ 4) ∧ 0 ≤ Int.tmod (wrap64 x.f1) 6 ∧ Int.tmod (wrap64 x.f1) 6 ≤ 5 := by
  have e0 : wrap64 x.f0 = x.f0 := by unfold wrap64; omega
  have e1 : wrap64 x.f1 = x.f1 := by unfold wrap64; omega
  have a0 := Int.tmod_nonneg 4 h.1.1
  have a1 := Int.tmod_lt_of_pos x.f0 (show (0 : Int) < 4 by omega)
  have b0 := Int.tmod_nonneg 6 h.2.1
  have b1 := Int.tmod_lt_of_pos x.f1 (show (0 : Int) < 6 by omega)
  rw [e0, e1]
  have e2 : wrap64 (1 + Int.tmod x.f0 4) = 1 + Int.tmod x.f0 4 := by unfold wrap64; omega
  rw [e2]
  omega
theorem rd86_mem {l : List S86} {i : Nat} (h : i < l.length) : rd_T86 l i ∈ l := by
  unfold rd_T86
  rw [List.getD_eq_getElem?_getD, Int.toNat_natCast, List.getElem?_eq_getElem h]
  exact List.getElem_mem h
theorem made_l0 {l : List S86} (hu : U8s l) : ∀ (k i : Nat) (x3 : List S71), (i ≤ 3) → 2 * (3 - i) + 2 ≤ k → Few x3 → x3.length ≤ max 1 i → ∃ L, pianolalaw04_Set_made.l0 k l x3 i = some L ∧ Few L
  | 0, i, x3, hi, hk, _, _ => by omega
  | 1, i, x3, hi, hk, _, _ => by omega
  | k + 2, i, x3, hi, hk, hf, hx => by
    unfold pianolalaw04_Set_made.l0 pianolalaw04_Set_made.j1
    by_cases c : i < l.length
    · rw [if_pos (by omega)]
      by_cases c3 : i < 3
      · have h1 := few_one (hu _ (rd86_mem c))
        have hn := hf.ne
        rw [if_pos (decide_eq_true (by omega)), if_pos (by omega), if_pos (by omega), show wrap64 ((i : Int) + 1) = ((i + 1 : Nat) : Int) by unfold wrap64; omega]
        by_cases c0 : i = 0
        · rw [if_pos (by omega), if_pos (by omega)]
          refine made_l0 hu k (i + 1) _ (by omega) (by omega) ⟨by simpa using hf.ne, by simpa using hf.le, fun b hb => ?_⟩ (by simp; omega)
          rcases List.mem_or_eq_of_mem_set hb with h | h
          · exact hf.small b h
          · rw [h]; exact h1
        · rw [if_neg (by omega), if_pos (by omega)]
          refine made_l0 hu k (i + 1) _ (by omega) (by omega) ⟨by simp, by simp; omega, fun b hb => ?_⟩ (by simp; omega)
          rcases List.mem_append.1 hb with h | h
          · exact hf.small b h
          · rw [List.mem_singleton.1 h]; exact h1
      · rw [if_neg (by simp; omega)]
        exact ⟨x3, rfl, hf⟩
    · rw [if_neg (by omega), if_neg (by simp)]
      exact ⟨x3, rfl, hf⟩
theorem made_f {l : List S86} (hu : U8s l) {k : Nat} (hk : 8 ≤ k) : ∃ L, pianolalaw04_Set_made.f k l = some L ∧ Few L :=
  made_l0 hu k 0 _ (by omega) (by omega) ⟨Nat.le_refl _, by decide, fun b hb => by rw [List.mem_singleton.1 hb]; decide⟩ (by decide)
theorem made_all {l : List S86} (hu : U8s l) : ∃ L, (∀ k, 8 ≤ k → pianolalaw04_Set_made.f k l = some L) ∧ Few L := by
  obtain ⟨L, h, hf⟩ := made_f hu (Nat.le_refl 8)
  refine ⟨L, fun k hk => ?_, hf⟩
  obtain ⟨j, rfl⟩ : ∃ j, k = 8 + j := ⟨k - 8, by omega⟩
  induction j with
  | zero => exact h
  | succ j ih => exact pianolalaw04_Set_made.mono l (8 + j) L (ih (by omega))
theorem u8_wf {x : Int} (h : (Lit.int .u8 x).wf = true) : 0 ≤ x ∧ x < 256 := by
  have h1 : (decide (IntKind.u8.min ≤ x) && decide (x ≤ IntKind.u8.max)) = true := h
  rw [Bool.and_eq_true, decide_eq_true_eq, decide_eq_true_eq] at h1
  have e1 : IntKind.u8.min = 0 := by decide
  have e2 : IntKind.u8.max = 255 := by decide
  omega
end Go.Proofs.Ythoeindopljmkaa.P
end
section
namespace Go.Proofs.Ythoeindopljmkaa.P
open Go.RowKit Go.Proofs.YthoeindopljmkaaW.PrintWords Go.Proofs.YthoeindopljmkaaW.PrintLast Go.Proofs.YthoeindopljmkaaW.PrintMore
open Pm
theorem u8s_of {l : List S86} (h : U8f l) : U8s l := fun x hx => ⟨u8_wf (h x hx).1, u8_wf (h x hx).2⟩
def pick1 (b : Bool) (x y : List S71) : List (List S71) := if b = true then [x, y] else [x]
theorem engine_f {a b c d : List S86} (ha : U8s a) (hb : U8s b) (hc : U8s c) (hd : U8s d) : ∃ A B C D, Few A ∧ Few B ∧ Few C ∧ Few D ∧ ∀ t u : Bool, Ev (fun k => pianolalaw04_Engine_made.f k a b c d t u) (pick1 t A B, pick1 u C D) := by
  obtain ⟨A, hA, fA⟩ := made_all ha
  obtain ⟨B, hB, fB⟩ := made_all hb
  obtain ⟨C, hC, fC⟩ := made_all hc
  obtain ⟨D, hD, fD⟩ := made_all hd
  refine ⟨A, B, C, D, fA, fB, fC, fD, fun t u => ⟨8, fun k hk => ?_⟩⟩
  show pianolalaw04_Engine_made.f k a b c d t u = _
  unfold pianolalaw04_Engine_made.f pick1
  rw [hA k hk, hB k hk, hC k hk, hD k hk]
  cases t <;> cases u <;> rfl
theorem pick_len (b : Bool) (x y : List S71) : 0 < (pick1 b x y).length ∧ (pick1 b x y).length ≤ 2 := by cases b <;> simp [pick1]
theorem pick_mem {b : Bool} {x y l : List S71} (h : l ∈ pick1 b x y) : l = x ∨ l = y := by
  cases b <;> simp [pick1] at h <;> simp [h]
theorem pick_plant {t u : Bool} {A B C D : List S71} (fA : Few A) (fB : Few B) (fC : Few C) (fD : Few D) : Plant (pick1 t A B) (pick1 u C D) := by
  have h1 := pick_len t A B
  have h2 := pick_len u C D
  refine ⟨h1.1, by omega, h2.1, by omega, fun x hx => ?_, fun x hx => ?_⟩
  · rcases pick_mem hx with rfl | rfl
    · exact few_cb fA
    · exact few_cb fB
  · rcases pick_mem hx with rfl | rfl
    · exact few_cb fC
    · exact few_cb fD
theorem rem_in (a c : Int) (h0 : 0 ≤ a) (h1 : a < 256) (hc : 0 < c) : ∃ n : Nat, Int.tmod (wrap64 a) c = (n : Int) ∧ (n : Int) < c := by
  rw [show wrap64 a = a by unfold wrap64; omega]
  have := Int.tmod_nonneg c h0
  have := Int.tmod_lt_of_pos a hc
  exact ⟨(Int.tmod a c).toNat, by omega, by omega⟩
end Go.Proofs.Ythoeindopljmkaa.P
end
section
namespace Pm
set_option linter.unusedSectionVars false
theorem preS_snoc_le (l : List Int) (x : Int) : ∀ m, m ≤ l.length → preS (l ++ [x]) m = preS l m
  | 0, _ => rfl
  | m + 1, h => by
    show preS (l ++ [x]) m + (l ++ [x]).getD m 0 = preS l m + l.getD m 0
    rw [preS_snoc_le l x m (by omega), List.getD_eq_getElem?_getD, List.getElem?_append_left (by omega), ← List.getD_eq_getElem?_getD]
theorem preS_snoc_end (l : List Int) (x : Int) : preS (l ++ [x]) (l.length + 1) = preS l l.length + x := by
  show preS (l ++ [x]) l.length + (l ++ [x]).getD l.length 0 = _
  rw [preS_snoc_le l x _ (Nat.le_refl _)]
  simp [List.getD_eq_getElem?_getD]
theorem preS_over {l : List Int} : ∀ m, l.length ≤ m → preS l m = preS l l.length
  | 0, h => by
    have : l.length = 0 := by omega
    rw [this]
  | m + 1, h => by
    by_cases c : l.length = m + 1
    · rw [c]
    · show preS l m + l.getD m 0 = _
      rw [preS_over m (by omega), List.getD_eq_getElem?_getD, List.getElem?_eq_none (by omega)]
      exact Int.add_zero _
def back (out : List Int) (b : B2) : Int := preS out out.length - preS out (out.length + 1 - b.1.toNat)
def foldD (out : List Int) (w : Int) (L : List B2) : Int := L.foldl (fun w b => min w (b.2 - back out b)) w
def foldC (out : List Int) (w : Int) (L : List B2) : Int := L.foldl (fun w b => if b.1 ≤ (out.length : Int) + 1 then max w (b.2 - back out b) else w) w
def demL (L : List B2) (W : Nat → Int) : Nat → List Int
  | 0 => []
  | n + 1 => demL L W n ++ [max 0 (foldD (demL L W n) (W n) L)]
def capL (L : List B2) (W : Nat → Int) : Nat → List Int
  | 0 => []
  | n + 1 => capL L W n ++ [foldC (capL L W n) (W n) L]
theorem demL_len (L : List B2) (W : Nat → Int) : ∀ n, (demL L W n).length = n
  | 0 => rfl
  | n + 1 => by simp [demL, demL_len L W n]
theorem capL_len (L : List B2) (W : Nat → Int) : ∀ n, (capL L W n).length = n
  | 0 => rfl
  | n + 1 => by simp [capL, capL_len L W n]
theorem foldD_le (out : List Int) : ∀ (L : List B2) (w : Int), foldD out w L ≤ w ∧ ∀ b ∈ L, foldD out w L ≤ b.2 - back out b
  | [], w => ⟨Int.le_refl _, fun _ h => by cases h⟩
  | b :: L, w => by
    obtain ⟨h1, h2⟩ := foldD_le out L (min w (b.2 - back out b))
    have e : foldD out w (b :: L) = foldD out (min w (b.2 - back out b)) L := rfl
    rw [e]
    refine ⟨by omega, fun c hc => ?_⟩
    rcases List.mem_cons.1 hc with rfl | hc
    · omega
    · exact h2 c hc
theorem foldD_at (out : List Int) : ∀ (L : List B2) (w : Int), foldD out w L = w ∨ ∃ b ∈ L, foldD out w L = b.2 - back out b
  | [], w => .inl rfl
  | b :: L, w => by
    have e : foldD out w (b :: L) = foldD out (min w (b.2 - back out b)) L := rfl
    rw [e]
    rcases foldD_at out L (min w (b.2 - back out b)) with h | ⟨c, hc, h⟩
    · by_cases q : w ≤ b.2 - back out b
      · exact .inl (by rw [h]; omega)
      · exact .inr ⟨b, List.mem_cons_self, by rw [h]; omega⟩
    · exact .inr ⟨c, List.mem_cons_of_mem _ hc, h⟩
theorem foldC_le (out : List Int) : ∀ (L : List B2) (w : Int), w ≤ foldC out w L ∧ ∀ b ∈ L, b.1 ≤ (out.length : Int) + 1 → b.2 - back out b ≤ foldC out w L
  | [], w => ⟨Int.le_refl _, fun _ h => by cases h⟩
  | b :: L, w => by
    have e : foldC out w (b :: L) = foldC out (if b.1 ≤ (out.length : Int) + 1 then max w (b.2 - back out b) else w) L := rfl
    rw [e]
    by_cases q : b.1 ≤ (out.length : Int) + 1
    · rw [if_pos q]
      obtain ⟨h1, h2⟩ := foldC_le out L (max w (b.2 - back out b))
      refine ⟨by omega, fun c hc hq => ?_⟩
      rcases List.mem_cons.1 hc with rfl | hc
      · omega
      · exact h2 c hc hq
    · rw [if_neg q]
      obtain ⟨h1, h2⟩ := foldC_le out L w
      refine ⟨h1, fun c hc hq => ?_⟩
      rcases List.mem_cons.1 hc with rfl | hc
      · exact absurd hq q
      · exact h2 c hc hq
theorem foldC_at (out : List Int) : ∀ (L : List B2) (w : Int), foldC out w L = w ∨ ∃ b ∈ L, b.1 ≤ (out.length : Int) + 1 ∧ foldC out w L = b.2 - back out b
  | [], w => .inl rfl
  | b :: L, w => by
    have e : foldC out w (b :: L) = foldC out (if b.1 ≤ (out.length : Int) + 1 then max w (b.2 - back out b) else w) L := rfl
    rw [e]
    by_cases q : b.1 ≤ (out.length : Int) + 1
    · rw [if_pos q]
      rcases foldC_at out L (max w (b.2 - back out b)) with h | ⟨c, hc, hq, h⟩
      · by_cases q2 : b.2 - back out b ≤ w
        · exact .inl (by rw [h]; omega)
        · exact .inr ⟨b, List.mem_cons_self, q, by rw [h]; omega⟩
      · exact .inr ⟨c, List.mem_cons_of_mem _ hc, hq, h⟩
    · rw [if_neg q]
      rcases foldC_at out L w with h | ⟨c, hc, hq, h⟩
      · exact .inl h
      · exact .inr ⟨c, List.mem_cons_of_mem _ hc, hq, h⟩
section
variable {L : List B2} (h : Bds L) {W : Nat → Int}
include h
theorem demL_pre : ∀ (n m : Nat), m ≤ n → preS (demL L W n) m = preS (demL L W m) m
  | 0, m, hm => by
    have : m = 0 := by omega
    subst this; rfl
  | n + 1, m, hm => by
    by_cases c : m = n + 1
    · subst c; rfl
    · show preS (demL L W n ++ [_]) m = _
      rw [preS_snoc_le _ _ _ (by rw [demL_len]; omega), demL_pre n m (by omega)]
theorem capL_pre : ∀ (n m : Nat), m ≤ n → preS (capL L W n) m = preS (capL L W m) m
  | 0, m, hm => by
    have : m = 0 := by omega
    subst this; rfl
  | n + 1, m, hm => by
    by_cases c : m = n + 1
    · subst c; rfl
    · show preS (capL L W n ++ [_]) m = _
      rw [preS_snoc_le _ _ _ (by rw [capL_len]; omega), capL_pre n m (by omega)]
theorem demL_succ (n : Nat) : preS (demL L W (n + 1)) (n + 1) = preS (demL L W n) n + max 0 (foldD (demL L W n) (W n) L) := by
  have := preS_snoc_end (demL L W n) (max 0 (foldD (demL L W n) (W n) L))
  rw [demL_len] at this
  exact this
theorem capL_succ (n : Nat) : preS (capL L W (n + 1)) (n + 1) = preS (capL L W n) n + foldC (capL L W n) (W n) L := by
  have := preS_snoc_end (capL L W n) (foldC (capL L W n) (W n) L)
  rw [capL_len] at this
  exact this
theorem back_dem (n : Nat) (b : B2) : back (demL L W n) b = preS (demL L W n) n - preS (demL L W (n + 1 - b.1.toNat)) (n + 1 - b.1.toNat) ∨ n + 1 < n + 1 - b.1.toNat ∨ b.1.toNat = 0 := by
  by_cases c : b.1.toNat = 0
  · exact .inr (.inr c)
  · left
    unfold back
    rw [demL_len, demL_pre h n (n + 1 - b.1.toNat) (by omega)]
theorem back_dem' {n : Nat} {b : B2} (hb : b ∈ L) : back (demL L W n) b = preS (demL L W n) n - preS (demL L W (n + 1 - b.1.toNat)) (n + 1 - b.1.toNat) := by
  have := h.t b hb
  rcases back_dem h (W := W) n b with e | e | e
  · exact e
  · omega
  · omega
theorem back_cap' {n : Nat} {b : B2} (hb : b ∈ L) : back (capL L W n) b = preS (capL L W n) n - preS (capL L W (n + 1 - b.1.toNat)) (n + 1 - b.1.toNat) := by
  have := h.t b hb
  unfold back
  rw [capL_len, capL_pre h n (n + 1 - b.1.toNat) (by omega)]
theorem demL_nonneg : ∀ (n m : Nat), 0 ≤ (demL L W n).getD m 0
  | 0, m => by simp [demL]
  | n + 1, m => by
    show 0 ≤ (demL L W n ++ [_]).getD m 0
    rw [List.getD_eq_getElem?_getD]
    by_cases c : m < (demL L W n).length
    · rw [List.getElem?_append_left c, ← List.getD_eq_getElem?_getD]; exact demL_nonneg n m
    · rw [List.getElem?_append_right (by omega)]
      cases e : m - (demL L W n).length with
      | zero => show 0 ≤ max 0 _; omega
      | succ q => simp
theorem capL_nonneg (hW : ∀ n, 0 ≤ W n) : ∀ (n m : Nat), 0 ≤ (capL L W n).getD m 0
  | 0, m => by simp [capL]
  | n + 1, m => by
    show 0 ≤ (capL L W n ++ [_]).getD m 0
    rw [List.getD_eq_getElem?_getD]
    by_cases c : m < (capL L W n).length
    · rw [List.getElem?_append_left c, ← List.getD_eq_getElem?_getD]; exact capL_nonneg hW n m
    · rw [List.getElem?_append_right (by omega)]
      cases e : m - (capL L W n).length with
      | zero =>
        have h1 := (foldC_le (capL L W n) L (W n)).1
        have h2 := hW n
        show 0 ≤ foldC _ _ _
        omega
      | succ q => simp
theorem demL_keeps : ∀ n, Keeps L (demL L W n)
  | 0, b, hb, s => by
    have := h.a b hb
    rw [preS_over (l := demL L W 0) (s + b.1.toNat) (Nat.zero_le _), preS_over (l := demL L W 0) s (Nat.zero_le _)]
    omega
  | n + 1, b, hb, s => by
    have ha := h.a b hb
    have ht := h.t b hb
    have ih := demL_keeps n b hb
    have mono := fun (m q : Nat) (hmq : m ≤ q) => preS_mono (demL_nonneg h (W := W) (n + 1)) hmq
    have len := demL_len L W (n + 1)
    by_cases c : s + b.1.toNat ≤ n
    · rw [demL_pre h _ _ (show s + b.1.toNat ≤ n + 1 by omega), demL_pre h _ _ (show s ≤ n + 1 by omega), ← demL_pre h n _ c, ← demL_pre h n s (by omega)]
      exact ih s
    · by_cases c2 : n + 1 ≤ s
      · rw [preS_over (l := demL L W (n + 1)) (s + b.1.toNat) (by omega), preS_over (l := demL L W (n + 1)) s (by omega)]
        omega
      · rw [preS_over (l := demL L W (n + 1)) (s + b.1.toNat) (by omega), len]
        have h1 := mono (n + 1 - b.1.toNat) s (by omega)
        rw [demL_pre h _ (n + 1 - b.1.toNat) (by omega)] at h1
        have h2 := demL_succ h (W := W) n
        have h3 := (foldD_le (demL L W n) L (W n)).2 b hb
        rw [back_dem' h hb] at h3
        have h4 := ih (n - b.1.toNat)
        have h5 : preS (demL L W n) n ≤ preS (demL L W n) (n - b.1.toNat + b.1.toNat) := preS_mono (demL_nonneg h (W := W) n) (by omega)
        have h6 : preS (demL L W n) (n - b.1.toNat) ≤ preS (demL L W n) (n + 1 - b.1.toNat) := preS_mono (demL_nonneg h (W := W) n) (by omega)
        rw [demL_pre h n (n + 1 - b.1.toNat) (by omega)] at h6
        omega
theorem capL_has : ∀ n, Has L n (capL L W n)
  | 0, b, hb, s, hs => by
    have := h.t b hb
    omega
  | n + 1, b, hb, s, hs => by
    have ht := h.t b hb
    by_cases c : s + b.1.toNat ≤ n
    · rw [capL_pre h _ _ hs, capL_pre h _ _ (show s ≤ n + 1 by omega), ← capL_pre h n _ c, ← capL_pre h n s (by omega)]
      exact capL_has n b hb s c
    · have e : s + b.1.toNat = n + 1 := by omega
      rw [e, capL_pre h _ s (by omega)]
      have h2 := capL_succ h (W := W) n
      have h3 := (foldC_le (capL L W n) L (W n)).2 b hb (by rw [capL_len]; omega)
      rw [back_cap' h hb, show n + 1 - b.1.toNat = s by omega] at h3
      omega
theorem demL_le (n : Nat) : preS (demL L W n) n ≤ mst L n := by
  have := keeps_mst h (demL_nonneg h (W := W) n) (demL_keeps h n) n 0
  rw [Nat.zero_add] at this
  have e : preS (demL L W n) 0 = 0 := rfl
  omega
theorem capL_ge (hW : ∀ n, 0 ≤ W n) (n : Nat) : lst L n ≤ preS (capL L W n) n := by
  have := has_lst h (capL_nonneg h hW n) (capL_has h n) n 0 (by omega)
  rw [Nat.zero_add] at this
  have e : preS (capL L W n) 0 = 0 := rfl
  omega
theorem demL_full (hW : ∀ n, ∀ b ∈ L, b.2 ≤ W n) : ∀ n, preS (demL L W n) n = mst L n := by
  intro n
  induction n using Nat.strongRecOn with
  | _ n ih =>
    cases n with
    | zero => rfl
    | succ n =>
      have hs := demL_succ h (W := W) n
      have i0 := ih n (by omega)
      obtain ⟨m1, j, _, b, hb, e⟩ := mst_spec h n
      have hbm := List.mem_of_getElem? hb
      have mono := mst_step h n
      have up := (foldD_le (demL L W n) L (W n)).2 b hbm
      rw [back_dem' h hbm, ih (n + 1 - b.1.toNat) (by have := h.t b hbm; omega), i0] at up
      rcases foldD_at (demL L W n) L (W n) with q | ⟨c, hc, q⟩
      · have h1 := hW n b hbm
        have h2 := mst_mono h (show n + 1 - b.1.toNat ≤ n by have := h.t b hbm; omega)
        have h3 := demL_le h (W := W) (n + 1)
        omega
      · rw [back_dem' h hc, ih (n + 1 - c.1.toNat) (by have := h.t c hc; omega), i0] at q
        have := m1 c hc
        omega
theorem capL_full : ∀ n, preS (capL L (fun _ => 0) n) n = lst L n := by
  intro n
  induction n using Nat.strongRecOn with
  | _ n ih =>
    cases n with
    | zero => rfl
    | succ n =>
      have hs := capL_succ h (W := fun _ => 0) n
      have i0 := ih n (by omega)
      obtain ⟨m0, m1, m2⟩ := lst_spec h n
      have ge := capL_ge h (W := fun _ => 0) (fun _ => Int.le_refl _) (n + 1)
      rcases foldC_at (capL L (fun _ => 0) n) L 0 with q | ⟨c, hc, hq, q⟩
      · omega
      · rw [back_cap' h hc, ih (n + 1 - c.1.toNat) (by have := h.t c hc; omega), i0] at q
        rw [capL_len] at hq
        have := m1 c hc hq
        omega
theorem demL_small (hW : ∀ n, W n ≤ 1000) : ∀ (n m : Nat), (demL L W n).getD m 0 ≤ 1000
  | 0, m => by simp [demL]
  | n + 1, m => by
    show (demL L W n ++ [_]).getD m 0 ≤ 1000
    rw [List.getD_eq_getElem?_getD]
    by_cases c : m < (demL L W n).length
    · rw [List.getElem?_append_left c, ← List.getD_eq_getElem?_getD]; exact demL_small hW n m
    · rw [List.getElem?_append_right (by omega)]
      cases e : m - (demL L W n).length with
      | zero =>
        have h1 := (foldD_le (demL L W n) L (W n)).1
        have h2 := hW n
        show max 0 (foldD _ _ _) ≤ 1000
        omega
      | succ q => simp
theorem capL_small (hW : ∀ n, 0 ≤ W n ∧ W n ≤ 1000000) : ∀ (n m : Nat), (capL L W n).getD m 0 ≤ 1000000
  | 0, m => by simp [capL]
  | n + 1, m => by
    show (capL L W n ++ [_]).getD m 0 ≤ 1000000
    rw [List.getD_eq_getElem?_getD]
    by_cases c : m < (capL L W n).length
    · rw [List.getElem?_append_left c, ← List.getD_eq_getElem?_getD]; exact capL_small hW n m
    · rw [List.getElem?_append_right (by omega)]
      cases e : m - (capL L W n).length with
      | zero =>
        have h2 := hW n
        show foldC _ _ _ ≤ 1000000
        rcases foldC_at (capL L W n) L (W n) with q | ⟨b, hb, _, q⟩
        · omega
        · have := h.a b hb
          have mono : preS (capL L W n) (n + 1 - b.1.toNat) ≤ preS (capL L W n) n := preS_mono (capL_nonneg h (fun n => (hW n).1) n) (by have := h.t b hb; omega)
          rw [q]
          unfold back
          rw [capL_len]
          omega
      | succ q => simp
end
end Pm
end
section
namespace Go.Proofs.Ythoeindopljmkaa.P
open Go.RowKit Go.Proofs.YthoeindopljmkaaW.PrintWords Go.Proofs.YthoeindopljmkaaW.PrintLast Go.Proofs.YthoeindopljmkaaW.PrintMore
open Pm
set_option linter.unusedSectionVars false
def Mild (l : List Int) : Prop := l.length ≤ 1000 ∧ ∀ m, 0 ≤ l.getD m 0 ∧ l.getD m 0 ≤ 1000000
theorem preS_bd {l : List Int} (h : Mild l) : ∀ m, 0 ≤ preS l m ∧ preS l m ≤ 1000000 * m
  | 0 => by simp [preS]
  | m + 1 => by
    have := preS_bd h m
    have := h.2 m
    have e : preS l (m + 1) = preS l m + l.getD m 0 := rfl
    omega
theorem preS_diff {l : List Int} (h : Mild l) {s t : Nat} (hst : s ≤ t) : 0 ≤ preS l t - preS l s := by
  have := preS_mono (fun m => (h.2 m).1) hst
  omega
theorem sumsM_l0 {l : List Int} (h : Mild l) {s d : Nat} (hs : s ≤ 2000) (hd : d ≤ 2000) : ∀ (m i : Nat), s ≤ i → i + m = s + d → Ev (fun k => pianolalaw04_sums.l0 k l s d (preS l i - preS l s) i) (preS l (s + d) - preS l s)
  | 0, i, h1, h2 => by
    obtain rfl : i = s + d := by omega
    refine Ev.step (f := fun _ => some (preS l (s + d) - preS l s)) (fun k => ?_) (Ev.now _)
    rw [pianolalaw04_sums.l0, if_neg (by unfold wrap64; omega)]
  | m + 1, i, h1, h2 => by
    have e0 : wrap64 ((s : Int) + d) = ((s + d : Nat) : Int) := by unfold wrap64; omega
    by_cases c : i < l.length
    · have b1 := preS_bd h i
      have b2 := preS_bd h s
      have b3 := h.2 i
      have e : preS l (i + 1) = preS l i + l.getD i 0 := rfl
      have er : rd l (i : Int) = l.getD i 0 := rfl
      refine Ev.step (fun k => ?_) (sumsM_l0 h hs hd m (i + 1) (by omega) (by omega))
      rw [pianolalaw04_sums.l0, e0, if_pos (by omega), if_pos (by omega), if_pos (by omega), er, wrapN (by omega), show wrap64 (preS l i - preS l s + l.getD i 0) = preS l (i + 1) - preS l s by unfold wrap64; omega]
    · refine Ev.step (f := fun _ => some (preS l (s + d) - preS l s)) (fun k => ?_) (Ev.now _)
      rw [pianolalaw04_sums.l0, e0, if_pos (by omega), if_neg (by omega), preS_over (l := l) i (by omega), preS_over (l := l) (s + d) (by omega)]
theorem sumsM_f {l : List Int} (h : Mild l) {s d : Nat} (hs : s ≤ 2000) (hd : d ≤ 2000) : Ev (fun k => pianolalaw04_sums.f k l s d) (preS l (s + d) - preS l s) := by
  have := sumsM_l0 h hs hd d s (Nat.le_refl _) rfl
  rw [show preS l s - preS l s = 0 by omega] at this
  exact this
def Wd (y : List Int) (t : Nat) : Int := if y.length = 0 then 1000 else Int.tmod (wrap64 (rd y ((t % y.length : Nat) : Int))) 8
def Wc (y : List Int) (t : Nat) : Int := if y.length = 0 then 0 else wrap64 (wrap64 (Int.tdiv (Int.tmod (wrap64 (rd y ((t % y.length : Nat) : Int))) 8) 2) * wrap64 (Int.tdiv (wrap64 (rd y ((t % y.length : Nat) : Int))) 128))
def Bytes (y : List Int) : Prop := y.length ≤ 9223372036854775807 ∧ ∀ x ∈ y, 0 ≤ x ∧ x < 256
theorem bytes_rd {y : List Int} (h : Bytes y) (i : Int) : 0 ≤ rd y i ∧ rd y i < 256 := by
  unfold rd
  rw [List.getD_eq_getElem?_getD]
  by_cases c : i.toNat < y.length
  · rw [List.getElem?_eq_getElem c]; exact h.2 _ (List.getElem_mem c)
  · rw [List.getElem?_eq_none (by omega)]; exact ⟨Int.le_refl _, by decide⟩
theorem Wd_in {y : List Int} (h : Bytes y) (t : Nat) : 0 ≤ Wd y t ∧ Wd y t ≤ 1000 := by
  unfold Wd
  by_cases c : y.length = 0
  · rw [if_pos c]; omega
  · rw [if_neg c]
    have b := bytes_rd h ((t % y.length : Nat) : Int)
    rw [show ∀ z : Int, 0 ≤ z ∧ z < 256 → wrap64 z = z from fun z hz => by unfold wrap64; omega]
    · have := Int.tmod_nonneg 8 b.1
      have := Int.tmod_lt_of_pos (rd y ((t % y.length : Nat) : Int)) (show (0 : Int) < 8 by omega)
      omega
    · exact b
theorem Wc_in {y : List Int} (h : Bytes y) (t : Nat) : 0 ≤ Wc y t ∧ Wc y t ≤ 1000000 := by
  unfold Wc
  by_cases c : y.length = 0
  · rw [if_pos c]; omega
  · rw [if_neg c]
    have b := bytes_rd h ((t % y.length : Nat) : Int)
    generalize rd y ((t % y.length : Nat) : Int) = z at b
    have e : wrap64 z = z := by unfold wrap64; omega
    rw [e]
    have m0 := Int.tmod_nonneg 8 b.1
    have m1 := Int.tmod_lt_of_pos z (show (0 : Int) < 8 by omega)
    have d0 : 0 ≤ Int.tdiv (Int.tmod z 8) 2 ∧ Int.tdiv (Int.tmod z 8) 2 ≤ 3 := by
      rw [Int.tdiv_eq_ediv_of_nonneg m0]; omega
    have d1 : 0 ≤ Int.tdiv z 128 ∧ Int.tdiv z 128 ≤ 1 := by
      rw [Int.tdiv_eq_ediv_of_nonneg b.1]; omega
    generalize Int.tdiv (Int.tmod z 8) 2 = u at d0; generalize Int.tdiv z 128 = v at d1
    rw [show wrap64 u = u by unfold wrap64; omega, show wrap64 v = v by unfold wrap64; omega]
    have hv : v = 0 ∨ v = 1 := by omega
    rcases hv with rfl | rfl
    · rw [Int.mul_zero]; unfold wrap64; omega
    · rw [Int.mul_one]; unfold wrap64; omega
theorem mn_min' (a b : Int) : mn a b = min a b := by unfold mn; omega
theorem tmod_nat (t n : Nat) : Int.tmod (t : Int) (n : Int) = ((t % n : Nat) : Int) := by
  rw [Int.tmod_eq_emod_of_nonneg (Int.natCast_nonneg t)]
  exact (Int.natCast_emod t n).symm
section
variable {l : List S71} (hb : Bds (bs l)) (hl : l.length ≤ 1000)
include hb hl
theorem bs_at {i : Nat} (h : i < l.length) : (1 ≤ (rd_T71 l i).f0 ∧ (rd_T71 l i).f0 ≤ 100) ∧ 0 ≤ (rd_T71 l i).f1 ∧ (rd_T71 l i).f1 ≤ 1000000 := by
  have hm : ((rd_T71 l i).f0, (rd_T71 l i).f1) ∈ bs l := List.mem_of_mem_drop (i := i) (by rw [bs_drop l h]; exact List.mem_cons_self)
  exact ⟨hb.t _ hm, hb.a _ hm⟩
theorem mild_dem (y : List Int) (hy : Bytes y) {n : Nat} (hn : n ≤ 1000) : Mild (demL (bs l) (Wd y) n) :=
  ⟨by rw [demL_len]; exact hn, fun m => ⟨demL_nonneg hb n m, by have := demL_small hb (fun q => (Wd_in hy q).2) n m; omega⟩⟩
theorem mild_cap (y : List Int) (hy : Bytes y) {n : Nat} (hn : n ≤ 1000) : Mild (capL (bs l) (Wc y) n) :=
  ⟨by rw [capL_len]; exact hn, fun m => ⟨capL_nonneg hb (fun q => (Wc_in hy q).1) n m, capL_small hb (fun q => Wc_in hy q) n m⟩⟩
theorem demand_l1 {out : List Int} (ho : Mild out) (n : Int) (y : List Int) (r : List Int) : ∀ (m i : Nat), i + m = l.length → ∀ w : Int, -10000000000 ≤ w → w ≤ 10000000000 →
    Ev (fun k => pianolalaw04_demand.l0 k l n y (out ++ [max 0 (foldD out w ((bs l).drop i))]) ((out.length + 1 : Nat) : Int)) r →
    Ev (fun k => pianolalaw04_demand.l1 k l n y out out.length w l l.length i) r
  | 0, i, h, w, w0, w1, hr => by
    have := ho.1
    refine Ev.step (fun k => ?_) hr
    rw [pianolalaw04_demand.l1, if_neg (by omega), if_pos (by omega), wrapN (by omega), mx_max, List.drop_eq_nil_of_le (by simp [bs]; omega)]
    rfl
  | m + 1, i, h, w, w0, w1, hr => by
    have c : i < l.length := by omega
    have hl0 := ho.1
    obtain ⟨ht, ha⟩ := bs_at hb hl c
    rw [bs_drop l c] at hr
    have es : mx 0 (wrap64 (wrap64 ((out.length : Int) - (rd_T71 l i).f0) + 1)) = ((out.length + 1 - (rd_T71 l i).f0.toNat : Nat) : Int) := by
      rw [show wrap64 ((out.length : Int) - (rd_T71 l i).f0) = (out.length : Int) - (rd_T71 l i).f0 by unfold wrap64; omega, show wrap64 ((out.length : Int) - (rd_T71 l i).f0 + 1) = (out.length : Int) - (rd_T71 l i).f0 + 1 by unfold wrap64; omega, mx_max]
      omega
    have et : (rd_T71 l i).f0 = (((rd_T71 l i).f0.toNat : Nat) : Int) := by omega
    have hs := sumsM_f ho (s := out.length + 1 - (rd_T71 l i).f0.toNat) (d := (rd_T71 l i).f0.toNat) (by omega) (by omega)
    rw [preS_over (l := out) _ (show out.length ≤ out.length + 1 - (rd_T71 l i).f0.toNat + (rd_T71 l i).f0.toNat by omega)] at hs
    have hbk : preS out out.length - preS out (out.length + 1 - (rd_T71 l i).f0.toNat) = back out ((rd_T71 l i).f0, (rd_T71 l i).f1) := rfl
    have b1 := preS_bd ho out.length
    have b2 := preS_diff ho (show out.length + 1 - (rd_T71 l i).f0.toNat ≤ out.length by omega)
    have b3 := preS_bd ho (out.length + 1 - (rd_T71 l i).f0.toNat)
    rw [hbk] at hs b2
    refine Ev.step (f := fun k => (pianolalaw04_sums.f k out ((out.length + 1 - (rd_T71 l i).f0.toNat : Nat) : Int) (((rd_T71 l i).f0.toNat : Nat) : Int)).bind fun t => pianolalaw04_demand.l1 k l n y out out.length (mn w (wrap64 ((rd_T71 l i).f1 - t))) l l.length ((i + 1 : Nat) : Int)) (fun k => ?_) ?_
    · rw [pianolalaw04_demand.l1, if_pos (by omega), if_pos (by omega), if_pos (by omega), es, wrapN (by omega), ← et]
    · refine Ev.bind hs ?_
      rw [mn_min', show wrap64 ((rd_T71 l i).f1 - back out ((rd_T71 l i).f0, (rd_T71 l i).f1)) = (rd_T71 l i).f1 - back out ((rd_T71 l i).f0, (rd_T71 l i).f1) by rw [← hbk]; unfold wrap64; omega]
      refine demand_l1 ho n y r m (i + 1) (by omega) _ (by rw [← hbk]; omega) (by omega) ?_
      exact hr
theorem demand_l0 {n : Nat} (hn : n ≤ 1000) (y : List Int) (hy : Bytes y) : ∀ (m t : Nat), t + m = n → Ev (fun k => pianolalaw04_demand.l0 k l n y (demL (bs l) (Wd y) t) t) (demL (bs l) (Wd y) n)
  | 0, t, h => by
    obtain rfl : t = n := by omega
    refine Ev.step (f := fun _ => some (demL (bs l) (Wd y) t)) (fun k => ?_) (Ev.now _)
    rw [pianolalaw04_demand.l0, if_neg (by omega)]
  | m + 1, t, h => by
    have ih := demand_l0 hn y hy m (t + 1) (by omega)
    have hw := Wd_in hy t
    have ho := mild_dem hb hl y hy (n := t) (by omega)
    have hlen := demL_len (bs l) (Wd y) t
    have step := demand_l1 hb hl ho n y (demL (bs l) (Wd y) n) l.length 0 (by omega) (Wd y t) (by omega) (by omega) (by
      rw [List.drop_zero, hlen]
      exact ih)
    rw [hlen] at step
    refine Ev.step (f := fun k => pianolalaw04_demand.j1 k l n y (demL (bs l) (Wd y) t) t (Wd y t)) (fun k => ?_) (Ev.step (fun k => ?_) step)
    · rw [pianolalaw04_demand.l0, if_pos (by omega)]
      unfold Wd
      by_cases c : y.length = 0
      · rw [if_neg (by omega), if_pos c]
      · have hlt := Nat.mod_lt t (show 0 < y.length by omega)
        rw [if_pos (by omega), if_neg (by omega), tmod_nat, if_pos (by omega), if_pos (by omega), if_neg c]
    · rw [pianolalaw04_demand.j1]; rfl
theorem demand_f {n : Nat} (hn : n ≤ 1000) (y : List Int) (hy : Bytes y) : Ev (fun k => pianolalaw04_demand.f k l n y) (demL (bs l) (Wd y) n) :=
  demand_l0 hb hl hn y hy n 0 (by omega)
theorem capacity_l1 {out : List Int} (ho : Mild out) (n : Int) (y : List Int) (r : List Int) : ∀ (m i : Nat), i + m = l.length → ∀ w : Int, 0 ≤ w → w ≤ 10000000000 →
  Ev (fun k => pianolalaw04_capacity.l0 k l n y (out ++ [foldC out w ((bs l).drop i)]) ((out.length + 1 : Nat) : Int)) r →
  Ev (fun k => pianolalaw04_capacity.l1 k l n y out out.length w l l.length i) r
 | 0, i, h, w, w0, w1, hr => by
  have := ho.1
  refine Ev.step (fun k => ?_) hr
  rw [pianolalaw04_capacity.l1, if_neg (by omega), if_pos (by omega), wrapN (by omega), List.drop_eq_nil_of_le (by simp [bs]; omega)]
  rfl
 | m + 1, i, h, w, w0, w1, hr => by
  have c : i < l.length := by omega
  have hl0 := ho.1
  obtain ⟨ht, ha⟩ := bs_at hb hl c
  rw [bs_drop l c] at hr
  have e0 : foldC out w (((rd_T71 l i).f0, (rd_T71 l i).f1) :: (bs l).drop (i + 1)) = foldC out (if (rd_T71 l i).f0 ≤ (out.length : Int) + 1 then max w ((rd_T71 l i).f1 - back out ((rd_T71 l i).f0, (rd_T71 l i).f1)) else w) ((bs l).drop (i + 1)) := rfl
  rw [e0] at hr
  by_cases q : (rd_T71 l i).f0 ≤ (out.length : Int) + 1
  ·
   rw [if_pos q] at hr
   have es : wrap64 (wrap64 ((out.length : Int) - (rd_T71 l i).f0) + 1) = ((out.length + 1 - (rd_T71 l i).f0.toNat : Nat) : Int) := by
    rw [show wrap64 ((out.length : Int) - (rd_T71 l i).f0) = (out.length : Int) - (rd_T71 l i).f0 by unfold wrap64; omega, show wrap64 ((out.length : Int) - (rd_T71 l i).f0 + 1) = (out.length : Int) - (rd_T71 l i).f0 + 1 by unfold wrap64; omega]
    omega
   have et : (rd_T71 l i).f0 = (((rd_T71 l i).f0.toNat : Nat) : Int) := by omega
   have hs := sumsM_f ho (s := out.length + 1 - (rd_T71 l i).f0.toNat) (d := (rd_T71 l i).f0.toNat) (by omega) (by omega)
   rw [preS_over (l := out) _ (show out.length ≤ out.length + 1 - (rd_T71 l i).f0.toNat + (rd_T71 l i).f0.toNat by omega)] at hs
   have hbk : preS out out.length - preS out (out.length + 1 - (rd_T71 l i).f0.toNat) = back out ((rd_T71 l i).f0, (rd_T71 l i).f1) := rfl
   have b1 := preS_bd ho out.length
   have b2 := preS_diff ho (show out.length + 1 - (rd_T71 l i).f0.toNat ≤ out.length by omega)
   have b3 := preS_bd ho (out.length + 1 - (rd_T71 l i).f0.toNat)
   rw [hbk] at hs b2
   refine Ev.step (f := fun k => (pianolalaw04_sums.f k out ((out.length + 1 - (rd_T71 l i).f0.toNat : Nat) : Int) (((rd_T71 l i).f0.toNat : Nat) : Int)).bind fun t => pianolalaw04_capacity.l1 k l n y out out.length (mx w (wrap64 ((rd_T71 l i).f1 - t))) l l.length ((i + 1 : Nat) : Int)) (fun k => ?_) ?_
   ·
    rw [pianolalaw04_capacity.l1, if_pos (by omega), if_pos (by omega), if_pos (by omega), wrapN (by omega), if_pos (by omega), es, wrapN (by omega), ← et]
   ·
    refine Ev.bind hs ?_
    rw [mx_max, show wrap64 ((rd_T71 l i).f1 - back out ((rd_T71 l i).f0, (rd_T71 l i).f1)) = (rd_T71 l i).f1 - back out ((rd_T71 l i).f0, (rd_T71 l i).f1) by rw [← hbk]; unfold wrap64; omega]
    refine capacity_l1 ho n y r m (i + 1) (by omega) _ (by omega) (by rw [← hbk]; omega) ?_
    exact hr
  ·
   rw [if_neg q] at hr
   refine Ev.step (fun k => ?_) (capacity_l1 ho n y r m (i + 1) (by omega) w w0 w1 hr)
   rw [pianolalaw04_capacity.l1, if_pos (by omega), if_pos (by omega), if_pos (by omega), wrapN (by omega), if_neg (by omega), wrapN (by omega)]
theorem capacity_l0 {n : Nat} (hn : n ≤ 1000) (y : List Int) (hy : Bytes y) : ∀ (m t : Nat), t + m = n → Ev (fun k => pianolalaw04_capacity.l0 k l n y (capL (bs l) (Wc y) t) t) (capL (bs l) (Wc y) n)
  | 0, t, h => by
    obtain rfl : t = n := by omega
    refine Ev.step (f := fun _ => some (capL (bs l) (Wc y) t)) (fun k => ?_) (Ev.now _)
    rw [pianolalaw04_capacity.l0, if_neg (by omega)]
  | m + 1, t, h => by
    have ih := capacity_l0 hn y hy m (t + 1) (by omega)
    have hw := Wc_in hy t
    have ho := mild_cap hb hl y hy (n := t) (by omega)
    have hlen := capL_len (bs l) (Wc y) t
    have step := capacity_l1 hb hl ho n y (capL (bs l) (Wc y) n) l.length 0 (by omega) (Wc y t) (by omega) (by omega) (by
      rw [List.drop_zero, hlen]
      exact ih)
    rw [hlen] at step
    refine Ev.step (f := fun k => pianolalaw04_capacity.j1 k l n y (capL (bs l) (Wc y) t) t (Wc y t)) (fun k => ?_) (Ev.step (fun k => ?_) step)
    · rw [pianolalaw04_capacity.l0, if_pos (by omega)]
      unfold Wc
      by_cases c : y.length = 0
      · rw [if_neg (by omega), if_pos c]
      · have hlt := Nat.mod_lt t (show 0 < y.length by omega)
        rw [if_pos (by omega), if_neg (by omega), tmod_nat, if_pos (by omega), if_pos (by omega), if_neg c]
    · rw [pianolalaw04_capacity.j1]; rfl
theorem capacity_f {n : Nat} (hn : n ≤ 1000) (y : List Int) (hy : Bytes y) : Ev (fun k => pianolalaw04_capacity.f k l n y) (capL (bs l) (Wc y) n) :=
  capacity_l0 hb hl hn y hy n 0 (by omega)
end
theorem bytes_nil : Bytes [] := ⟨by simp, fun x h => by cases h⟩
theorem Wd_nil : Wd [] = fun _ => 1000 := rfl
theorem Wc_nil : Wc [] = fun _ => 0 := rfl
theorem bytes_drop {y : List Int} (h : Bytes y) (i : Nat) : Bytes (y.drop i) := ⟨by have := h.1; simp; omega, fun x hx => h.2 x (List.mem_of_mem_drop hx)⟩
def byD (y : List Int) (i : Nat) : List Int := if i < y.length then y.drop i else y
def byC (y : List Int) (i : Nat) : List Int := if 2 * i + 1 < y.length then y.drop (2 * i + 1) else []
theorem bytes_byD {y : List Int} (h : Bytes y) (i : Nat) : Bytes (byD y i) := by
  unfold byD; split
  · exact bytes_drop h i
  · exact h
theorem bytes_byC {y : List Int} (h : Bytes y) (i : Nat) : Bytes (byC y i) := by
  unfold byC; split
  · exact bytes_drop h _
  · exact bytes_nil
def demsL (ps : List (List S71)) (n : Nat) (y : List Int) (m : Nat) : List (List Int) := (List.range m).map fun i => demL (bs (ps.getD i [])) (Wd (byD y i)) n
def capsL (rs : List (List S71)) (n : Nat) (y : List Int) (m : Nat) : List (List Int) := (List.range m).map fun i => capL (bs (rs.getD i [])) (Wc (byC y i)) n
theorem demsL_succ (ps : List (List S71)) (n : Nat) (y : List Int) (m : Nat) : demsL ps n y (m + 1) = demsL ps n y m ++ [demL (bs (ps.getD m [])) (Wd (byD y m)) n] := by unfold demsL; rw [List.range_succ, List.map_append]; rfl
theorem capsL_succ (ps : List (List S71)) (n : Nat) (y : List Int) (m : Nat) : capsL ps n y (m + 1) = capsL ps n y m ++ [capL (bs (ps.getD m [])) (Wc (byC y m)) n] := by unfold capsL; rw [List.range_succ, List.map_append]; rfl
theorem getD_at {l : List (List S71)} {i : Nat} (h : i < l.length) : l.getD i [] = l[i] := by rw [List.getD_eq_getElem?_getD, List.getElem?_eq_getElem h]; rfl
theorem course_l1 {ps rs : List (List S71)} (hP : Plant ps rs) {n : Nat} (hn : n ≤ 1000) {y : List Int} (hy : Bytes y) (D : List (List Int)) : ∀ (m i : Nat), i + m = rs.length →
    Ev (fun k => pianolalaw04_course.l1 k n y rs rs.length i D (capsL rs n y i)) (D, capsL rs n y rs.length)
  | 0, i, h => by
    obtain rfl : i = rs.length := by omega
    refine Ev.step (f := fun _ => some (D, capsL rs n y rs.length)) (fun k => ?_) (Ev.now _)
    rw [pianolalaw04_course.l1, if_neg (by omega)]
  | m + 1, i, h => by
    have ih := course_l1 hP hn hy D m (i + 1) (by omega)
    have h3 := hP.r3
    have hyl := hy.1
    obtain ⟨hb, h5⟩ := bds_of (hP.r (rs[i]'(by omega)) (List.getElem_mem _))
    have ew : wrap64 (wrap64 (2 * (i : Int)) + 1) = ((2 * i + 1 : Nat) : Int) := by unfold wrap64; omega
    have clen : (capsL rs n y i).length = i := by simp [capsL]
    rw [capsL_succ, getD_at (by omega)] at ih
    refine Ev.step (f := fun k => (pianolalaw04_capacity.f k (rs[i]'(by omega)) n (byC y i)).bind fun t => pianolalaw04_course.l1 k n y rs rs.length ((i + 1 : Nat) : Int) D (capsL rs n y i ++ [t])) (fun k => ?_) (Ev.bind (capacity_f hb (by omega) hn _ (bytes_byC hy i)) ih)
    rw [pianolalaw04_course.l1, if_pos (by omega), if_pos (by omega), if_pos (by omega), ew, rd_L4_nat (by omega), wrapN (by omega)]
    unfold byC
    by_cases c : 2 * i + 1 < y.length
    · rw [if_pos (by omega), if_pos (by omega), if_pos (by omega), if_pos c, Int.toNat_natCast]
      congr 1
      funext t
      rw [if_pos (by omega)]
    · rw [if_neg (by omega), if_neg c]
      congr 1
      funext t
      rw [if_pos (by omega)]
theorem course_l0 {ps rs : List (List S71)} (hP : Plant ps rs) {n : Nat} (hn : n ≤ 1000) {y : List Int} (hy : Bytes y) : ∀ (m i : Nat), i + m = ps.length →
    Ev (fun k => pianolalaw04_course.l0 k n y ps ps.length i ps rs (demsL ps n y i)) (demsL ps n y ps.length, capsL rs n y rs.length)
  | 0, i, h => by
    obtain rfl : i = ps.length := by omega
    refine Ev.step (fun k => ?_) (course_l1 hP hn hy (demsL ps n y ps.length) rs.length 0 (by omega))
    rw [pianolalaw04_course.l0, if_neg (by omega)]
    rfl
  | m + 1, i, h => by
    have ih := course_l0 hP hn hy m (i + 1) (by omega)
    have h3 := hP.p3
    have hyl := hy.1
    obtain ⟨hb, h5⟩ := bds_of (hP.p (ps[i]'(by omega)) (List.getElem_mem _))
    have clen : (demsL ps n y i).length = i := by simp [demsL]
    rw [demsL_succ, getD_at (by omega)] at ih
    refine Ev.step (f := fun k => (pianolalaw04_demand.f k (ps[i]'(by omega)) n (byD y i)).bind fun t => pianolalaw04_course.l0 k n y ps ps.length ((i + 1 : Nat) : Int) ps rs (demsL ps n y i ++ [t])) (fun k => ?_) (Ev.bind (demand_f hb (by omega) hn _ (bytes_byD hy i)) ih)
    rw [pianolalaw04_course.l0, if_pos (by omega), if_pos (by omega), if_pos (by omega), rd_L4_nat (by omega), wrapN (by omega)]
    unfold byD
    by_cases c : i < y.length
    · rw [if_pos (by omega), if_pos (by omega), if_pos c, Int.toNat_natCast]
      congr 1
      funext t
      rw [if_pos (by omega)]
    · rw [if_neg (by omega), if_neg c]
      congr 1
      funext t
      rw [if_pos (by omega)]
theorem course_f {ps rs : List (List S71)} (hP : Plant ps rs) {n : Nat} (hn : n ≤ 1000) {y : List Int} (hy : Bytes y) : Ev (fun k => pianolalaw04_course.f k ps rs n y) (demsL ps n y ps.length, capsL rs n y rs.length) :=
  course_l0 hP hn hy ps.length 0 (by omega)
end Go.Proofs.Ythoeindopljmkaa.P
end
section
namespace Go.Proofs.Ythoeindopljmkaa.P
open Go.RowKit Go.Proofs.YthoeindopljmkaaW.PrintWords Go.Proofs.YthoeindopljmkaaW.PrintLast Go.Proofs.YthoeindopljmkaaW.PrintMore
set_option linter.unusedSimpArgs false
open Pm
theorem rd_L6_nat {l : List (List Int)} {i : Nat} (h : i < l.length) : rd_L6 l i = l[i] := by
  unfold rd_L6; rw [List.getD_eq_getElem?_getD, Int.toNat_natCast, List.getElem?_eq_getElem h]; rfl
def lateB (ps : List (List S71)) (C : List S71) (k m : Nat) : Bool := decide (lst (bs C) (m + k - 1) < demFs ps m)
section
variable {ps : List (List S71)} {C : List S71} (hP : Plant ps [C]) (hF : ∀ x ∈ ps, ∀ b ∈ bs x, b.2 ≤ 1000) {n k : Nat} (hn : n ≤ 9) (hk0 : 0 < k) (hk : k ≤ 201)
include hP hF hn hk0 hk
theorem waits_l1 (late : Bool) {m : Nat} (hm1 : 1 ≤ m) (hm : m ≤ n) (r : Bool) : ∀ (q i : Nat), i + q = ps.length →
  Ev (fun f => pianolalaw04_PumpWaits.l0 f n k (late || lateB ps C k m) ((m + 1 : Nat) : Int) ps [C]) r →
  Ev (fun f => pianolalaw04_PumpWaits.l1 f n k late m (demFs (ps.take i) m) (demsL ps m [] ps.length) ps.length i ps [C]) r
 | 0, i, h, hr => by
  obtain rfl : i = ps.length := by omega
  obtain ⟨hb, h5⟩ := bds_of (hP.r C (by simp))
  rw [List.take_length]
  cases late
  ·
   have hc := capacity_f hb (by omega) (show m + k - 1 ≤ 1000 by omega) [] bytes_nil
   have hs := sumsM_f (mild_cap hb (by omega) [] bytes_nil (n := m + k - 1) (by omega)) (s := 0) (d := m + k - 1) (by omega) (by omega)
   have ew : wrap64 (wrap64 ((m : Int) + k) - 1) = ((m + k - 1 : Nat) : Int) := by unfold wrap64; omega
   have hd : decide (lst (bs C) (m + k - 1) < demFs ps m) = lateB ps C k m := rfl
   have e0 : preS (capL (bs C) (Wc []) (m + k - 1)) (0 + (m + k - 1)) - preS (capL (bs C) (Wc []) (m + k - 1)) 0 = lst (bs C) (m + k - 1) := by
    rw [Nat.zero_add, Wc_nil, capL_full hb]
    exact Int.sub_zero _
   rw [e0] at hs
   rw [Bool.false_or] at hr
   refine Ev.step (f := fun f => (pianolalaw04_capacity.f f C ((m + k - 1 : Nat) : Int) []).bind fun t => (pianolalaw04_sums.f f t ((0 : Nat) : Int) ((m + k - 1 : Nat) : Int)).bind fun s => pianolalaw04_PumpWaits.l0 f n k (decide (s < demFs ps m)) ((m + 1 : Nat) : Int) ps [C]) (fun f => ?_) (Ev.bind hc (Ev.bind hs ?_))
   ·
    rw [pianolalaw04_PumpWaits.l1, if_neg (by omega), if_neg (by simp), if_pos (by simp), ew, wrapN (by omega)]
    rfl
   ·
    rw [hd]
    exact hr
  ·
   refine Ev.step (fun f => ?_) hr
   rw [pianolalaw04_PumpWaits.l1, if_neg (by omega), if_pos rfl, wrapN (by omega)]
   rfl
 | q + 1, i, h, hr => by
  have ih := waits_l1 late hm1 hm r q (i + 1) (by omega) hr
  have hp3 := hP.p3
  have hi : i < ps.length := by omega
  obtain ⟨hb, h5⟩ := bds_of (hP.p ps[i] (List.getElem_mem _))
  have dl : (demsL ps m [] ps.length).length = ps.length := by simp [demsL]
  have de : rd_L6 (demsL ps m [] ps.length) (i : Int) = demL (bs ps[i]) (Wd []) m := by
   rw [rd_L6_nat (by omega)]
   unfold demsL
   rw [List.getElem_map, List.getElem_range, getD_at hi]
   rfl
  have hs := sumsM_f (mild_dem hb (by omega) [] bytes_nil (n := m) (by omega)) (s := 0) (d := m) (by omega) (by omega)
  have e0 : preS (demL (bs ps[i]) (Wd []) m) (0 + m) - preS (demL (bs ps[i]) (Wd []) m) 0 = mst (bs ps[i]) m := by
   rw [Nat.zero_add, Wd_nil, demL_full hb (fun _ b hb' => hF _ (List.getElem_mem _) b hb')]
   exact Int.sub_zero _
  rw [e0] at hs
  have b1 := demFs_bd (ps := ps.take i) (fun x hx => hP.p x (List.mem_of_mem_take hx)) m
  have b2 := mst_nonneg hb m
  have b3 := mst_bd hb m
  have b4 : (List.take i ps).length ≤ 3 := by rw [List.length_take]; omega
  have b5 : 1000000 * (m : Int) * ((ps.take i).length : Int) ≤ 1000000 * (m : Int) * 3 := Int.mul_le_mul_of_nonneg_left (by omega) (by omega)
  have es : demFs (ps.take (i + 1)) m = demFs (ps.take i) m + mst (bs ps[i]) m := by rw [List.take_succ_eq_append_getElem hi, demFs_snoc]
  rw [es] at ih
  refine Ev.step (f := fun f => (pianolalaw04_sums.f f (demL (bs ps[i]) (Wd []) m) ((0 : Nat) : Int) (m : Int)).bind fun t => pianolalaw04_PumpWaits.l1 f n k late m (wrap64 (demFs (ps.take i) m + t)) (demsL ps m [] ps.length) ps.length ((i + 1 : Nat) : Int) ps [C]) (fun f => ?_) (Ev.bind hs ?_)
  ·
   rw [pianolalaw04_PumpWaits.l1, if_pos (by omega), if_pos (by omega), if_pos (by omega), de, wrapN (by omega)]
   rfl
  ·
   rw [show wrap64 (demFs (ps.take i) m + mst (bs ps[i]) m) = demFs (ps.take i) m + mst (bs ps[i]) m by unfold wrap64; omega]
   exact ih
def someLate (ps : List (List S71)) (C : List S71) (k : Nat) : Nat → Nat → Bool
  | _, 0 => false
  | m, q + 1 => lateB ps C k m || someLate ps C k (m + 1) q
theorem waits_l0 : ∀ (q m : Nat), 1 ≤ m → m + q = n + 1 → ∀ late : Bool, (late || someLate ps C k m q) = true → Ev (fun f => pianolalaw04_PumpWaits.l0 f n k late m ps [C]) true
  | 0, m, h1, h, late, hl => by
    have e : late = true := by simpa [someLate] using hl
    subst e
    refine Ev.step (f := fun _ => some true) (fun f => ?_) (Ev.now _)
    rw [pianolalaw04_PumpWaits.l0, if_neg (by omega), if_pos rfl]
    rfl
  | q + 1, m, h1, h, late, hl => by
    have ih := waits_l0 q (m + 1) (by omega) (by omega) (late || lateB ps C k m) (by rw [Bool.or_assoc]; exact hl)
    have hc := course_f hP (show m ≤ 1000 by omega) bytes_nil
    have step := waits_l1 hP hF hn hk0 hk late h1 (by omega) true ps.length 0 (by omega) ih
    have dl : (demsL ps m [] ps.length).length = ps.length := by simp [demsL]
    have z : demFs (ps.take 0) m = 0 := rfl
    rw [z] at step
    refine Ev.step (f := fun f => (pianolalaw04_course.f f ps [C] m []).bind fun bt => pianolalaw04_PumpWaits.l1 f n k late m 0 bt.1 (bt.1.length : Int) 0 ps [C]) (fun f => ?_) (Ev.bind hc ?_)
    · rw [pianolalaw04_PumpWaits.l0, if_pos (by omega)]
    · rw [dl]
      exact step
end
theorem someLate_of {ps : List (List S71)} {C : List S71} {k : Nat} : ∀ (q m j : Nat), m ≤ j → j < m + q → lateB ps C k j = true → someLate ps C k m q = true
  | 0, m, j, h1, h2, _ => by omega
  | q + 1, m, j, h1, h2, h => by
    unfold someLate
    by_cases e : m = j
    · subst e; rw [h]; rfl
    · rw [someLate_of q (m + 1) j (by omega) (by omega) h, Bool.or_true]
theorem few_small {L : List S71} (h : Few L) : ∀ b ∈ bs L, b.2 ≤ 1000 := by
  intro b hb
  obtain ⟨x, hx, rfl⟩ := List.mem_map.1 hb
  have := h.small x hx
  show x.f1 ≤ 1000
  omega
theorem waits_ev {a b c d : List S86} (ha : U8s a) (hb : U8s b) (hc : U8s c) (hd : U8s d) (t u : Bool) (x : Int) (hx : 0 ≤ x ∧ x < 256) : Ev (fun k => pianolalaw04_PumpWaits.f k a b c d t u x) true := by
  obtain ⟨A, B, C, D, fA, fB, fC, fD, he⟩ := engine_f ha hb hc hd
  obtain ⟨n, hn, hn10⟩ := rem_in x 10 hx.1 hx.2 (by omega)
  unfold pianolalaw04_PumpWaits.f
  refine Ev.bind (he t false) ?_
  rw [hn]
  have hP := pick_plant (t := t) (u := false) fA fB fC fD
  have e2 : pick1 false C D = [C] := rfl
  rw [e2] at hP ⊢
  have hF : ∀ x ∈ pick1 t A B, ∀ b ∈ bs x, b.2 ≤ 1000 := fun x hx => by
    rcases pick_mem hx with rfl | rfl
    · exact few_small fA
    · exact few_small fB
  have z : pln (pick1 t A B) [C] n = 0 := pln_zero.2 ⟨hP, by omega, by omega⟩
  refine Ev.bind (Delay_f _ _ _) ?_
  rw [dly_pos z, Int.toNat_natCast]
  have key : ∀ k : Nat, 0 < k → k ≤ 201 → ¬ okD (demFs (pick1 t A B)) (rowFs [C]) (n + 1) (k - 1) → Ev (fun f => pianolalaw04_PumpWaits.j0 f n k (pick1 t A B) [C]) true := fun k hk0 hk hno => by
    have h1 : ∃ m, m < n + 1 ∧ lst (bs C) (m + (k - 1)) < demFs (pick1 t A B) m := by
      refine Classical.byContradiction fun hh => hno fun m hm => ?_
      refine Classical.byContradiction fun hh2 => hh ⟨m, hm, ?_⟩
      have : rowFs [C] (m + (k - 1)) = lst (bs C) (m + (k - 1)) := rfl
      omega
    obtain ⟨m, hm, hlt⟩ := h1
    have m1 : 1 ≤ m := by
      refine Classical.byContradiction fun hh => ?_
      obtain rfl : m = 0 := by omega
      have z0 : demFs (pick1 t A B) 0 = 0 := (demFs_line hP.p).1
      have := lst_nonneg (bds_of (hP.r C (by simp))).1 (0 + (k - 1))
      omega
    have hl : someLate (pick1 t A B) C k 1 n = true := someLate_of n 1 m m1 (by omega) (by
      unfold lateB
      rw [show m + k - 1 = m + (k - 1) by omega]
      exact decide_eq_true hlt)
    have := waits_l0 hP hF (show n ≤ 9 by omega) hk0 hk n 1 (Nat.le_refl _) (by omega) false (by rw [Bool.false_or]; exact hl)
    refine Ev.step (fun f => ?_) this
    rw [pianolalaw04_PumpWaits.j0, if_neg (by omega)]
    rfl
  cases hdl : delayF (demFs (pick1 t A B)) (rowFs [C]) (n + 1) lateN 0 with
  | none =>
    have := delayF_none _ _ hdl
    have l0 := lateN_eq
    rw [show dlyR none = (0, 11) from rfl]
    simp only [if_true]
    exact key 201 (by omega) (by omega) (this 200 (by omega) (by omega))
  | some j =>
    obtain ⟨_, j1, j2, j3⟩ := delayF_some _ _ _ hdl
    have l0 := lateN_eq
    rw [show dlyR (some j) = ((j : Int), 0) from rfl]
    dsimp only
    have c1 : ¬ (0 : Int) = 11 := by omega
    have c2 : ¬ (j : Int) < 0 := by omega
    have c3 : ¬ (j : Int) > 200 := by omega
    simp only [if_neg c1, if_true, if_neg c2, if_neg c3]
    by_cases c : j = 0
    · subst c
      refine Ev.step (f := fun _ => some true) (fun f => ?_) (Ev.now _)
      rw [pianolalaw04_PumpWaits.j0, if_pos (by omega)]
      rfl
    · exact key j (by omega) (by omega) (j3 (j - 1) (Nat.zero_le _) (by omega))
end Go.Proofs.Ythoeindopljmkaa.P
namespace Go.Proofs.Ythoeindopljmkaa.Pure
open P Go.Proofs.YthoeindopljmkaaW.PrintWords
theorem PumpWaits (a b c d : List S86) (t u : Bool) (x : Int) (ha : U8f a) (hb : U8f b) (hc : U8f c) (hd : U8f d) (hx : (Lit.int .u8 x).wf = true) : ∃ k, pianolalaw04_PumpWaits.f k a b c d t u x = some true :=
  (waits_ev (u8s_of ha) (u8s_of hb) (u8s_of hc) (u8s_of hd) t u x (u8_wf hx)).rounds
end Go.Proofs.Ythoeindopljmkaa.Pure
end
