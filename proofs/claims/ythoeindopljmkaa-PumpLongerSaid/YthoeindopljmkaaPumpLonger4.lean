/- Words and contracts for a claim. -/
import Derived.Test.YthoeindopljmkaaPumpLonger3
import Derived.Lib.SliceRun
section
namespace Go.Proofs.Ythoeindopljmkaa.P
open Go.RowKit Go.Proofs.YthoeindopljmkaaW.PrintWords Go.Proofs.YthoeindopljmkaaW.PrintLast Go.Proofs.YthoeindopljmkaaW.PrintMore
set_option linter.unusedVariables false
set_option linter.unusedSimpArgs false
theorem btw_iff {a b c : Int} : btw a b c = true ↔ a ≤ b ∧ b ≤ c := by simp [btw]
end Go.Proofs.Ythoeindopljmkaa.P
end
section
namespace Go.Proofs.Ythoeindopljmkaa.P
open Go.RowKit Go.Proofs.YthoeindopljmkaaW.PrintWords Go.Proofs.YthoeindopljmkaaW.PrintLast Go.Proofs.YthoeindopljmkaaW.PrintMore
attribute [local go_sem] max2_int min2_int max_two min_two max_three min_three max_four min_four
set_option linter.unusedVariables false
set_option linter.unusedSimpArgs false
def pianolalaw04_PumpLonger.j0 : Nat → List (S71) → Int → Int → Bool → Option (Bool)
  | 0, _, _, _, _ => none
  | k + 1, x5, x6, x7, x67 => if x67 = true then (some false) else ((pump_Least.f x5 x6).bind fun bt608 => ((pump_Least.f x5 x7).bind fun bt610 => ((pump_Least.f x5 (wrap64 (x6 + x7))).bind fun bt612 => (if bt608.2 = 0 then (if bt610.2 = 0 then (if bt612.2 = 0 then (if bt612.1 ≥ (wrap64 (bt608.1 + bt610.1)) then ((pianolalaw04_works.f).bind fun t614 => (some t614)) else (some false)) else (some false)) else (some false)) else (some false)))))
def pianolalaw04_PumpLonger.f (k : Nat) (l0 : List (S86)) (a1_0 : Int) (a1_1 : Int) : Option (Bool) := (pianolalaw04_Set_made.f k l0).bind fun t599 => ((pump_Most.f t599 (Int.tmod (wrap64 (a1_0)) 100)).bind fun bt602 => ((pump_Most.f t599 (Int.tmod (wrap64 (a1_1)) 100)).bind fun bt604 => ((pump_Most.f t599 (wrap64 ((Int.tmod (wrap64 (a1_0)) 100) + (Int.tmod (wrap64 (a1_1)) 100)))).bind fun bt606 => (if bt602.2 = 0 then (if bt604.2 = 0 then (if bt606.2 = 0 then (if bt606.1 > (wrap64 (bt602.1 + bt604.1)) then (pianolalaw04_PumpLonger.j0 k t599 (Int.tmod (wrap64 (a1_0)) 100) (Int.tmod (wrap64 (a1_1)) 100) true) else (pianolalaw04_PumpLonger.j0 k t599 (Int.tmod (wrap64 (a1_0)) 100) (Int.tmod (wrap64 (a1_1)) 100) (decide (bt606.1 < (mx bt602.1 bt604.1))))) else (pianolalaw04_PumpLonger.j0 k t599 (Int.tmod (wrap64 (a1_0)) 100) (Int.tmod (wrap64 (a1_1)) 100) true)) else (pianolalaw04_PumpLonger.j0 k t599 (Int.tmod (wrap64 (a1_0)) 100) (Int.tmod (wrap64 (a1_1)) 100) true)) else (pianolalaw04_PumpLonger.j0 k t599 (Int.tmod (wrap64 (a1_0)) 100) (Int.tmod (wrap64 (a1_1)) 100) true)))))
set_option maxHeartbeats 8000000 in
set_option maxRecDepth 100000 in
theorem pianolalaw04_PumpLonger.calls (k : Nat) (A0 : Option Addr) (c0 : Nat) (l0 : List (S86)) (a1_0 : Int) (a1_1 : Int) (r : Bool) (w : World) (hr0 : Kd.C k86 w A0 l0.length l0) (hc0 : l0.length ≤ c0) (h : pianolalaw04_PumpLonger.f k l0 a1_0 a1_1 = some r) :
  Calls Try.prog 11 #[.slice A0 l0.length c0, .agg #[.int .u8 a1_0, .int .u8 a1_1]] w fun e w' => e = .returned (.bool r) ∧ Below w.heap.size w w' := by
 have hu86 := Try.underlying86
 have HR0 := Aside0.mk hr0
 have HC0 := Aside0.mk hc0
 clear hr0 hc0
 have HB := Aside0.mk (Below.refl w.heap.size w)
 have H : ((pianolalaw04_Set_made.f k l0).bind fun t599 => ((pump_Most.f t599 (Int.tmod (wrap64 (a1_0)) 100)).bind fun bt602 => ((pump_Most.f t599 (Int.tmod (wrap64 (a1_1)) 100)).bind fun bt604 => ((pump_Most.f t599 (wrap64 ((Int.tmod (wrap64 (a1_0)) 100) + (Int.tmod (wrap64 (a1_1)) 100)))).bind fun bt606 => (if bt602.2 = 0 then (if bt604.2 = 0 then (if bt606.2 = 0 then (if bt606.1 > (wrap64 (bt602.1 + bt604.1)) then (pianolalaw04_PumpLonger.j0 k t599 (Int.tmod (wrap64 (a1_0)) 100) (Int.tmod (wrap64 (a1_1)) 100) true) else (pianolalaw04_PumpLonger.j0 k t599 (Int.tmod (wrap64 (a1_0)) 100) (Int.tmod (wrap64 (a1_1)) 100) (decide (bt606.1 < (mx bt602.1 bt604.1))))) else (pianolalaw04_PumpLonger.j0 k t599 (Int.tmod (wrap64 (a1_0)) 100) (Int.tmod (wrap64 (a1_1)) 100) true)) else (pianolalaw04_PumpLonger.j0 k t599 (Int.tmod (wrap64 (a1_0)) 100) (Int.tmod (wrap64 (a1_1)) 100) true)) else (pianolalaw04_PumpLonger.j0 k t599 (Int.tmod (wrap64 (a1_0)) 100) (Int.tmod (wrap64 (a1_1)) 100) true)))))) = some r := h
 clear h
 replace H := Option.bind_eq_some_iff.mp H
 obtain ⟨t599, A30, H⟩ := H
 replace H : ((pump_Most.f t599 (Int.tmod (wrap64 (a1_0)) 100)).bind fun bt602 => ((pump_Most.f t599 (Int.tmod (wrap64 (a1_1)) 100)).bind fun bt604 => ((pump_Most.f t599 (wrap64 ((Int.tmod (wrap64 (a1_0)) 100) + (Int.tmod (wrap64 (a1_1)) 100)))).bind fun bt606 => (if bt602.2 = 0 then (if bt604.2 = 0 then (if bt606.2 = 0 then (if bt606.1 > (wrap64 (bt602.1 + bt604.1)) then (pianolalaw04_PumpLonger.j0 k t599 (Int.tmod (wrap64 (a1_0)) 100) (Int.tmod (wrap64 (a1_1)) 100) true) else (pianolalaw04_PumpLonger.j0 k t599 (Int.tmod (wrap64 (a1_0)) 100) (Int.tmod (wrap64 (a1_1)) 100) (decide (bt606.1 < (mx bt602.1 bt604.1))))) else (pianolalaw04_PumpLonger.j0 k t599 (Int.tmod (wrap64 (a1_0)) 100) (Int.tmod (wrap64 (a1_1)) 100) true)) else (pianolalaw04_PumpLonger.j0 k t599 (Int.tmod (wrap64 (a1_0)) 100) (Int.tmod (wrap64 (a1_1)) 100) true)) else (pianolalaw04_PumpLonger.j0 k t599 (Int.tmod (wrap64 (a1_0)) 100) (Int.tmod (wrap64 (a1_1)) 100) true))))) = some r := H
 have A3 := Aside0.mk A30
 clear A30
 replace H := Option.bind_eq_some_iff.mp H
 obtain ⟨⟨t602, t603⟩, A40, H⟩ := H
 replace H : ((pump_Most.f t599 (Int.tmod (wrap64 (a1_1)) 100)).bind fun bt604 => ((pump_Most.f t599 (wrap64 ((Int.tmod (wrap64 (a1_0)) 100) + (Int.tmod (wrap64 (a1_1)) 100)))).bind fun bt606 => (if t603 = 0 then (if bt604.2 = 0 then (if bt606.2 = 0 then (if bt606.1 > (wrap64 (t602 + bt604.1)) then (pianolalaw04_PumpLonger.j0 k t599 (Int.tmod (wrap64 (a1_0)) 100) (Int.tmod (wrap64 (a1_1)) 100) true) else (pianolalaw04_PumpLonger.j0 k t599 (Int.tmod (wrap64 (a1_0)) 100) (Int.tmod (wrap64 (a1_1)) 100) (decide (bt606.1 < (mx t602 bt604.1))))) else (pianolalaw04_PumpLonger.j0 k t599 (Int.tmod (wrap64 (a1_0)) 100) (Int.tmod (wrap64 (a1_1)) 100) true)) else (pianolalaw04_PumpLonger.j0 k t599 (Int.tmod (wrap64 (a1_0)) 100) (Int.tmod (wrap64 (a1_1)) 100) true)) else (pianolalaw04_PumpLonger.j0 k t599 (Int.tmod (wrap64 (a1_0)) 100) (Int.tmod (wrap64 (a1_1)) 100) true)))) = some r := H
 have A4 := Aside0.mk A40
 clear A40
 replace H := Option.bind_eq_some_iff.mp H
 obtain ⟨⟨t604, t605⟩, A50, H⟩ := H
 replace H : ((pump_Most.f t599 (wrap64 ((Int.tmod (wrap64 (a1_0)) 100) + (Int.tmod (wrap64 (a1_1)) 100)))).bind fun bt606 => (if t603 = 0 then (if t605 = 0 then (if bt606.2 = 0 then (if bt606.1 > (wrap64 (t602 + t604)) then (pianolalaw04_PumpLonger.j0 k t599 (Int.tmod (wrap64 (a1_0)) 100) (Int.tmod (wrap64 (a1_1)) 100) true) else (pianolalaw04_PumpLonger.j0 k t599 (Int.tmod (wrap64 (a1_0)) 100) (Int.tmod (wrap64 (a1_1)) 100) (decide (bt606.1 < (mx t602 t604))))) else (pianolalaw04_PumpLonger.j0 k t599 (Int.tmod (wrap64 (a1_0)) 100) (Int.tmod (wrap64 (a1_1)) 100) true)) else (pianolalaw04_PumpLonger.j0 k t599 (Int.tmod (wrap64 (a1_0)) 100) (Int.tmod (wrap64 (a1_1)) 100) true)) else (pianolalaw04_PumpLonger.j0 k t599 (Int.tmod (wrap64 (a1_0)) 100) (Int.tmod (wrap64 (a1_1)) 100) true))) = some r := H
 have A5 := Aside0.mk A50
 clear A50
 replace H := Option.bind_eq_some_iff.mp H
 obtain ⟨⟨t606, t607⟩, A60, H⟩ := H
 replace H : (if t603 = 0 then (if t605 = 0 then (if t607 = 0 then (if t606 > (wrap64 (t602 + t604)) then (pianolalaw04_PumpLonger.j0 k t599 (Int.tmod (wrap64 (a1_0)) 100) (Int.tmod (wrap64 (a1_1)) 100) true) else (pianolalaw04_PumpLonger.j0 k t599 (Int.tmod (wrap64 (a1_0)) 100) (Int.tmod (wrap64 (a1_1)) 100) (decide (t606 < (mx t602 t604))))) else (pianolalaw04_PumpLonger.j0 k t599 (Int.tmod (wrap64 (a1_0)) 100) (Int.tmod (wrap64 (a1_1)) 100) true)) else (pianolalaw04_PumpLonger.j0 k t599 (Int.tmod (wrap64 (a1_0)) 100) (Int.tmod (wrap64 (a1_1)) 100) true)) else (pianolalaw04_PumpLonger.j0 k t599 (Int.tmod (wrap64 (a1_0)) 100) (Int.tmod (wrap64 (a1_1)) 100) true)) = some r := H
 have A6 := Aside0.mk A60
 clear A60
 have HC7 := Aside0.mk H
 clear H
 go_enter Try.func11, Try.ntmps11
 go_upto_region 6 with (first | ((with_reducible refine gate_dst (N := 3) rfl ?_); (try (refine gate_guard (by rfl) ?_; dsimp only)); refine box_event ?hg (N := 3) ?hd (cs := #[.int .u8 a1_0, .int .u8 a1_1]) (t := 86) ?hr ?_; (case hd => rfl); (case hg => rfl); (case hr => first | (go_simp; done) | (go_simp; rfl)); intro gb598 hg w8 hbox hb; have n0_ := Aside0.mk (below_step (zqA HB.out) hb); have n1_ := Aside0.mk (hbox); have n2_ := Aside0.mk ((by rw [hg]; exact (below_size (zqA HB.out)) : w.heap.size ≤ gb598)); have n3_ := Aside0.mk ((by rw [hg]; exact (below_size (zqA HB.out)) : w.heap.size ≤ gb598)); clear HB; have HB := n0_; have BK598 := n1_; have GW598 := n2_; have GE598 := n3_; clear n0_ n1_ n2_ n3_; clear hb hbox hg) | (go_at_call 40; (with_reducible refine (pianolalaw04_Set_made.calls k _ _ l0 t599 _ ?side1 ?side2 A3.out).mono ?_); (case side1 => repeat (first | exact (Kd.C_below HR0.out HB.out) | (with_reducible refine Kd.C_alloc ?_ _) | (with_reducible refine Kd.C_drewN ?_ _) | (with_reducible refine Kd.C_drew ?_))); (case side2 => exact HC0.out); rintro e w9 ⟨v600, rfl, ho0, hb⟩; have n0_ := Aside0.mk (Kd.R_lower ho0 (below_size (zqG HB.out GE598.out))); have n1_ := Aside0.mk (blk_below (g := gb598) (o := .cells #[.int .u8 a1_0, .int .u8 a1_1] 86 (0, 0)) (zqB BK598.out) hb); have n2_ := Aside0.mk (below_step (zqG HB.out GE598.out) hb); clear BK598; clear HB; have HO601 := n0_; have BK598 := n1_; have HB := n2_; clear n0_ n1_ n2_; (try clear hb); (try clear hb2); (try clear hk); (try clear hi); (try clear ho0); have hcz10_0 : w9.cell? ⟨gb598, 0, none⟩ = some (.int .u8 a1_0) := (blk_cell BK598.out 0).trans rfl; have hcz10_1 : w9.cell? ⟨gb598, 1, none⟩ = some (.int .u8 a1_1) := (blk_cell BK598.out 1).trans rfl; have hfz10_0 := blk_frozen BK598.out 0; have hfz10_1 := blk_frozen BK598.out 1; obtain ⟨Ao11, co11, eo11⟩ := Kd.R_slice HO601.out; subst eo11) | (go_at_call 17; (with_reducible refine (pump_Most.calls _ _ t599 (Int.tmod (wrap64 (a1_0)) 100) t602 t603 _ ?side1 ?side2 A4.out).mono ?_); (case side1 => repeat (first | exact (Kd.R_reads' HO601.out).2.2 | (with_reducible refine Kd.C_alloc ?_ _) | (with_reducible refine Kd.C_drewN ?_ _) | (with_reducible refine Kd.C_drew ?_))); (case side2 => exact (Kd.R_reads' HO601.out).2.1); rintro e w12 ⟨rfl, hb⟩; have n0_ := Aside0.mk (Kd.R_below (zqC HO601.out) hb); have n1_ := Aside0.mk (blk_below (g := gb598) (o := .cells #[.int .u8 a1_0, .int .u8 a1_1] 86 (0, 0)) (zqB BK598.out) hb); have n2_ := Aside0.mk (below_step (zqG HB.out GE598.out) hb); clear HO601; clear BK598; clear HB; have HO601 := n0_; have BK598 := n1_; have HB := n2_; clear n0_ n1_ n2_; (try clear hb); (try clear hb2); (try clear hk); (try clear hi)) | (go_at_call 17; (with_reducible refine (pump_Most.calls _ _ t599 (Int.tmod (wrap64 (a1_1)) 100) t604 t605 _ ?side1 ?side2 A5.out).mono ?_); (case side1 => repeat (first | exact (Kd.R_reads' HO601.out).2.2 | (with_reducible refine Kd.C_alloc ?_ _) | (with_reducible refine Kd.C_drewN ?_ _) | (with_reducible refine Kd.C_drew ?_))); (case side2 => exact (Kd.R_reads' HO601.out).2.1); rintro e w13 ⟨rfl, hb⟩; have n0_ := Aside0.mk (Kd.R_below (zqC HO601.out) hb); have n1_ := Aside0.mk (blk_below (g := gb598) (o := .cells #[.int .u8 a1_0, .int .u8 a1_1] 86 (0, 0)) (zqB BK598.out) hb); have n2_ := Aside0.mk (below_step (zqG HB.out GE598.out) hb); clear HO601; clear BK598; clear HB; have HO601 := n0_; have BK598 := n1_; have HB := n2_; clear n0_ n1_ n2_; (try clear hb); (try clear hb2); (try clear hk); (try clear hi)) | (go_at_call 17; (with_reducible refine (pump_Most.calls _ _ t599 (wrap64 ((Int.tmod (wrap64 (a1_0)) 100) + (Int.tmod (wrap64 (a1_1)) 100))) t606 t607 _ ?side1 ?side2 A6.out).mono ?_); (case side1 => repeat (first | exact (Kd.R_reads' HO601.out).2.2 | (with_reducible refine Kd.C_alloc ?_ _) | (with_reducible refine Kd.C_drewN ?_ _) | (with_reducible refine Kd.C_drew ?_))); (case side2 => exact (Kd.R_reads' HO601.out).2.1); rintro e w14 ⟨rfl, hb⟩; have n0_ := Aside0.mk (Kd.R_below (zqC HO601.out) hb); have n1_ := Aside0.mk (blk_below (g := gb598) (o := .cells #[.int .u8 a1_0, .int .u8 a1_1] 86 (0, 0)) (zqB BK598.out) hb); have n2_ := Aside0.mk (below_step (zqG HB.out GE598.out) hb); clear HO601; clear BK598; clear HB; have HO601 := n0_; have BK598 := n1_; have HB := n2_; clear n0_ n1_ n2_; (try clear hb); (try clear hb2); (try clear hk); (try clear hi)))
 repeat (go_quiet (first | ((with_reducible refine gate_dst (N := 3) rfl ?_); (try (refine gate_guard (by rfl) ?_; dsimp only)); refine box_event ?hg (N := 3) ?hd (cs := #[.int .u8 a1_0, .int .u8 a1_1]) (t := 86) ?hr ?_; (case hd => rfl); (case hg => rfl); (case hr => first | (go_simp; done) | (go_simp; rfl)); intro gb598 hg w8 hbox hb; have n0_ := Aside0.mk (below_step (zqA HB.out) hb); have n1_ := Aside0.mk (hbox); have n2_ := Aside0.mk ((by rw [hg]; exact (below_size (zqA HB.out)) : w.heap.size ≤ gb598)); have n3_ := Aside0.mk ((by rw [hg]; exact (below_size (zqA HB.out)) : w.heap.size ≤ gb598)); clear HB; have HB := n0_; have BK598 := n1_; have GW598 := n2_; have GE598 := n3_; clear n0_ n1_ n2_ n3_; clear hb hbox hg) | (go_at_call 40; (with_reducible refine (pianolalaw04_Set_made.calls k _ _ l0 t599 _ ?side1 ?side2 A3.out).mono ?_); (case side1 => repeat (first | exact (Kd.C_below HR0.out HB.out) | (with_reducible refine Kd.C_alloc ?_ _) | (with_reducible refine Kd.C_drewN ?_ _) | (with_reducible refine Kd.C_drew ?_))); (case side2 => exact HC0.out); rintro e w9 ⟨v600, rfl, ho0, hb⟩; have n0_ := Aside0.mk (Kd.R_lower ho0 (below_size (zqG HB.out GE598.out))); have n1_ := Aside0.mk (blk_below (g := gb598) (o := .cells #[.int .u8 a1_0, .int .u8 a1_1] 86 (0, 0)) (zqB BK598.out) hb); have n2_ := Aside0.mk (below_step (zqG HB.out GE598.out) hb); clear BK598; clear HB; have HO601 := n0_; have BK598 := n1_; have HB := n2_; clear n0_ n1_ n2_; (try clear hb); (try clear hb2); (try clear hk); (try clear hi); (try clear ho0); have hcz10_0 : w9.cell? ⟨gb598, 0, none⟩ = some (.int .u8 a1_0) := (blk_cell BK598.out 0).trans rfl; have hcz10_1 : w9.cell? ⟨gb598, 1, none⟩ = some (.int .u8 a1_1) := (blk_cell BK598.out 1).trans rfl; have hfz10_0 := blk_frozen BK598.out 0; have hfz10_1 := blk_frozen BK598.out 1; obtain ⟨Ao11, co11, eo11⟩ := Kd.R_slice HO601.out; subst eo11) | (go_at_call 17; (with_reducible refine (pump_Most.calls _ _ t599 (Int.tmod (wrap64 (a1_0)) 100) t602 t603 _ ?side1 ?side2 A4.out).mono ?_); (case side1 => repeat (first | exact (Kd.R_reads' HO601.out).2.2 | (with_reducible refine Kd.C_alloc ?_ _) | (with_reducible refine Kd.C_drewN ?_ _) | (with_reducible refine Kd.C_drew ?_))); (case side2 => exact (Kd.R_reads' HO601.out).2.1); rintro e w12 ⟨rfl, hb⟩; have n0_ := Aside0.mk (Kd.R_below (zqC HO601.out) hb); have n1_ := Aside0.mk (blk_below (g := gb598) (o := .cells #[.int .u8 a1_0, .int .u8 a1_1] 86 (0, 0)) (zqB BK598.out) hb); have n2_ := Aside0.mk (below_step (zqG HB.out GE598.out) hb); clear HO601; clear BK598; clear HB; have HO601 := n0_; have BK598 := n1_; have HB := n2_; clear n0_ n1_ n2_; (try clear hb); (try clear hb2); (try clear hk); (try clear hi)) | (go_at_call 17; (with_reducible refine (pump_Most.calls _ _ t599 (Int.tmod (wrap64 (a1_1)) 100) t604 t605 _ ?side1 ?side2 A5.out).mono ?_); (case side1 => repeat (first | exact (Kd.R_reads' HO601.out).2.2 | (with_reducible refine Kd.C_alloc ?_ _) | (with_reducible refine Kd.C_drewN ?_ _) | (with_reducible refine Kd.C_drew ?_))); (case side2 => exact (Kd.R_reads' HO601.out).2.1); rintro e w13 ⟨rfl, hb⟩; have n0_ := Aside0.mk (Kd.R_below (zqC HO601.out) hb); have n1_ := Aside0.mk (blk_below (g := gb598) (o := .cells #[.int .u8 a1_0, .int .u8 a1_1] 86 (0, 0)) (zqB BK598.out) hb); have n2_ := Aside0.mk (below_step (zqG HB.out GE598.out) hb); clear HO601; clear BK598; clear HB; have HO601 := n0_; have BK598 := n1_; have HB := n2_; clear n0_ n1_ n2_; (try clear hb); (try clear hb2); (try clear hk); (try clear hi)) | (go_at_call 17; (with_reducible refine (pump_Most.calls _ _ t599 (wrap64 ((Int.tmod (wrap64 (a1_0)) 100) + (Int.tmod (wrap64 (a1_1)) 100))) t606 t607 _ ?side1 ?side2 A6.out).mono ?_); (case side1 => repeat (first | exact (Kd.R_reads' HO601.out).2.2 | (with_reducible refine Kd.C_alloc ?_ _) | (with_reducible refine Kd.C_drewN ?_ _) | (with_reducible refine Kd.C_drew ?_))); (case side2 => exact (Kd.R_reads' HO601.out).2.1); rintro e w14 ⟨rfl, hb⟩; have n0_ := Aside0.mk (Kd.R_below (zqC HO601.out) hb); have n1_ := Aside0.mk (blk_below (g := gb598) (o := .cells #[.int .u8 a1_0, .int .u8 a1_1] 86 (0, 0)) (zqB BK598.out) hb); have n2_ := Aside0.mk (below_step (zqG HB.out GE598.out) hb); clear HO601; clear BK598; clear HB; have HO601 := n0_; have BK598 := n1_; have HB := n2_; clear n0_ n1_ n2_; (try clear hb); (try clear hb2); (try clear hk); (try clear hi))); go_upto_region 6 with (first | ((with_reducible refine gate_dst (N := 3) rfl ?_); (try (refine gate_guard (by rfl) ?_; dsimp only)); refine box_event ?hg (N := 3) ?hd (cs := #[.int .u8 a1_0, .int .u8 a1_1]) (t := 86) ?hr ?_; (case hd => rfl); (case hg => rfl); (case hr => first | (go_simp; done) | (go_simp; rfl)); intro gb598 hg w8 hbox hb; have n0_ := Aside0.mk (below_step (zqA HB.out) hb); have n1_ := Aside0.mk (hbox); have n2_ := Aside0.mk ((by rw [hg]; exact (below_size (zqA HB.out)) : w.heap.size ≤ gb598)); have n3_ := Aside0.mk ((by rw [hg]; exact (below_size (zqA HB.out)) : w.heap.size ≤ gb598)); clear HB; have HB := n0_; have BK598 := n1_; have GW598 := n2_; have GE598 := n3_; clear n0_ n1_ n2_ n3_; clear hb hbox hg) | (go_at_call 40; (with_reducible refine (pianolalaw04_Set_made.calls k _ _ l0 t599 _ ?side1 ?side2 A3.out).mono ?_); (case side1 => repeat (first | exact (Kd.C_below HR0.out HB.out) | (with_reducible refine Kd.C_alloc ?_ _) | (with_reducible refine Kd.C_drewN ?_ _) | (with_reducible refine Kd.C_drew ?_))); (case side2 => exact HC0.out); rintro e w9 ⟨v600, rfl, ho0, hb⟩; have n0_ := Aside0.mk (Kd.R_lower ho0 (below_size (zqG HB.out GE598.out))); have n1_ := Aside0.mk (blk_below (g := gb598) (o := .cells #[.int .u8 a1_0, .int .u8 a1_1] 86 (0, 0)) (zqB BK598.out) hb); have n2_ := Aside0.mk (below_step (zqG HB.out GE598.out) hb); clear BK598; clear HB; have HO601 := n0_; have BK598 := n1_; have HB := n2_; clear n0_ n1_ n2_; (try clear hb); (try clear hb2); (try clear hk); (try clear hi); (try clear ho0); have hcz10_0 : w9.cell? ⟨gb598, 0, none⟩ = some (.int .u8 a1_0) := (blk_cell BK598.out 0).trans rfl; have hcz10_1 : w9.cell? ⟨gb598, 1, none⟩ = some (.int .u8 a1_1) := (blk_cell BK598.out 1).trans rfl; have hfz10_0 := blk_frozen BK598.out 0; have hfz10_1 := blk_frozen BK598.out 1; obtain ⟨Ao11, co11, eo11⟩ := Kd.R_slice HO601.out; subst eo11) | (go_at_call 17; (with_reducible refine (pump_Most.calls _ _ t599 (Int.tmod (wrap64 (a1_0)) 100) t602 t603 _ ?side1 ?side2 A4.out).mono ?_); (case side1 => repeat (first | exact (Kd.R_reads' HO601.out).2.2 | (with_reducible refine Kd.C_alloc ?_ _) | (with_reducible refine Kd.C_drewN ?_ _) | (with_reducible refine Kd.C_drew ?_))); (case side2 => exact (Kd.R_reads' HO601.out).2.1); rintro e w12 ⟨rfl, hb⟩; have n0_ := Aside0.mk (Kd.R_below (zqC HO601.out) hb); have n1_ := Aside0.mk (blk_below (g := gb598) (o := .cells #[.int .u8 a1_0, .int .u8 a1_1] 86 (0, 0)) (zqB BK598.out) hb); have n2_ := Aside0.mk (below_step (zqG HB.out GE598.out) hb); clear HO601; clear BK598; clear HB; have HO601 := n0_; have BK598 := n1_; have HB := n2_; clear n0_ n1_ n2_; (try clear hb); (try clear hb2); (try clear hk); (try clear hi)) | (go_at_call 17; (with_reducible refine (pump_Most.calls _ _ t599 (Int.tmod (wrap64 (a1_1)) 100) t604 t605 _ ?side1 ?side2 A5.out).mono ?_); (case side1 => repeat (first | exact (Kd.R_reads' HO601.out).2.2 | (with_reducible refine Kd.C_alloc ?_ _) | (with_reducible refine Kd.C_drewN ?_ _) | (with_reducible refine Kd.C_drew ?_))); (case side2 => exact (Kd.R_reads' HO601.out).2.1); rintro e w13 ⟨rfl, hb⟩; have n0_ := Aside0.mk (Kd.R_below (zqC HO601.out) hb); have n1_ := Aside0.mk (blk_below (g := gb598) (o := .cells #[.int .u8 a1_0, .int .u8 a1_1] 86 (0, 0)) (zqB BK598.out) hb); have n2_ := Aside0.mk (below_step (zqG HB.out GE598.out) hb); clear HO601; clear BK598; clear HB; have HO601 := n0_; have BK598 := n1_; have HB := n2_; clear n0_ n1_ n2_; (try clear hb); (try clear hb2); (try clear hk); (try clear hi)) | (go_at_call 17; (with_reducible refine (pump_Most.calls _ _ t599 (wrap64 ((Int.tmod (wrap64 (a1_0)) 100) + (Int.tmod (wrap64 (a1_1)) 100))) t606 t607 _ ?side1 ?side2 A6.out).mono ?_); (case side1 => repeat (first | exact (Kd.R_reads' HO601.out).2.2 | (with_reducible refine Kd.C_alloc ?_ _) | (with_reducible refine Kd.C_drewN ?_ _) | (with_reducible refine Kd.C_drew ?_))); (case side2 => exact (Kd.R_reads' HO601.out).2.1); rintro e w14 ⟨rfl, hb⟩; have n0_ := Aside0.mk (Kd.R_below (zqC HO601.out) hb); have n1_ := Aside0.mk (blk_below (g := gb598) (o := .cells #[.int .u8 a1_0, .int .u8 a1_1] 86 (0, 0)) (zqB BK598.out) hb); have n2_ := Aside0.mk (below_step (zqG HB.out GE598.out) hb); clear HO601; clear BK598; clear HB; have HO601 := n0_; have BK598 := n1_; have HB := n2_; clear n0_ n1_ n2_; (try clear hb); (try clear hb2); (try clear hk); (try clear hi))))
 (try simp only [Act.put, List.setIfInBounds_toArray, List.set_cons_zero, List.set_cons_succ])
 go_cut [67] (fun v67 wc => ∃ (kq : Nat) (x67_6 : Bool), v67 = .bool x67_6 ∧ Aside0 (pianolalaw04_PumpLonger.j0 kq t599 (Int.tmod (wrap64 (a1_0)) 100) (Int.tmod (wrap64 (a1_1)) 100) x67_6 = some r) ∧ Aside0 (kq ≤ k) ∧ Aside0 (Kd.R k71 71 wc w.heap.size (fun _ => True) (.slice Ao11 t599.length co11) t599) ∧ Aside0 (wc.heap[gb598]? = some (.cells #[.int .u8 a1_0, .int .u8 a1_1] 86 (0, 0))) ∧ Aside0 (Below w.heap.size w wc))
 case first =>
  have H := HC7.out
  clear HC7
  by_cases c15 : t603 = 0
  ·
   rw [if_pos c15] at H
   have c15b0 : (t603 == 0) = true := beq_iff_eq.mpr c15
   have c15b1 : (t603 != 0) = false := bne_eq_false_iff_eq.mpr c15
   clear c15
   (first | rw [c15b0] | rw [c15b1] | (simp only [i64_w, i32_w]; rw [c15b0]) | skip)
   by_cases c16 : t605 = 0
   ·
    rw [if_pos c16] at H
    have c16b0 : (t605 == 0) = true := beq_iff_eq.mpr c16
    have c16b1 : (t605 != 0) = false := bne_eq_false_iff_eq.mpr c16
    clear c16
    by_cases c17 : t607 = 0
    ·
     rw [if_pos c17] at H
     have c17b0 : (t607 == 0) = true := beq_iff_eq.mpr c17
     have c17b1 : (t607 != 0) = false := bne_eq_false_iff_eq.mpr c17
     clear c17
     by_cases c18 : t606 > (wrap64 (t602 + t604))
     ·
      rw [if_pos c18] at H
      have c18b0 : decide ((wrap64 (t602 + t604)) < t606) = true := decide_eq_true c18
      clear c18
      have H' := Aside0.mk H
      clear H
      go_wp2
      repeat (go_quiet (fail); try go_wp2)
      go_meet
      case rel => exact ⟨_, (true), (by first | rfl | (simp; done) | (simp [*]; done)), H', ⟨by first | omega | exact Nat.le_refl _⟩, ⟨zqC HO601.out⟩, ⟨zqB BK598.out⟩, ⟨zqG HB.out GE598.out⟩⟩
     ·
      rw [if_neg c18] at H
      have c18b0 : decide ((wrap64 (t602 + t604)) < t606) = false := decide_eq_false c18
      clear c18
      obtain ⟨ji19, hji19⟩ : ∃ j_ : Int, (mx t602 t604) = j_ := ⟨_, rfl⟩
      replace H : (pianolalaw04_PumpLonger.j0 k t599 (Int.tmod (wrap64 (a1_0)) 100) (Int.tmod (wrap64 (a1_1)) 100) (decide (t606 < (ji19)))) = some r := by first | (rw [hji19] at H; exact H) | (simp only [hji19] at H ⊢; exact H)
      have hji19_ : (if t602 < t604 then t604 else t602) = ji19 := hji19
      have H' := Aside0.mk H
      clear H
      go_wp2
      repeat (go_quiet (fail); try go_wp2)
      go_meet
      case rel => exact ⟨_, (decide (t606 < (ji19))), (by first | rfl | (simp; done) | (simp only [← hji19] <;> (first | rfl | simp)) | (simp [*]; done)), H', ⟨by first | omega | exact Nat.le_refl _⟩, ⟨zqC HO601.out⟩, ⟨zqB BK598.out⟩, ⟨zqG HB.out GE598.out⟩⟩
    ·
     rw [if_neg c17] at H
     have c17b0 : (t607 == 0) = false := beq_eq_false_iff_ne.mpr c17
     have c17b1 : (t607 != 0) = true := bne_iff_ne.mpr c17
     have H' := Aside0.mk H
     clear H
     go_wp2
     repeat (go_quiet (fail); try go_wp2)
     go_meet
     case rel => exact ⟨_, (true), (by first | rfl | (simp; done) | (simp [*]; done)), H', ⟨by first | omega | exact Nat.le_refl _⟩, ⟨zqC HO601.out⟩, ⟨zqB BK598.out⟩, ⟨zqG HB.out GE598.out⟩⟩
   ·
    rw [if_neg c16] at H
    have c16b0 : (t605 == 0) = false := beq_eq_false_iff_ne.mpr c16
    have c16b1 : (t605 != 0) = true := bne_iff_ne.mpr c16
    have H' := Aside0.mk H
    clear H
    go_wp2
    repeat (go_quiet (fail); try go_wp2)
    go_meet
    case rel => exact ⟨_, (true), (by first | rfl | (simp; done) | (simp [*]; done)), H', ⟨by first | omega | exact Nat.le_refl _⟩, ⟨zqC HO601.out⟩, ⟨zqB BK598.out⟩, ⟨zqG HB.out GE598.out⟩⟩
  ·
   rw [if_neg c15] at H
   have c15b0 : (t603 == 0) = false := beq_eq_false_iff_ne.mpr c15
   have c15b1 : (t603 != 0) = true := bne_iff_ne.mpr c15
   (first | rw [c15b0] | rw [c15b1] | (simp only [i64_w, i32_w]; rw [c15b0]) | skip)
   have H' := Aside0.mk H
   clear H
   go_wp2
   repeat (go_quiet (fail); try go_wp2)
   go_meet
   case rel => exact ⟨_, (true), (by first | rfl | (simp; done) | (simp [*]; done)), H', ⟨by first | omega | exact Nat.le_refl _⟩, ⟨zqC HO601.out⟩, ⟨zqB BK598.out⟩, ⟨zqG HB.out GE598.out⟩⟩
 case rest =>
  clear HC7
  try clear c1
  try clear p2
  try clear p6
  try clear c11
  try clear c15
  try clear c15b0
  try clear c15b1
  try clear c16
  try clear c16b0
  try clear c16b1
  try clear c17
  try clear c17b0
  try clear c17b1
  try clear c18
  try clear c18b0
  try clear hcz10_0
  try clear hcz10_1
  try clear hfz10_0
  try clear hfz10_1
  obtain ⟨kq, x67_6, rfl, HA, HJ6, HO_5, BK598, HB⟩ := hcut
  cases kq with
  | zero => exact absurd HA.out (by simp [pianolalaw04_PumpLonger.j0])
  | succ kj6 =>
   have H := HA.out
   clear HA
   simp only [pianolalaw04_PumpLonger.j0] at H
   by_cases c20 : x67_6 = true
   ·
    subst c20
    have H1 : (some false) = some r := by rw [if_pos rfl] at H; exact H
    clear H
    have H := H1
    clear H1
    obtain rfl := Option.some.inj H
    go_wp2
    repeat (go_quiet (fail); try go_wp2)
    go_ret
    exact ⟨by first | rfl | (simp [errW_none, errW_some] <;> rfl) | (simp [*, errW_none, errW_some] <;> rfl), zqG HB.out GE598.out⟩
   ·
    replace c20 := Bool.eq_false_iff.mpr c20
    subst c20
    have H1 : ((pump_Least.f t599 (Int.tmod (wrap64 (a1_0)) 100)).bind fun bt608 => ((pump_Least.f t599 (Int.tmod (wrap64 (a1_1)) 100)).bind fun bt610 => ((pump_Least.f t599 (wrap64 ((Int.tmod (wrap64 (a1_0)) 100) + (Int.tmod (wrap64 (a1_1)) 100)))).bind fun bt612 => (if bt608.2 = 0 then (if bt610.2 = 0 then (if bt612.2 = 0 then (if bt612.1 ≥ (wrap64 (bt608.1 + bt610.1)) then ((pianolalaw04_works.f).bind fun t614 => (some t614)) else (some false)) else (some false)) else (some false)) else (some false))))) = some r := by rw [if_neg (show ¬ (false = true) by decide)] at H; exact H
    clear H
    have H := H1
    clear H1
    replace H := Option.bind_eq_some_iff.mp H
    obtain ⟨⟨t608, t609⟩, A210, H⟩ := H
    replace H : ((pump_Least.f t599 (Int.tmod (wrap64 (a1_1)) 100)).bind fun bt610 => ((pump_Least.f t599 (wrap64 ((Int.tmod (wrap64 (a1_0)) 100) + (Int.tmod (wrap64 (a1_1)) 100)))).bind fun bt612 => (if t609 = 0 then (if bt610.2 = 0 then (if bt612.2 = 0 then (if bt612.1 ≥ (wrap64 (t608 + bt610.1)) then ((pianolalaw04_works.f).bind fun t614 => (some t614)) else (some false)) else (some false)) else (some false)) else (some false)))) = some r := H
    have A21 := Aside0.mk A210
    clear A210
    replace H := Option.bind_eq_some_iff.mp H
    obtain ⟨⟨t610, t611⟩, A220, H⟩ := H
    replace H : ((pump_Least.f t599 (wrap64 ((Int.tmod (wrap64 (a1_0)) 100) + (Int.tmod (wrap64 (a1_1)) 100)))).bind fun bt612 => (if t609 = 0 then (if t611 = 0 then (if bt612.2 = 0 then (if bt612.1 ≥ (wrap64 (t608 + t610)) then ((pianolalaw04_works.f).bind fun t614 => (some t614)) else (some false)) else (some false)) else (some false)) else (some false))) = some r := H
    have A22 := Aside0.mk A220
    clear A220
    replace H := Option.bind_eq_some_iff.mp H
    obtain ⟨⟨t612, t613⟩, A230, H⟩ := H
    replace H : (if t609 = 0 then (if t611 = 0 then (if t613 = 0 then (if t612 ≥ (wrap64 (t608 + t610)) then ((pianolalaw04_works.f).bind fun t614 => (some t614)) else (some false)) else (some false)) else (some false)) else (some false)) = some r := H
    have A23 := Aside0.mk A230
    clear A230
    by_cases c24 : t609 = 0
    ·
     rw [if_pos c24] at H
     have c24b0 : (t609 == 0) = true := beq_iff_eq.mpr c24
     have c24b1 : (t609 != 0) = false := bne_eq_false_iff_eq.mpr c24
     clear c24
     by_cases c25 : t611 = 0
     ·
      rw [if_pos c25] at H
      have c25b0 : (t611 == 0) = true := beq_iff_eq.mpr c25
      have c25b1 : (t611 != 0) = false := bne_eq_false_iff_eq.mpr c25
      clear c25
      by_cases c26 : t613 = 0
      ·
       rw [if_pos c26] at H
       have c26b0 : (t613 == 0) = true := beq_iff_eq.mpr c26
       have c26b1 : (t613 != 0) = false := bne_eq_false_iff_eq.mpr c26
       clear c26
       by_cases c27 : t612 ≥ (wrap64 (t608 + t610))
       ·
        rw [if_pos c27] at H
        have c27b0 : decide ((wrap64 (t608 + t610)) ≤ t612) = true := decide_eq_true c27
        clear c27
        replace H := Option.bind_eq_some_iff.mp H
        obtain ⟨t614, A280, H⟩ := H
        replace H : (some t614) = some r := H
        have A28 := Aside0.mk A280
        clear A280
        obtain rfl := Option.some.inj H
        go_wp2_with (first | (go_at_call 19; (with_reducible refine (pump_Least.calls _ _ t599 (Int.tmod (wrap64 (a1_0)) 100) t608 t609 _ ?side1 ?side2 A21.out).mono ?_); (case side1 => repeat (first | exact (Kd.R_reads' HO_5.out).2.2 | (with_reducible refine Kd.C_alloc ?_ _) | (with_reducible refine Kd.C_drewN ?_ _) | (with_reducible refine Kd.C_drew ?_))); (case side2 => exact (Kd.R_reads' HO_5.out).2.1); rintro e w29 ⟨rfl, hb⟩; have n0_ := Aside0.mk (Kd.R_below (zqC HO_5.out) hb); have n1_ := Aside0.mk (blk_below (g := gb598) (o := .cells #[.int .u8 a1_0, .int .u8 a1_1] 86 (0, 0)) (zqB BK598.out) hb); have n2_ := Aside0.mk (below_step (zqG HB.out GE598.out) hb); clear HO_5; clear BK598; clear HB; have HO_5 := n0_; have BK598 := n1_; have HB := n2_; clear n0_ n1_ n2_; (try clear hb); (try clear hb2); (try clear hk); (try clear hi)) | (go_at_call 19; (with_reducible refine (pump_Least.calls _ _ t599 (Int.tmod (wrap64 (a1_1)) 100) t610 t611 _ ?side1 ?side2 A22.out).mono ?_); (case side1 => repeat (first | exact (Kd.R_reads' HO_5.out).2.2 | (with_reducible refine Kd.C_alloc ?_ _) | (with_reducible refine Kd.C_drewN ?_ _) | (with_reducible refine Kd.C_drew ?_))); (case side2 => exact (Kd.R_reads' HO_5.out).2.1); rintro e w30 ⟨rfl, hb⟩; have n0_ := Aside0.mk (Kd.R_below (zqC HO_5.out) hb); have n1_ := Aside0.mk (blk_below (g := gb598) (o := .cells #[.int .u8 a1_0, .int .u8 a1_1] 86 (0, 0)) (zqB BK598.out) hb); have n2_ := Aside0.mk (below_step (zqG HB.out GE598.out) hb); clear HO_5; clear BK598; clear HB; have HO_5 := n0_; have BK598 := n1_; have HB := n2_; clear n0_ n1_ n2_; (try clear hb); (try clear hb2); (try clear hk); (try clear hi)) | (go_at_call 19; (with_reducible refine (pump_Least.calls _ _ t599 (wrap64 ((Int.tmod (wrap64 (a1_0)) 100) + (Int.tmod (wrap64 (a1_1)) 100))) t612 t613 _ ?side1 ?side2 A23.out).mono ?_); (case side1 => repeat (first | exact (Kd.R_reads' HO_5.out).2.2 | (with_reducible refine Kd.C_alloc ?_ _) | (with_reducible refine Kd.C_drewN ?_ _) | (with_reducible refine Kd.C_drew ?_))); (case side2 => exact (Kd.R_reads' HO_5.out).2.1); rintro e w31 ⟨rfl, hb⟩; have n0_ := Aside0.mk (Kd.R_below (zqC HO_5.out) hb); have n1_ := Aside0.mk (blk_below (g := gb598) (o := .cells #[.int .u8 a1_0, .int .u8 a1_1] 86 (0, 0)) (zqB BK598.out) hb); have n2_ := Aside0.mk (below_step (zqG HB.out GE598.out) hb); clear HO_5; clear BK598; clear HB; have HO_5 := n0_; have BK598 := n1_; have HB := n2_; clear n0_ n1_ n2_; (try clear hb); (try clear hb2); (try clear hk); (try clear hi)) | (go_at_call 15; (with_reducible refine (pianolalaw04_works.calls  t614 _ A28.out).mono ?_); rintro e w32 ⟨rfl, hb⟩; have n0_ := Aside0.mk (Kd.R_below (zqC HO_5.out) hb); have n1_ := Aside0.mk (blk_below (g := gb598) (o := .cells #[.int .u8 a1_0, .int .u8 a1_1] 86 (0, 0)) (zqB BK598.out) hb); have n2_ := Aside0.mk (below_step (zqG HB.out GE598.out) hb); clear HO_5; clear BK598; clear HB; have HO_5 := n0_; have BK598 := n1_; have HB := n2_; clear n0_ n1_ n2_; (try clear hb); (try clear hb2); (try clear hk); (try clear hi)))
        repeat (go_quiet (first | (go_at_call 19; (with_reducible refine (pump_Least.calls _ _ t599 (Int.tmod (wrap64 (a1_0)) 100) t608 t609 _ ?side1 ?side2 A21.out).mono ?_); (case side1 => repeat (first | exact (Kd.R_reads' HO_5.out).2.2 | (with_reducible refine Kd.C_alloc ?_ _) | (with_reducible refine Kd.C_drewN ?_ _) | (with_reducible refine Kd.C_drew ?_))); (case side2 => exact (Kd.R_reads' HO_5.out).2.1); rintro e w29 ⟨rfl, hb⟩; have n0_ := Aside0.mk (Kd.R_below (zqC HO_5.out) hb); have n1_ := Aside0.mk (blk_below (g := gb598) (o := .cells #[.int .u8 a1_0, .int .u8 a1_1] 86 (0, 0)) (zqB BK598.out) hb); have n2_ := Aside0.mk (below_step (zqG HB.out GE598.out) hb); clear HO_5; clear BK598; clear HB; have HO_5 := n0_; have BK598 := n1_; have HB := n2_; clear n0_ n1_ n2_; (try clear hb); (try clear hb2); (try clear hk); (try clear hi)) | (go_at_call 19; (with_reducible refine (pump_Least.calls _ _ t599 (Int.tmod (wrap64 (a1_1)) 100) t610 t611 _ ?side1 ?side2 A22.out).mono ?_); (case side1 => repeat (first | exact (Kd.R_reads' HO_5.out).2.2 | (with_reducible refine Kd.C_alloc ?_ _) | (with_reducible refine Kd.C_drewN ?_ _) | (with_reducible refine Kd.C_drew ?_))); (case side2 => exact (Kd.R_reads' HO_5.out).2.1); rintro e w30 ⟨rfl, hb⟩; have n0_ := Aside0.mk (Kd.R_below (zqC HO_5.out) hb); have n1_ := Aside0.mk (blk_below (g := gb598) (o := .cells #[.int .u8 a1_0, .int .u8 a1_1] 86 (0, 0)) (zqB BK598.out) hb); have n2_ := Aside0.mk (below_step (zqG HB.out GE598.out) hb); clear HO_5; clear BK598; clear HB; have HO_5 := n0_; have BK598 := n1_; have HB := n2_; clear n0_ n1_ n2_; (try clear hb); (try clear hb2); (try clear hk); (try clear hi)) | (go_at_call 19; (with_reducible refine (pump_Least.calls _ _ t599 (wrap64 ((Int.tmod (wrap64 (a1_0)) 100) + (Int.tmod (wrap64 (a1_1)) 100))) t612 t613 _ ?side1 ?side2 A23.out).mono ?_); (case side1 => repeat (first | exact (Kd.R_reads' HO_5.out).2.2 | (with_reducible refine Kd.C_alloc ?_ _) | (with_reducible refine Kd.C_drewN ?_ _) | (with_reducible refine Kd.C_drew ?_))); (case side2 => exact (Kd.R_reads' HO_5.out).2.1); rintro e w31 ⟨rfl, hb⟩; have n0_ := Aside0.mk (Kd.R_below (zqC HO_5.out) hb); have n1_ := Aside0.mk (blk_below (g := gb598) (o := .cells #[.int .u8 a1_0, .int .u8 a1_1] 86 (0, 0)) (zqB BK598.out) hb); have n2_ := Aside0.mk (below_step (zqG HB.out GE598.out) hb); clear HO_5; clear BK598; clear HB; have HO_5 := n0_; have BK598 := n1_; have HB := n2_; clear n0_ n1_ n2_; (try clear hb); (try clear hb2); (try clear hk); (try clear hi)) | (go_at_call 15; (with_reducible refine (pianolalaw04_works.calls  t614 _ A28.out).mono ?_); rintro e w32 ⟨rfl, hb⟩; have n0_ := Aside0.mk (Kd.R_below (zqC HO_5.out) hb); have n1_ := Aside0.mk (blk_below (g := gb598) (o := .cells #[.int .u8 a1_0, .int .u8 a1_1] 86 (0, 0)) (zqB BK598.out) hb); have n2_ := Aside0.mk (below_step (zqG HB.out GE598.out) hb); clear HO_5; clear BK598; clear HB; have HO_5 := n0_; have BK598 := n1_; have HB := n2_; clear n0_ n1_ n2_; (try clear hb); (try clear hb2); (try clear hk); (try clear hi))); try go_wp2_with (first | (go_at_call 19; (with_reducible refine (pump_Least.calls _ _ t599 (Int.tmod (wrap64 (a1_0)) 100) t608 t609 _ ?side1 ?side2 A21.out).mono ?_); (case side1 => repeat (first | exact (Kd.R_reads' HO_5.out).2.2 | (with_reducible refine Kd.C_alloc ?_ _) | (with_reducible refine Kd.C_drewN ?_ _) | (with_reducible refine Kd.C_drew ?_))); (case side2 => exact (Kd.R_reads' HO_5.out).2.1); rintro e w29 ⟨rfl, hb⟩; have n0_ := Aside0.mk (Kd.R_below (zqC HO_5.out) hb); have n1_ := Aside0.mk (blk_below (g := gb598) (o := .cells #[.int .u8 a1_0, .int .u8 a1_1] 86 (0, 0)) (zqB BK598.out) hb); have n2_ := Aside0.mk (below_step (zqG HB.out GE598.out) hb); clear HO_5; clear BK598; clear HB; have HO_5 := n0_; have BK598 := n1_; have HB := n2_; clear n0_ n1_ n2_; (try clear hb); (try clear hb2); (try clear hk); (try clear hi)) | (go_at_call 19; (with_reducible refine (pump_Least.calls _ _ t599 (Int.tmod (wrap64 (a1_1)) 100) t610 t611 _ ?side1 ?side2 A22.out).mono ?_); (case side1 => repeat (first | exact (Kd.R_reads' HO_5.out).2.2 | (with_reducible refine Kd.C_alloc ?_ _) | (with_reducible refine Kd.C_drewN ?_ _) | (with_reducible refine Kd.C_drew ?_))); (case side2 => exact (Kd.R_reads' HO_5.out).2.1); rintro e w30 ⟨rfl, hb⟩; have n0_ := Aside0.mk (Kd.R_below (zqC HO_5.out) hb); have n1_ := Aside0.mk (blk_below (g := gb598) (o := .cells #[.int .u8 a1_0, .int .u8 a1_1] 86 (0, 0)) (zqB BK598.out) hb); have n2_ := Aside0.mk (below_step (zqG HB.out GE598.out) hb); clear HO_5; clear BK598; clear HB; have HO_5 := n0_; have BK598 := n1_; have HB := n2_; clear n0_ n1_ n2_; (try clear hb); (try clear hb2); (try clear hk); (try clear hi)) | (go_at_call 19; (with_reducible refine (pump_Least.calls _ _ t599 (wrap64 ((Int.tmod (wrap64 (a1_0)) 100) + (Int.tmod (wrap64 (a1_1)) 100))) t612 t613 _ ?side1 ?side2 A23.out).mono ?_); (case side1 => repeat (first | exact (Kd.R_reads' HO_5.out).2.2 | (with_reducible refine Kd.C_alloc ?_ _) | (with_reducible refine Kd.C_drewN ?_ _) | (with_reducible refine Kd.C_drew ?_))); (case side2 => exact (Kd.R_reads' HO_5.out).2.1); rintro e w31 ⟨rfl, hb⟩; have n0_ := Aside0.mk (Kd.R_below (zqC HO_5.out) hb); have n1_ := Aside0.mk (blk_below (g := gb598) (o := .cells #[.int .u8 a1_0, .int .u8 a1_1] 86 (0, 0)) (zqB BK598.out) hb); have n2_ := Aside0.mk (below_step (zqG HB.out GE598.out) hb); clear HO_5; clear BK598; clear HB; have HO_5 := n0_; have BK598 := n1_; have HB := n2_; clear n0_ n1_ n2_; (try clear hb); (try clear hb2); (try clear hk); (try clear hi)) | (go_at_call 15; (with_reducible refine (pianolalaw04_works.calls  t614 _ A28.out).mono ?_); rintro e w32 ⟨rfl, hb⟩; have n0_ := Aside0.mk (Kd.R_below (zqC HO_5.out) hb); have n1_ := Aside0.mk (blk_below (g := gb598) (o := .cells #[.int .u8 a1_0, .int .u8 a1_1] 86 (0, 0)) (zqB BK598.out) hb); have n2_ := Aside0.mk (below_step (zqG HB.out GE598.out) hb); clear HO_5; clear BK598; clear HB; have HO_5 := n0_; have BK598 := n1_; have HB := n2_; clear n0_ n1_ n2_; (try clear hb); (try clear hb2); (try clear hk); (try clear hi))))
        go_ret
        exact ⟨by first | rfl | (simp [errW_none, errW_some] <;> rfl) | (simp [*, errW_none, errW_some] <;> rfl), zqG HB.out GE598.out⟩
       ·
        rw [if_neg c27] at H
        have c27b0 : decide ((wrap64 (t608 + t610)) ≤ t612) = false := decide_eq_false c27
        clear c27
        obtain rfl := Option.some.inj H
        go_wp2_with (first | (go_at_call 19; (with_reducible refine (pump_Least.calls _ _ t599 (Int.tmod (wrap64 (a1_0)) 100) t608 t609 _ ?side1 ?side2 A21.out).mono ?_); (case side1 => repeat (first | exact (Kd.R_reads' HO_5.out).2.2 | (with_reducible refine Kd.C_alloc ?_ _) | (with_reducible refine Kd.C_drewN ?_ _) | (with_reducible refine Kd.C_drew ?_))); (case side2 => exact (Kd.R_reads' HO_5.out).2.1); rintro e w33 ⟨rfl, hb⟩; have n0_ := Aside0.mk (Kd.R_below (zqC HO_5.out) hb); have n1_ := Aside0.mk (blk_below (g := gb598) (o := .cells #[.int .u8 a1_0, .int .u8 a1_1] 86 (0, 0)) (zqB BK598.out) hb); have n2_ := Aside0.mk (below_step (zqG HB.out GE598.out) hb); clear HO_5; clear BK598; clear HB; have HO_5 := n0_; have BK598 := n1_; have HB := n2_; clear n0_ n1_ n2_; (try clear hb); (try clear hb2); (try clear hk); (try clear hi)) | (go_at_call 19; (with_reducible refine (pump_Least.calls _ _ t599 (Int.tmod (wrap64 (a1_1)) 100) t610 t611 _ ?side1 ?side2 A22.out).mono ?_); (case side1 => repeat (first | exact (Kd.R_reads' HO_5.out).2.2 | (with_reducible refine Kd.C_alloc ?_ _) | (with_reducible refine Kd.C_drewN ?_ _) | (with_reducible refine Kd.C_drew ?_))); (case side2 => exact (Kd.R_reads' HO_5.out).2.1); rintro e w34 ⟨rfl, hb⟩; have n0_ := Aside0.mk (Kd.R_below (zqC HO_5.out) hb); have n1_ := Aside0.mk (blk_below (g := gb598) (o := .cells #[.int .u8 a1_0, .int .u8 a1_1] 86 (0, 0)) (zqB BK598.out) hb); have n2_ := Aside0.mk (below_step (zqG HB.out GE598.out) hb); clear HO_5; clear BK598; clear HB; have HO_5 := n0_; have BK598 := n1_; have HB := n2_; clear n0_ n1_ n2_; (try clear hb); (try clear hb2); (try clear hk); (try clear hi)) | (go_at_call 19; (with_reducible refine (pump_Least.calls _ _ t599 (wrap64 ((Int.tmod (wrap64 (a1_0)) 100) + (Int.tmod (wrap64 (a1_1)) 100))) t612 t613 _ ?side1 ?side2 A23.out).mono ?_); (case side1 => repeat (first | exact (Kd.R_reads' HO_5.out).2.2 | (with_reducible refine Kd.C_alloc ?_ _) | (with_reducible refine Kd.C_drewN ?_ _) | (with_reducible refine Kd.C_drew ?_))); (case side2 => exact (Kd.R_reads' HO_5.out).2.1); rintro e w35 ⟨rfl, hb⟩; have n0_ := Aside0.mk (Kd.R_below (zqC HO_5.out) hb); have n1_ := Aside0.mk (blk_below (g := gb598) (o := .cells #[.int .u8 a1_0, .int .u8 a1_1] 86 (0, 0)) (zqB BK598.out) hb); have n2_ := Aside0.mk (below_step (zqG HB.out GE598.out) hb); clear HO_5; clear BK598; clear HB; have HO_5 := n0_; have BK598 := n1_; have HB := n2_; clear n0_ n1_ n2_; (try clear hb); (try clear hb2); (try clear hk); (try clear hi)))
        repeat (go_quiet (first | (go_at_call 19; (with_reducible refine (pump_Least.calls _ _ t599 (Int.tmod (wrap64 (a1_0)) 100) t608 t609 _ ?side1 ?side2 A21.out).mono ?_); (case side1 => repeat (first | exact (Kd.R_reads' HO_5.out).2.2 | (with_reducible refine Kd.C_alloc ?_ _) | (with_reducible refine Kd.C_drewN ?_ _) | (with_reducible refine Kd.C_drew ?_))); (case side2 => exact (Kd.R_reads' HO_5.out).2.1); rintro e w33 ⟨rfl, hb⟩; have n0_ := Aside0.mk (Kd.R_below (zqC HO_5.out) hb); have n1_ := Aside0.mk (blk_below (g := gb598) (o := .cells #[.int .u8 a1_0, .int .u8 a1_1] 86 (0, 0)) (zqB BK598.out) hb); have n2_ := Aside0.mk (below_step (zqG HB.out GE598.out) hb); clear HO_5; clear BK598; clear HB; have HO_5 := n0_; have BK598 := n1_; have HB := n2_; clear n0_ n1_ n2_; (try clear hb); (try clear hb2); (try clear hk); (try clear hi)) | (go_at_call 19; (with_reducible refine (pump_Least.calls _ _ t599 (Int.tmod (wrap64 (a1_1)) 100) t610 t611 _ ?side1 ?side2 A22.out).mono ?_); (case side1 => repeat (first | exact (Kd.R_reads' HO_5.out).2.2 | (with_reducible refine Kd.C_alloc ?_ _) | (with_reducible refine Kd.C_drewN ?_ _) | (with_reducible refine Kd.C_drew ?_))); (case side2 => exact (Kd.R_reads' HO_5.out).2.1); rintro e w34 ⟨rfl, hb⟩; have n0_ := Aside0.mk (Kd.R_below (zqC HO_5.out) hb); have n1_ := Aside0.mk (blk_below (g := gb598) (o := .cells #[.int .u8 a1_0, .int .u8 a1_1] 86 (0, 0)) (zqB BK598.out) hb); have n2_ := Aside0.mk (below_step (zqG HB.out GE598.out) hb); clear HO_5; clear BK598; clear HB; have HO_5 := n0_; have BK598 := n1_; have HB := n2_; clear n0_ n1_ n2_; (try clear hb); (try clear hb2); (try clear hk); (try clear hi)) | (go_at_call 19; (with_reducible refine (pump_Least.calls _ _ t599 (wrap64 ((Int.tmod (wrap64 (a1_0)) 100) + (Int.tmod (wrap64 (a1_1)) 100))) t612 t613 _ ?side1 ?side2 A23.out).mono ?_); (case side1 => repeat (first | exact (Kd.R_reads' HO_5.out).2.2 | (with_reducible refine Kd.C_alloc ?_ _) | (with_reducible refine Kd.C_drewN ?_ _) | (with_reducible refine Kd.C_drew ?_))); (case side2 => exact (Kd.R_reads' HO_5.out).2.1); rintro e w35 ⟨rfl, hb⟩; have n0_ := Aside0.mk (Kd.R_below (zqC HO_5.out) hb); have n1_ := Aside0.mk (blk_below (g := gb598) (o := .cells #[.int .u8 a1_0, .int .u8 a1_1] 86 (0, 0)) (zqB BK598.out) hb); have n2_ := Aside0.mk (below_step (zqG HB.out GE598.out) hb); clear HO_5; clear BK598; clear HB; have HO_5 := n0_; have BK598 := n1_; have HB := n2_; clear n0_ n1_ n2_; (try clear hb); (try clear hb2); (try clear hk); (try clear hi))); try go_wp2_with (first | (go_at_call 19; (with_reducible refine (pump_Least.calls _ _ t599 (Int.tmod (wrap64 (a1_0)) 100) t608 t609 _ ?side1 ?side2 A21.out).mono ?_); (case side1 => repeat (first | exact (Kd.R_reads' HO_5.out).2.2 | (with_reducible refine Kd.C_alloc ?_ _) | (with_reducible refine Kd.C_drewN ?_ _) | (with_reducible refine Kd.C_drew ?_))); (case side2 => exact (Kd.R_reads' HO_5.out).2.1); rintro e w33 ⟨rfl, hb⟩; have n0_ := Aside0.mk (Kd.R_below (zqC HO_5.out) hb); have n1_ := Aside0.mk (blk_below (g := gb598) (o := .cells #[.int .u8 a1_0, .int .u8 a1_1] 86 (0, 0)) (zqB BK598.out) hb); have n2_ := Aside0.mk (below_step (zqG HB.out GE598.out) hb); clear HO_5; clear BK598; clear HB; have HO_5 := n0_; have BK598 := n1_; have HB := n2_; clear n0_ n1_ n2_; (try clear hb); (try clear hb2); (try clear hk); (try clear hi)) | (go_at_call 19; (with_reducible refine (pump_Least.calls _ _ t599 (Int.tmod (wrap64 (a1_1)) 100) t610 t611 _ ?side1 ?side2 A22.out).mono ?_); (case side1 => repeat (first | exact (Kd.R_reads' HO_5.out).2.2 | (with_reducible refine Kd.C_alloc ?_ _) | (with_reducible refine Kd.C_drewN ?_ _) | (with_reducible refine Kd.C_drew ?_))); (case side2 => exact (Kd.R_reads' HO_5.out).2.1); rintro e w34 ⟨rfl, hb⟩; have n0_ := Aside0.mk (Kd.R_below (zqC HO_5.out) hb); have n1_ := Aside0.mk (blk_below (g := gb598) (o := .cells #[.int .u8 a1_0, .int .u8 a1_1] 86 (0, 0)) (zqB BK598.out) hb); have n2_ := Aside0.mk (below_step (zqG HB.out GE598.out) hb); clear HO_5; clear BK598; clear HB; have HO_5 := n0_; have BK598 := n1_; have HB := n2_; clear n0_ n1_ n2_; (try clear hb); (try clear hb2); (try clear hk); (try clear hi)) | (go_at_call 19; (with_reducible refine (pump_Least.calls _ _ t599 (wrap64 ((Int.tmod (wrap64 (a1_0)) 100) + (Int.tmod (wrap64 (a1_1)) 100))) t612 t613 _ ?side1 ?side2 A23.out).mono ?_); (case side1 => repeat (first | exact (Kd.R_reads' HO_5.out).2.2 | (with_reducible refine Kd.C_alloc ?_ _) | (with_reducible refine Kd.C_drewN ?_ _) | (with_reducible refine Kd.C_drew ?_))); (case side2 => exact (Kd.R_reads' HO_5.out).2.1); rintro e w35 ⟨rfl, hb⟩; have n0_ := Aside0.mk (Kd.R_below (zqC HO_5.out) hb); have n1_ := Aside0.mk (blk_below (g := gb598) (o := .cells #[.int .u8 a1_0, .int .u8 a1_1] 86 (0, 0)) (zqB BK598.out) hb); have n2_ := Aside0.mk (below_step (zqG HB.out GE598.out) hb); clear HO_5; clear BK598; clear HB; have HO_5 := n0_; have BK598 := n1_; have HB := n2_; clear n0_ n1_ n2_; (try clear hb); (try clear hb2); (try clear hk); (try clear hi))))
        go_ret
        exact ⟨by first | rfl | (simp [errW_none, errW_some] <;> rfl) | (simp [*, errW_none, errW_some] <;> rfl), zqG HB.out GE598.out⟩
      ·
       rw [if_neg c26] at H
       have c26b0 : (t613 == 0) = false := beq_eq_false_iff_ne.mpr c26
       have c26b1 : (t613 != 0) = true := bne_iff_ne.mpr c26
       obtain rfl := Option.some.inj H
       go_wp2_with (first | (go_at_call 19; (with_reducible refine (pump_Least.calls _ _ t599 (Int.tmod (wrap64 (a1_0)) 100) t608 t609 _ ?side1 ?side2 A21.out).mono ?_); (case side1 => repeat (first | exact (Kd.R_reads' HO_5.out).2.2 | (with_reducible refine Kd.C_alloc ?_ _) | (with_reducible refine Kd.C_drewN ?_ _) | (with_reducible refine Kd.C_drew ?_))); (case side2 => exact (Kd.R_reads' HO_5.out).2.1); rintro e w36 ⟨rfl, hb⟩; have n0_ := Aside0.mk (Kd.R_below (zqC HO_5.out) hb); have n1_ := Aside0.mk (blk_below (g := gb598) (o := .cells #[.int .u8 a1_0, .int .u8 a1_1] 86 (0, 0)) (zqB BK598.out) hb); have n2_ := Aside0.mk (below_step (zqG HB.out GE598.out) hb); clear HO_5; clear BK598; clear HB; have HO_5 := n0_; have BK598 := n1_; have HB := n2_; clear n0_ n1_ n2_; (try clear hb); (try clear hb2); (try clear hk); (try clear hi)) | (go_at_call 19; (with_reducible refine (pump_Least.calls _ _ t599 (Int.tmod (wrap64 (a1_1)) 100) t610 t611 _ ?side1 ?side2 A22.out).mono ?_); (case side1 => repeat (first | exact (Kd.R_reads' HO_5.out).2.2 | (with_reducible refine Kd.C_alloc ?_ _) | (with_reducible refine Kd.C_drewN ?_ _) | (with_reducible refine Kd.C_drew ?_))); (case side2 => exact (Kd.R_reads' HO_5.out).2.1); rintro e w37 ⟨rfl, hb⟩; have n0_ := Aside0.mk (Kd.R_below (zqC HO_5.out) hb); have n1_ := Aside0.mk (blk_below (g := gb598) (o := .cells #[.int .u8 a1_0, .int .u8 a1_1] 86 (0, 0)) (zqB BK598.out) hb); have n2_ := Aside0.mk (below_step (zqG HB.out GE598.out) hb); clear HO_5; clear BK598; clear HB; have HO_5 := n0_; have BK598 := n1_; have HB := n2_; clear n0_ n1_ n2_; (try clear hb); (try clear hb2); (try clear hk); (try clear hi)) | (go_at_call 19; (with_reducible refine (pump_Least.calls _ _ t599 (wrap64 ((Int.tmod (wrap64 (a1_0)) 100) + (Int.tmod (wrap64 (a1_1)) 100))) t612 t613 _ ?side1 ?side2 A23.out).mono ?_); (case side1 => repeat (first | exact (Kd.R_reads' HO_5.out).2.2 | (with_reducible refine Kd.C_alloc ?_ _) | (with_reducible refine Kd.C_drewN ?_ _) | (with_reducible refine Kd.C_drew ?_))); (case side2 => exact (Kd.R_reads' HO_5.out).2.1); rintro e w38 ⟨rfl, hb⟩; have n0_ := Aside0.mk (Kd.R_below (zqC HO_5.out) hb); have n1_ := Aside0.mk (blk_below (g := gb598) (o := .cells #[.int .u8 a1_0, .int .u8 a1_1] 86 (0, 0)) (zqB BK598.out) hb); have n2_ := Aside0.mk (below_step (zqG HB.out GE598.out) hb); clear HO_5; clear BK598; clear HB; have HO_5 := n0_; have BK598 := n1_; have HB := n2_; clear n0_ n1_ n2_; (try clear hb); (try clear hb2); (try clear hk); (try clear hi)))
       repeat (go_quiet (first | (go_at_call 19; (with_reducible refine (pump_Least.calls _ _ t599 (Int.tmod (wrap64 (a1_0)) 100) t608 t609 _ ?side1 ?side2 A21.out).mono ?_); (case side1 => repeat (first | exact (Kd.R_reads' HO_5.out).2.2 | (with_reducible refine Kd.C_alloc ?_ _) | (with_reducible refine Kd.C_drewN ?_ _) | (with_reducible refine Kd.C_drew ?_))); (case side2 => exact (Kd.R_reads' HO_5.out).2.1); rintro e w36 ⟨rfl, hb⟩; have n0_ := Aside0.mk (Kd.R_below (zqC HO_5.out) hb); have n1_ := Aside0.mk (blk_below (g := gb598) (o := .cells #[.int .u8 a1_0, .int .u8 a1_1] 86 (0, 0)) (zqB BK598.out) hb); have n2_ := Aside0.mk (below_step (zqG HB.out GE598.out) hb); clear HO_5; clear BK598; clear HB; have HO_5 := n0_; have BK598 := n1_; have HB := n2_; clear n0_ n1_ n2_; (try clear hb); (try clear hb2); (try clear hk); (try clear hi)) | (go_at_call 19; (with_reducible refine (pump_Least.calls _ _ t599 (Int.tmod (wrap64 (a1_1)) 100) t610 t611 _ ?side1 ?side2 A22.out).mono ?_); (case side1 => repeat (first | exact (Kd.R_reads' HO_5.out).2.2 | (with_reducible refine Kd.C_alloc ?_ _) | (with_reducible refine Kd.C_drewN ?_ _) | (with_reducible refine Kd.C_drew ?_))); (case side2 => exact (Kd.R_reads' HO_5.out).2.1); rintro e w37 ⟨rfl, hb⟩; have n0_ := Aside0.mk (Kd.R_below (zqC HO_5.out) hb); have n1_ := Aside0.mk (blk_below (g := gb598) (o := .cells #[.int .u8 a1_0, .int .u8 a1_1] 86 (0, 0)) (zqB BK598.out) hb); have n2_ := Aside0.mk (below_step (zqG HB.out GE598.out) hb); clear HO_5; clear BK598; clear HB; have HO_5 := n0_; have BK598 := n1_; have HB := n2_; clear n0_ n1_ n2_; (try clear hb); (try clear hb2); (try clear hk); (try clear hi)) | (go_at_call 19; (with_reducible refine (pump_Least.calls _ _ t599 (wrap64 ((Int.tmod (wrap64 (a1_0)) 100) + (Int.tmod (wrap64 (a1_1)) 100))) t612 t613 _ ?side1 ?side2 A23.out).mono ?_); (case side1 => repeat (first | exact (Kd.R_reads' HO_5.out).2.2 | (with_reducible refine Kd.C_alloc ?_ _) | (with_reducible refine Kd.C_drewN ?_ _) | (with_reducible refine Kd.C_drew ?_))); (case side2 => exact (Kd.R_reads' HO_5.out).2.1); rintro e w38 ⟨rfl, hb⟩; have n0_ := Aside0.mk (Kd.R_below (zqC HO_5.out) hb); have n1_ := Aside0.mk (blk_below (g := gb598) (o := .cells #[.int .u8 a1_0, .int .u8 a1_1] 86 (0, 0)) (zqB BK598.out) hb); have n2_ := Aside0.mk (below_step (zqG HB.out GE598.out) hb); clear HO_5; clear BK598; clear HB; have HO_5 := n0_; have BK598 := n1_; have HB := n2_; clear n0_ n1_ n2_; (try clear hb); (try clear hb2); (try clear hk); (try clear hi))); try go_wp2_with (first | (go_at_call 19; (with_reducible refine (pump_Least.calls _ _ t599 (Int.tmod (wrap64 (a1_0)) 100) t608 t609 _ ?side1 ?side2 A21.out).mono ?_); (case side1 => repeat (first | exact (Kd.R_reads' HO_5.out).2.2 | (with_reducible refine Kd.C_alloc ?_ _) | (with_reducible refine Kd.C_drewN ?_ _) | (with_reducible refine Kd.C_drew ?_))); (case side2 => exact (Kd.R_reads' HO_5.out).2.1); rintro e w36 ⟨rfl, hb⟩; have n0_ := Aside0.mk (Kd.R_below (zqC HO_5.out) hb); have n1_ := Aside0.mk (blk_below (g := gb598) (o := .cells #[.int .u8 a1_0, .int .u8 a1_1] 86 (0, 0)) (zqB BK598.out) hb); have n2_ := Aside0.mk (below_step (zqG HB.out GE598.out) hb); clear HO_5; clear BK598; clear HB; have HO_5 := n0_; have BK598 := n1_; have HB := n2_; clear n0_ n1_ n2_; (try clear hb); (try clear hb2); (try clear hk); (try clear hi)) | (go_at_call 19; (with_reducible refine (pump_Least.calls _ _ t599 (Int.tmod (wrap64 (a1_1)) 100) t610 t611 _ ?side1 ?side2 A22.out).mono ?_); (case side1 => repeat (first | exact (Kd.R_reads' HO_5.out).2.2 | (with_reducible refine Kd.C_alloc ?_ _) | (with_reducible refine Kd.C_drewN ?_ _) | (with_reducible refine Kd.C_drew ?_))); (case side2 => exact (Kd.R_reads' HO_5.out).2.1); rintro e w37 ⟨rfl, hb⟩; have n0_ := Aside0.mk (Kd.R_below (zqC HO_5.out) hb); have n1_ := Aside0.mk (blk_below (g := gb598) (o := .cells #[.int .u8 a1_0, .int .u8 a1_1] 86 (0, 0)) (zqB BK598.out) hb); have n2_ := Aside0.mk (below_step (zqG HB.out GE598.out) hb); clear HO_5; clear BK598; clear HB; have HO_5 := n0_; have BK598 := n1_; have HB := n2_; clear n0_ n1_ n2_; (try clear hb); (try clear hb2); (try clear hk); (try clear hi)) | (go_at_call 19; (with_reducible refine (pump_Least.calls _ _ t599 (wrap64 ((Int.tmod (wrap64 (a1_0)) 100) + (Int.tmod (wrap64 (a1_1)) 100))) t612 t613 _ ?side1 ?side2 A23.out).mono ?_); (case side1 => repeat (first | exact (Kd.R_reads' HO_5.out).2.2 | (with_reducible refine Kd.C_alloc ?_ _) | (with_reducible refine Kd.C_drewN ?_ _) | (with_reducible refine Kd.C_drew ?_))); (case side2 => exact (Kd.R_reads' HO_5.out).2.1); rintro e w38 ⟨rfl, hb⟩; have n0_ := Aside0.mk (Kd.R_below (zqC HO_5.out) hb); have n1_ := Aside0.mk (blk_below (g := gb598) (o := .cells #[.int .u8 a1_0, .int .u8 a1_1] 86 (0, 0)) (zqB BK598.out) hb); have n2_ := Aside0.mk (below_step (zqG HB.out GE598.out) hb); clear HO_5; clear BK598; clear HB; have HO_5 := n0_; have BK598 := n1_; have HB := n2_; clear n0_ n1_ n2_; (try clear hb); (try clear hb2); (try clear hk); (try clear hi))))
       go_ret
       exact ⟨by first | rfl | (simp [errW_none, errW_some] <;> rfl) | (simp [*, errW_none, errW_some] <;> rfl), zqG HB.out GE598.out⟩
     ·
      rw [if_neg c25] at H
      have c25b0 : (t611 == 0) = false := beq_eq_false_iff_ne.mpr c25
      have c25b1 : (t611 != 0) = true := bne_iff_ne.mpr c25
      obtain rfl := Option.some.inj H
      go_wp2_with (first | (go_at_call 19; (with_reducible refine (pump_Least.calls _ _ t599 (Int.tmod (wrap64 (a1_0)) 100) t608 t609 _ ?side1 ?side2 A21.out).mono ?_); (case side1 => repeat (first | exact (Kd.R_reads' HO_5.out).2.2 | (with_reducible refine Kd.C_alloc ?_ _) | (with_reducible refine Kd.C_drewN ?_ _) | (with_reducible refine Kd.C_drew ?_))); (case side2 => exact (Kd.R_reads' HO_5.out).2.1); rintro e w39 ⟨rfl, hb⟩; have n0_ := Aside0.mk (Kd.R_below (zqC HO_5.out) hb); have n1_ := Aside0.mk (blk_below (g := gb598) (o := .cells #[.int .u8 a1_0, .int .u8 a1_1] 86 (0, 0)) (zqB BK598.out) hb); have n2_ := Aside0.mk (below_step (zqG HB.out GE598.out) hb); clear HO_5; clear BK598; clear HB; have HO_5 := n0_; have BK598 := n1_; have HB := n2_; clear n0_ n1_ n2_; (try clear hb); (try clear hb2); (try clear hk); (try clear hi)) | (go_at_call 19; (with_reducible refine (pump_Least.calls _ _ t599 (Int.tmod (wrap64 (a1_1)) 100) t610 t611 _ ?side1 ?side2 A22.out).mono ?_); (case side1 => repeat (first | exact (Kd.R_reads' HO_5.out).2.2 | (with_reducible refine Kd.C_alloc ?_ _) | (with_reducible refine Kd.C_drewN ?_ _) | (with_reducible refine Kd.C_drew ?_))); (case side2 => exact (Kd.R_reads' HO_5.out).2.1); rintro e w40 ⟨rfl, hb⟩; have n0_ := Aside0.mk (Kd.R_below (zqC HO_5.out) hb); have n1_ := Aside0.mk (blk_below (g := gb598) (o := .cells #[.int .u8 a1_0, .int .u8 a1_1] 86 (0, 0)) (zqB BK598.out) hb); have n2_ := Aside0.mk (below_step (zqG HB.out GE598.out) hb); clear HO_5; clear BK598; clear HB; have HO_5 := n0_; have BK598 := n1_; have HB := n2_; clear n0_ n1_ n2_; (try clear hb); (try clear hb2); (try clear hk); (try clear hi)) | (go_at_call 19; (with_reducible refine (pump_Least.calls _ _ t599 (wrap64 ((Int.tmod (wrap64 (a1_0)) 100) + (Int.tmod (wrap64 (a1_1)) 100))) t612 t613 _ ?side1 ?side2 A23.out).mono ?_); (case side1 => repeat (first | exact (Kd.R_reads' HO_5.out).2.2 | (with_reducible refine Kd.C_alloc ?_ _) | (with_reducible refine Kd.C_drewN ?_ _) | (with_reducible refine Kd.C_drew ?_))); (case side2 => exact (Kd.R_reads' HO_5.out).2.1); rintro e w41 ⟨rfl, hb⟩; have n0_ := Aside0.mk (Kd.R_below (zqC HO_5.out) hb); have n1_ := Aside0.mk (blk_below (g := gb598) (o := .cells #[.int .u8 a1_0, .int .u8 a1_1] 86 (0, 0)) (zqB BK598.out) hb); have n2_ := Aside0.mk (below_step (zqG HB.out GE598.out) hb); clear HO_5; clear BK598; clear HB; have HO_5 := n0_; have BK598 := n1_; have HB := n2_; clear n0_ n1_ n2_; (try clear hb); (try clear hb2); (try clear hk); (try clear hi)))
      repeat (go_quiet (first | (go_at_call 19; (with_reducible refine (pump_Least.calls _ _ t599 (Int.tmod (wrap64 (a1_0)) 100) t608 t609 _ ?side1 ?side2 A21.out).mono ?_); (case side1 => repeat (first | exact (Kd.R_reads' HO_5.out).2.2 | (with_reducible refine Kd.C_alloc ?_ _) | (with_reducible refine Kd.C_drewN ?_ _) | (with_reducible refine Kd.C_drew ?_))); (case side2 => exact (Kd.R_reads' HO_5.out).2.1); rintro e w39 ⟨rfl, hb⟩; have n0_ := Aside0.mk (Kd.R_below (zqC HO_5.out) hb); have n1_ := Aside0.mk (blk_below (g := gb598) (o := .cells #[.int .u8 a1_0, .int .u8 a1_1] 86 (0, 0)) (zqB BK598.out) hb); have n2_ := Aside0.mk (below_step (zqG HB.out GE598.out) hb); clear HO_5; clear BK598; clear HB; have HO_5 := n0_; have BK598 := n1_; have HB := n2_; clear n0_ n1_ n2_; (try clear hb); (try clear hb2); (try clear hk); (try clear hi)) | (go_at_call 19; (with_reducible refine (pump_Least.calls _ _ t599 (Int.tmod (wrap64 (a1_1)) 100) t610 t611 _ ?side1 ?side2 A22.out).mono ?_); (case side1 => repeat (first | exact (Kd.R_reads' HO_5.out).2.2 | (with_reducible refine Kd.C_alloc ?_ _) | (with_reducible refine Kd.C_drewN ?_ _) | (with_reducible refine Kd.C_drew ?_))); (case side2 => exact (Kd.R_reads' HO_5.out).2.1); rintro e w40 ⟨rfl, hb⟩; have n0_ := Aside0.mk (Kd.R_below (zqC HO_5.out) hb); have n1_ := Aside0.mk (blk_below (g := gb598) (o := .cells #[.int .u8 a1_0, .int .u8 a1_1] 86 (0, 0)) (zqB BK598.out) hb); have n2_ := Aside0.mk (below_step (zqG HB.out GE598.out) hb); clear HO_5; clear BK598; clear HB; have HO_5 := n0_; have BK598 := n1_; have HB := n2_; clear n0_ n1_ n2_; (try clear hb); (try clear hb2); (try clear hk); (try clear hi)) | (go_at_call 19; (with_reducible refine (pump_Least.calls _ _ t599 (wrap64 ((Int.tmod (wrap64 (a1_0)) 100) + (Int.tmod (wrap64 (a1_1)) 100))) t612 t613 _ ?side1 ?side2 A23.out).mono ?_); (case side1 => repeat (first | exact (Kd.R_reads' HO_5.out).2.2 | (with_reducible refine Kd.C_alloc ?_ _) | (with_reducible refine Kd.C_drewN ?_ _) | (with_reducible refine Kd.C_drew ?_))); (case side2 => exact (Kd.R_reads' HO_5.out).2.1); rintro e w41 ⟨rfl, hb⟩; have n0_ := Aside0.mk (Kd.R_below (zqC HO_5.out) hb); have n1_ := Aside0.mk (blk_below (g := gb598) (o := .cells #[.int .u8 a1_0, .int .u8 a1_1] 86 (0, 0)) (zqB BK598.out) hb); have n2_ := Aside0.mk (below_step (zqG HB.out GE598.out) hb); clear HO_5; clear BK598; clear HB; have HO_5 := n0_; have BK598 := n1_; have HB := n2_; clear n0_ n1_ n2_; (try clear hb); (try clear hb2); (try clear hk); (try clear hi))); try go_wp2_with (first | (go_at_call 19; (with_reducible refine (pump_Least.calls _ _ t599 (Int.tmod (wrap64 (a1_0)) 100) t608 t609 _ ?side1 ?side2 A21.out).mono ?_); (case side1 => repeat (first | exact (Kd.R_reads' HO_5.out).2.2 | (with_reducible refine Kd.C_alloc ?_ _) | (with_reducible refine Kd.C_drewN ?_ _) | (with_reducible refine Kd.C_drew ?_))); (case side2 => exact (Kd.R_reads' HO_5.out).2.1); rintro e w39 ⟨rfl, hb⟩; have n0_ := Aside0.mk (Kd.R_below (zqC HO_5.out) hb); have n1_ := Aside0.mk (blk_below (g := gb598) (o := .cells #[.int .u8 a1_0, .int .u8 a1_1] 86 (0, 0)) (zqB BK598.out) hb); have n2_ := Aside0.mk (below_step (zqG HB.out GE598.out) hb); clear HO_5; clear BK598; clear HB; have HO_5 := n0_; have BK598 := n1_; have HB := n2_; clear n0_ n1_ n2_; (try clear hb); (try clear hb2); (try clear hk); (try clear hi)) | (go_at_call 19; (with_reducible refine (pump_Least.calls _ _ t599 (Int.tmod (wrap64 (a1_1)) 100) t610 t611 _ ?side1 ?side2 A22.out).mono ?_); (case side1 => repeat (first | exact (Kd.R_reads' HO_5.out).2.2 | (with_reducible refine Kd.C_alloc ?_ _) | (with_reducible refine Kd.C_drewN ?_ _) | (with_reducible refine Kd.C_drew ?_))); (case side2 => exact (Kd.R_reads' HO_5.out).2.1); rintro e w40 ⟨rfl, hb⟩; have n0_ := Aside0.mk (Kd.R_below (zqC HO_5.out) hb); have n1_ := Aside0.mk (blk_below (g := gb598) (o := .cells #[.int .u8 a1_0, .int .u8 a1_1] 86 (0, 0)) (zqB BK598.out) hb); have n2_ := Aside0.mk (below_step (zqG HB.out GE598.out) hb); clear HO_5; clear BK598; clear HB; have HO_5 := n0_; have BK598 := n1_; have HB := n2_; clear n0_ n1_ n2_; (try clear hb); (try clear hb2); (try clear hk); (try clear hi)) | (go_at_call 19; (with_reducible refine (pump_Least.calls _ _ t599 (wrap64 ((Int.tmod (wrap64 (a1_0)) 100) + (Int.tmod (wrap64 (a1_1)) 100))) t612 t613 _ ?side1 ?side2 A23.out).mono ?_); (case side1 => repeat (first | exact (Kd.R_reads' HO_5.out).2.2 | (with_reducible refine Kd.C_alloc ?_ _) | (with_reducible refine Kd.C_drewN ?_ _) | (with_reducible refine Kd.C_drew ?_))); (case side2 => exact (Kd.R_reads' HO_5.out).2.1); rintro e w41 ⟨rfl, hb⟩; have n0_ := Aside0.mk (Kd.R_below (zqC HO_5.out) hb); have n1_ := Aside0.mk (blk_below (g := gb598) (o := .cells #[.int .u8 a1_0, .int .u8 a1_1] 86 (0, 0)) (zqB BK598.out) hb); have n2_ := Aside0.mk (below_step (zqG HB.out GE598.out) hb); clear HO_5; clear BK598; clear HB; have HO_5 := n0_; have BK598 := n1_; have HB := n2_; clear n0_ n1_ n2_; (try clear hb); (try clear hb2); (try clear hk); (try clear hi))))
      go_ret
      exact ⟨by first | rfl | (simp [errW_none, errW_some] <;> rfl) | (simp [*, errW_none, errW_some] <;> rfl), zqG HB.out GE598.out⟩
    ·
     rw [if_neg c24] at H
     have c24b0 : (t609 == 0) = false := beq_eq_false_iff_ne.mpr c24
     have c24b1 : (t609 != 0) = true := bne_iff_ne.mpr c24
     obtain rfl := Option.some.inj H
     go_wp2_with (first | (go_at_call 19; (with_reducible refine (pump_Least.calls _ _ t599 (Int.tmod (wrap64 (a1_0)) 100) t608 t609 _ ?side1 ?side2 A21.out).mono ?_); (case side1 => repeat (first | exact (Kd.R_reads' HO_5.out).2.2 | (with_reducible refine Kd.C_alloc ?_ _) | (with_reducible refine Kd.C_drewN ?_ _) | (with_reducible refine Kd.C_drew ?_))); (case side2 => exact (Kd.R_reads' HO_5.out).2.1); rintro e w42 ⟨rfl, hb⟩; have n0_ := Aside0.mk (Kd.R_below (zqC HO_5.out) hb); have n1_ := Aside0.mk (blk_below (g := gb598) (o := .cells #[.int .u8 a1_0, .int .u8 a1_1] 86 (0, 0)) (zqB BK598.out) hb); have n2_ := Aside0.mk (below_step (zqG HB.out GE598.out) hb); clear HO_5; clear BK598; clear HB; have HO_5 := n0_; have BK598 := n1_; have HB := n2_; clear n0_ n1_ n2_; (try clear hb); (try clear hb2); (try clear hk); (try clear hi)) | (go_at_call 19; (with_reducible refine (pump_Least.calls _ _ t599 (Int.tmod (wrap64 (a1_1)) 100) t610 t611 _ ?side1 ?side2 A22.out).mono ?_); (case side1 => repeat (first | exact (Kd.R_reads' HO_5.out).2.2 | (with_reducible refine Kd.C_alloc ?_ _) | (with_reducible refine Kd.C_drewN ?_ _) | (with_reducible refine Kd.C_drew ?_))); (case side2 => exact (Kd.R_reads' HO_5.out).2.1); rintro e w43 ⟨rfl, hb⟩; have n0_ := Aside0.mk (Kd.R_below (zqC HO_5.out) hb); have n1_ := Aside0.mk (blk_below (g := gb598) (o := .cells #[.int .u8 a1_0, .int .u8 a1_1] 86 (0, 0)) (zqB BK598.out) hb); have n2_ := Aside0.mk (below_step (zqG HB.out GE598.out) hb); clear HO_5; clear BK598; clear HB; have HO_5 := n0_; have BK598 := n1_; have HB := n2_; clear n0_ n1_ n2_; (try clear hb); (try clear hb2); (try clear hk); (try clear hi)) | (go_at_call 19; (with_reducible refine (pump_Least.calls _ _ t599 (wrap64 ((Int.tmod (wrap64 (a1_0)) 100) + (Int.tmod (wrap64 (a1_1)) 100))) t612 t613 _ ?side1 ?side2 A23.out).mono ?_); (case side1 => repeat (first | exact (Kd.R_reads' HO_5.out).2.2 | (with_reducible refine Kd.C_alloc ?_ _) | (with_reducible refine Kd.C_drewN ?_ _) | (with_reducible refine Kd.C_drew ?_))); (case side2 => exact (Kd.R_reads' HO_5.out).2.1); rintro e w44 ⟨rfl, hb⟩; have n0_ := Aside0.mk (Kd.R_below (zqC HO_5.out) hb); have n1_ := Aside0.mk (blk_below (g := gb598) (o := .cells #[.int .u8 a1_0, .int .u8 a1_1] 86 (0, 0)) (zqB BK598.out) hb); have n2_ := Aside0.mk (below_step (zqG HB.out GE598.out) hb); clear HO_5; clear BK598; clear HB; have HO_5 := n0_; have BK598 := n1_; have HB := n2_; clear n0_ n1_ n2_; (try clear hb); (try clear hb2); (try clear hk); (try clear hi)))
     repeat (go_quiet (first | (go_at_call 19; (with_reducible refine (pump_Least.calls _ _ t599 (Int.tmod (wrap64 (a1_0)) 100) t608 t609 _ ?side1 ?side2 A21.out).mono ?_); (case side1 => repeat (first | exact (Kd.R_reads' HO_5.out).2.2 | (with_reducible refine Kd.C_alloc ?_ _) | (with_reducible refine Kd.C_drewN ?_ _) | (with_reducible refine Kd.C_drew ?_))); (case side2 => exact (Kd.R_reads' HO_5.out).2.1); rintro e w42 ⟨rfl, hb⟩; have n0_ := Aside0.mk (Kd.R_below (zqC HO_5.out) hb); have n1_ := Aside0.mk (blk_below (g := gb598) (o := .cells #[.int .u8 a1_0, .int .u8 a1_1] 86 (0, 0)) (zqB BK598.out) hb); have n2_ := Aside0.mk (below_step (zqG HB.out GE598.out) hb); clear HO_5; clear BK598; clear HB; have HO_5 := n0_; have BK598 := n1_; have HB := n2_; clear n0_ n1_ n2_; (try clear hb); (try clear hb2); (try clear hk); (try clear hi)) | (go_at_call 19; (with_reducible refine (pump_Least.calls _ _ t599 (Int.tmod (wrap64 (a1_1)) 100) t610 t611 _ ?side1 ?side2 A22.out).mono ?_); (case side1 => repeat (first | exact (Kd.R_reads' HO_5.out).2.2 | (with_reducible refine Kd.C_alloc ?_ _) | (with_reducible refine Kd.C_drewN ?_ _) | (with_reducible refine Kd.C_drew ?_))); (case side2 => exact (Kd.R_reads' HO_5.out).2.1); rintro e w43 ⟨rfl, hb⟩; have n0_ := Aside0.mk (Kd.R_below (zqC HO_5.out) hb); have n1_ := Aside0.mk (blk_below (g := gb598) (o := .cells #[.int .u8 a1_0, .int .u8 a1_1] 86 (0, 0)) (zqB BK598.out) hb); have n2_ := Aside0.mk (below_step (zqG HB.out GE598.out) hb); clear HO_5; clear BK598; clear HB; have HO_5 := n0_; have BK598 := n1_; have HB := n2_; clear n0_ n1_ n2_; (try clear hb); (try clear hb2); (try clear hk); (try clear hi)) | (go_at_call 19; (with_reducible refine (pump_Least.calls _ _ t599 (wrap64 ((Int.tmod (wrap64 (a1_0)) 100) + (Int.tmod (wrap64 (a1_1)) 100))) t612 t613 _ ?side1 ?side2 A23.out).mono ?_); (case side1 => repeat (first | exact (Kd.R_reads' HO_5.out).2.2 | (with_reducible refine Kd.C_alloc ?_ _) | (with_reducible refine Kd.C_drewN ?_ _) | (with_reducible refine Kd.C_drew ?_))); (case side2 => exact (Kd.R_reads' HO_5.out).2.1); rintro e w44 ⟨rfl, hb⟩; have n0_ := Aside0.mk (Kd.R_below (zqC HO_5.out) hb); have n1_ := Aside0.mk (blk_below (g := gb598) (o := .cells #[.int .u8 a1_0, .int .u8 a1_1] 86 (0, 0)) (zqB BK598.out) hb); have n2_ := Aside0.mk (below_step (zqG HB.out GE598.out) hb); clear HO_5; clear BK598; clear HB; have HO_5 := n0_; have BK598 := n1_; have HB := n2_; clear n0_ n1_ n2_; (try clear hb); (try clear hb2); (try clear hk); (try clear hi))); try go_wp2_with (first | (go_at_call 19; (with_reducible refine (pump_Least.calls _ _ t599 (Int.tmod (wrap64 (a1_0)) 100) t608 t609 _ ?side1 ?side2 A21.out).mono ?_); (case side1 => repeat (first | exact (Kd.R_reads' HO_5.out).2.2 | (with_reducible refine Kd.C_alloc ?_ _) | (with_reducible refine Kd.C_drewN ?_ _) | (with_reducible refine Kd.C_drew ?_))); (case side2 => exact (Kd.R_reads' HO_5.out).2.1); rintro e w42 ⟨rfl, hb⟩; have n0_ := Aside0.mk (Kd.R_below (zqC HO_5.out) hb); have n1_ := Aside0.mk (blk_below (g := gb598) (o := .cells #[.int .u8 a1_0, .int .u8 a1_1] 86 (0, 0)) (zqB BK598.out) hb); have n2_ := Aside0.mk (below_step (zqG HB.out GE598.out) hb); clear HO_5; clear BK598; clear HB; have HO_5 := n0_; have BK598 := n1_; have HB := n2_; clear n0_ n1_ n2_; (try clear hb); (try clear hb2); (try clear hk); (try clear hi)) | (go_at_call 19; (with_reducible refine (pump_Least.calls _ _ t599 (Int.tmod (wrap64 (a1_1)) 100) t610 t611 _ ?side1 ?side2 A22.out).mono ?_); (case side1 => repeat (first | exact (Kd.R_reads' HO_5.out).2.2 | (with_reducible refine Kd.C_alloc ?_ _) | (with_reducible refine Kd.C_drewN ?_ _) | (with_reducible refine Kd.C_drew ?_))); (case side2 => exact (Kd.R_reads' HO_5.out).2.1); rintro e w43 ⟨rfl, hb⟩; have n0_ := Aside0.mk (Kd.R_below (zqC HO_5.out) hb); have n1_ := Aside0.mk (blk_below (g := gb598) (o := .cells #[.int .u8 a1_0, .int .u8 a1_1] 86 (0, 0)) (zqB BK598.out) hb); have n2_ := Aside0.mk (below_step (zqG HB.out GE598.out) hb); clear HO_5; clear BK598; clear HB; have HO_5 := n0_; have BK598 := n1_; have HB := n2_; clear n0_ n1_ n2_; (try clear hb); (try clear hb2); (try clear hk); (try clear hi)) | (go_at_call 19; (with_reducible refine (pump_Least.calls _ _ t599 (wrap64 ((Int.tmod (wrap64 (a1_0)) 100) + (Int.tmod (wrap64 (a1_1)) 100))) t612 t613 _ ?side1 ?side2 A23.out).mono ?_); (case side1 => repeat (first | exact (Kd.R_reads' HO_5.out).2.2 | (with_reducible refine Kd.C_alloc ?_ _) | (with_reducible refine Kd.C_drewN ?_ _) | (with_reducible refine Kd.C_drew ?_))); (case side2 => exact (Kd.R_reads' HO_5.out).2.1); rintro e w44 ⟨rfl, hb⟩; have n0_ := Aside0.mk (Kd.R_below (zqC HO_5.out) hb); have n1_ := Aside0.mk (blk_below (g := gb598) (o := .cells #[.int .u8 a1_0, .int .u8 a1_1] 86 (0, 0)) (zqB BK598.out) hb); have n2_ := Aside0.mk (below_step (zqG HB.out GE598.out) hb); clear HO_5; clear BK598; clear HB; have HO_5 := n0_; have BK598 := n1_; have HB := n2_; clear n0_ n1_ n2_; (try clear hb); (try clear hb2); (try clear hk); (try clear hi))))
     go_ret
     exact ⟨by first | rfl | (simp [errW_none, errW_some] <;> rfl) | (simp [*, errW_none, errW_some] <;> rfl), zqG HB.out GE598.out⟩
end Go.Proofs.Ythoeindopljmkaa.P
end
section
namespace Pm
abbrev B2 := Int × Int
structure Bds (L : List B2) : Prop where
  ne : L ≠ []
  t : ∀ b ∈ L, 1 ≤ b.1 ∧ b.1 ≤ 100
  a : ∀ b ∈ L, 0 ≤ b.2 ∧ b.2 ≤ 1000000
def minFrom (f : B2 → Int) : List B2 → Int → Int → Int → Int × Int
  | [], _, s, k => (s, k)
  | b :: l, i, s, k => if i = 0 ∨ f b < s then minFrom f l (i + 1) (f b) i else minFrom f l (i + 1) s k
def maxFrom (n : Int) (f : B2 → Int) : List B2 → Int → Int → Int → Int × Int
  | [], _, s, k => (s, k)
  | b :: l, i, s, k => if b.1 ≤ n ∧ f b > s then maxFrom n f l (i + 1) (f b) i else maxFrom n f l (i + 1) s k
theorem minFrom_le (f : B2 → Int) : ∀ (l : List B2) (i s k : Int), 0 < i → (minFrom f l i s k).1 ≤ s ∧ ∀ b ∈ l, (minFrom f l i s k).1 ≤ f b
  | [], _, s, k, _ => ⟨Int.le_refl _, fun _ h => by cases h⟩
  | b :: l, i, s, k, hi => by
    unfold minFrom
    by_cases c : i = 0 ∨ f b < s
    · rw [if_pos c]
      obtain ⟨h1, h2⟩ := minFrom_le f l (i + 1) (f b) i (by omega)
      refine ⟨by omega, fun x hx => ?_⟩
      cases hx with
      | head => exact h1
      | tail _ hx => exact h2 x hx
    · rw [if_neg c]
      obtain ⟨h1, h2⟩ := minFrom_le f l (i + 1) s k (by omega)
      refine ⟨h1, fun x hx => ?_⟩
      cases hx with
      | head => omega
      | tail _ hx => exact h2 x hx
theorem minFrom_at (f : B2 → Int) : ∀ (l pre : List B2) (s k : Int), (k = -1 ∧ pre = [] ∨ ∃ j : Nat, k = j ∧ ∃ b, (pre ++ l)[j]? = some b ∧ j < pre.length ∧ f b = s) →
    (minFrom f l (pre.length : Int) s k = (s, k) ∧ l = [] ∧ pre = []) ∨ ∃ j : Nat, (minFrom f l (pre.length : Int) s k).2 = j ∧ ∃ b, (pre ++ l)[j]? = some b ∧ f b = (minFrom f l (pre.length : Int) s k).1
  | [], pre, s, k, h => by
    rcases h with ⟨h1, h2⟩ | ⟨j, hj, b, hb, _, hf⟩
    · exact .inl ⟨rfl, rfl, h2⟩
    · exact .inr ⟨j, hj, b, hb, hf⟩
  | b :: l, pre, s, k, h => by
    have e : pre ++ b :: l = (pre ++ [b]) ++ l := by simp
    have el : ((pre ++ [b]).length : Int) = (pre.length : Int) + 1 := by simp
    unfold minFrom
    by_cases c : (pre.length : Int) = 0 ∨ f b < s
    · rw [if_pos c, ← el, e]
      rcases minFrom_at f l (pre ++ [b]) (f b) pre.length (.inr ⟨pre.length, rfl, b, by simp, by simp, rfl⟩) with ⟨_, _, h3⟩ | h
      · simp at h3
      · exact .inr h
    · rw [if_neg c, ← el, e]
      rcases h with ⟨h1, h2⟩ | ⟨j, hj, x, hx, hlt, hf⟩
      · exact absurd (.inl (by rw [h2]; rfl)) c
      · rcases minFrom_at f l (pre ++ [b]) s k (.inr ⟨j, hj, x, by rw [← e]; exact hx, by simp; omega, hf⟩) with ⟨_, _, h3⟩ | h
        · simp at h3
        · exact .inr h
theorem maxFrom_le (n : Int) (f : B2 → Int) : ∀ (l : List B2) (i s k : Int), s ≤ (maxFrom n f l i s k).1 ∧ ∀ b ∈ l, b.1 ≤ n → f b ≤ (maxFrom n f l i s k).1
  | [], _, s, k => ⟨Int.le_refl _, fun _ h => by cases h⟩
  | b :: l, i, s, k => by
    unfold maxFrom
    by_cases c : b.1 ≤ n ∧ f b > s
    · rw [if_pos c]
      obtain ⟨h1, h2⟩ := maxFrom_le n f l (i + 1) (f b) i
      refine ⟨by omega, fun x hx hn => ?_⟩
      cases hx with
      | head => exact h1
      | tail _ hx => exact h2 x hx hn
    · rw [if_neg c]
      obtain ⟨h1, h2⟩ := maxFrom_le n f l (i + 1) s k
      refine ⟨h1, fun x hx hn => ?_⟩
      cases hx with
      | head => omega
      | tail _ hx => exact h2 x hx hn
theorem maxFrom_at (n : Int) (f : B2 → Int) : ∀ (l pre : List B2) (s0 s k : Int), (k = -1 ∧ s = s0 ∨ ∃ j : Nat, k = j ∧ ∃ b, (pre ++ l)[j]? = some b ∧ f b = s ∧ b.1 ≤ n) →
    ((maxFrom n f l (pre.length : Int) s k).2 = -1 ∧ (maxFrom n f l (pre.length : Int) s k).1 = s0) ∨ ∃ j : Nat, (maxFrom n f l (pre.length : Int) s k).2 = j ∧ ∃ b, (pre ++ l)[j]? = some b ∧ f b = (maxFrom n f l (pre.length : Int) s k).1 ∧ b.1 ≤ n
  | [], pre, s0, s, k, h => by
    rcases h with ⟨h1, h2⟩ | ⟨j, hj, b, hb, hf, hn⟩
    · exact .inl ⟨h1, h2⟩
    · exact .inr ⟨j, hj, b, hb, hf, hn⟩
  | b :: l, pre, s0, s, k, h => by
    have e : pre ++ b :: l = (pre ++ [b]) ++ l := by simp
    have el : ((pre ++ [b]).length : Int) = (pre.length : Int) + 1 := by simp
    unfold maxFrom
    by_cases c : b.1 ≤ n ∧ f b > s
    · rw [if_pos c, ← el, e]
      exact maxFrom_at n f l (pre ++ [b]) s0 (f b) pre.length (.inr ⟨pre.length, rfl, b, by simp, rfl, c.1⟩)
    · rw [if_neg c, ← el, e]
      exact maxFrom_at n f l (pre ++ [b]) s0 s k (by rw [← e]; exact h)
def stepM (L : List B2) (s : List Int) : Int × Int := minFrom (fun b => s.getD (max 0 ((s.length : Int) - b.1)).toNat 0 + b.2) L 0 0 0
def stepL (L : List B2) (s : List Int) : Int × Int := maxFrom (s.length : Int) (fun b => s.getD ((s.length : Int) - b.1).toNat 0 + b.2) L 0 (s.getD (s.length - 1) 0) (-1)
def tabF (R : List Int → Int × Int) : Nat → List Int × List Int
  | 0 => ([0], [-1])
  | n + 1 => ((tabF R n).1 ++ [(R (tabF R n).1).1], (tabF R n).2 ++ [(R (tabF R n).1).2])
theorem tabF_len (R : List Int → Int × Int) : ∀ n, (tabF R n).1.length = n + 1 ∧ (tabF R n).2.length = n + 1
  | 0 => ⟨rfl, rfl⟩
  | n + 1 => by
    obtain ⟨h1, h2⟩ := tabF_len R n
    simp [tabF, h1, h2]
def valF (R : List Int → Int × Int) (n : Nat) : Int := (tabF R n).1.getD n 0
def lastF (R : List Int → Int × Int) (n : Nat) : Int := (tabF R n).2.getD n 0
theorem tabF_get (R : List Int → Int × Int) : ∀ (n m : Nat), m ≤ n → (tabF R n).1.getD m 0 = valF R m ∧ (tabF R n).2.getD m 0 = lastF R m
  | 0, m, h => by
    have : m = 0 := by omega
    subst this
    exact ⟨rfl, rfl⟩
  | n + 1, m, h => by
    by_cases c : m = n + 1
    · subst c; exact ⟨rfl, rfl⟩
    · obtain ⟨h1, h2⟩ := tabF_get R n m (by omega)
      obtain ⟨l1, l2⟩ := tabF_len R n
      simp only [tabF]
      rw [List.getD_eq_getElem?_getD, List.getElem?_append_left (by omega), ← List.getD_eq_getElem?_getD, h1, List.getD_eq_getElem?_getD, List.getElem?_append_left (by omega), ← List.getD_eq_getElem?_getD, h2]
      exact ⟨rfl, rfl⟩
theorem valF_succ (R : List Int → Int × Int) (n : Nat) : valF R (n + 1) = (R (tabF R n).1).1 ∧ lastF R (n + 1) = (R (tabF R n).1).2 := by
  obtain ⟨l1, l2⟩ := tabF_len R n
  unfold valF lastF
  simp only [tabF]
  rw [List.getD_eq_getElem?_getD, List.getElem?_append_right (by omega), List.getD_eq_getElem?_getD, List.getElem?_append_right (by omega), l1, l2]
  simp
def mst (L : List B2) : Nat → Int := valF (stepM L)
def lst (L : List B2) : Nat → Int := valF (stepL L)
section
variable {L : List B2} (h : Bds L)
include h
theorem mst_spec (n : Nat) : (∀ b ∈ L, mst L (n + 1) ≤ mst L (n + 1 - b.1.toNat) + b.2) ∧ ∃ j : Nat, lastF (stepM L) (n + 1) = j ∧ ∃ b, L[j]? = some b ∧ mst L (n + 1) = mst L (n + 1 - b.1.toNat) + b.2 := by
  obtain ⟨l1, _⟩ := tabF_len (stepM L) n
  have hg : ∀ b ∈ L, (tabF (stepM L) n).1.getD (max 0 (((tabF (stepM L) n).1.length : Int) - b.1)).toNat 0 = mst L (n + 1 - b.1.toNat) := by
    intro b hb
    have := h.t b hb
    rw [show (max 0 (((tabF (stepM L) n).1.length : Int) - b.1)).toNat = n + 1 - b.1.toNat by omega]
    exact (tabF_get (stepM L) n _ (by omega)).1
  have hv := valF_succ (stepM L) n
  have hne := h.ne
  constructor
  · intro b hb
    show valF (stepM L) (n + 1) ≤ _
    rw [hv.1, ← hg b hb]
    unfold stepM
    cases L with
    | nil => exact absurd rfl hne
    | cons c l =>
      unfold minFrom
      rw [if_pos (.inl rfl)]
      obtain ⟨m1, m2⟩ := minFrom_le (fun b => (tabF (stepM (c :: l)) n).1.getD (max 0 (((tabF (stepM (c :: l)) n).1.length : Int) - b.1)).toNat 0 + b.2) l (0 + 1) ((tabF (stepM (c :: l)) n).1.getD (max 0 (((tabF (stepM (c :: l)) n).1.length : Int) - c.1)).toNat 0 + c.2) 0 (by omega)
      cases hb with
      | head => exact m1
      | tail _ hb => exact m2 b hb
  · rw [hv.2]
    show ∃ j : Nat, _ ∧ ∃ b, _ ∧ valF (stepM L) (n + 1) = _
    rw [hv.1]
    have := minFrom_at (fun b => (tabF (stepM L) n).1.getD (max 0 (((tabF (stepM L) n).1.length : Int) - b.1)).toNat 0 + b.2) L [] 0 0
    unfold stepM
    cases L with
    | nil => exact absurd rfl hne
    | cons c l =>
      unfold minFrom
      rw [if_pos (.inl rfl)]
      rcases minFrom_at (fun b => (tabF (stepM (c :: l)) n).1.getD (max 0 (((tabF (stepM (c :: l)) n).1.length : Int) - b.1)).toNat 0 + b.2) l [c] ((tabF (stepM (c :: l)) n).1.getD (max 0 (((tabF (stepM (c :: l)) n).1.length : Int) - c.1)).toNat 0 + c.2) 0 (.inr ⟨0, rfl, c, rfl, by simp, rfl⟩) with ⟨_, _, h3⟩ | ⟨j, hj, b, hb, hf⟩
      · simp at h3
      · refine ⟨j, hj, b, hb, ?_⟩
        rw [← hg b (List.mem_of_getElem? hb)]
        exact hf.symm
theorem lst_spec (n : Nat) : lst L n ≤ lst L (n + 1) ∧ (∀ b ∈ L, b.1 ≤ (n : Int) + 1 → lst L (n + 1 - b.1.toNat) + b.2 ≤ lst L (n + 1)) ∧
    ((lastF (stepL L) (n + 1) = -1 ∧ lst L (n + 1) = lst L n) ∨ ∃ j : Nat, lastF (stepL L) (n + 1) = j ∧ ∃ b, L[j]? = some b ∧ b.1 ≤ (n : Int) + 1 ∧ lst L (n + 1) = lst L (n + 1 - b.1.toNat) + b.2) := by
  obtain ⟨l1, _⟩ := tabF_len (stepL L) n
  have hg : ∀ b ∈ L, b.1 ≤ (n : Int) + 1 → (tabF (stepL L) n).1.getD (((tabF (stepL L) n).1.length : Int) - b.1).toNat 0 = lst L (n + 1 - b.1.toNat) := by
    intro b hb hn
    have := h.t b hb
    rw [show (((tabF (stepL L) n).1.length : Int) - b.1).toNat = n + 1 - b.1.toNat by omega]
    exact (tabF_get (stepL L) n _ (by omega)).1
  have h0 : (tabF (stepL L) n).1.getD ((tabF (stepL L) n).1.length - 1) 0 = lst L n := by
    rw [l1]
    exact (tabF_get (stepL L) n n (by omega)).1
  have hv := valF_succ (stepL L) n
  have hm := maxFrom_le ((tabF (stepL L) n).1.length : Int) (fun b => (tabF (stepL L) n).1.getD (((tabF (stepL L) n).1.length : Int) - b.1).toNat 0 + b.2) L 0 ((tabF (stepL L) n).1.getD ((tabF (stepL L) n).1.length - 1) 0) (-1)
  have ha := maxFrom_at ((tabF (stepL L) n).1.length : Int) (fun b => (tabF (stepL L) n).1.getD (((tabF (stepL L) n).1.length : Int) - b.1).toNat 0 + b.2) L [] ((tabF (stepL L) n).1.getD ((tabF (stepL L) n).1.length - 1) 0) ((tabF (stepL L) n).1.getD ((tabF (stepL L) n).1.length - 1) 0) (-1) (.inl ⟨rfl, rfl⟩)
  have ev : lst L (n + 1) = (stepL L (tabF (stepL L) n).1).1 := hv.1
  have el : lastF (stepL L) (n + 1) = (stepL L (tabF (stepL L) n).1).2 := hv.2
  have es : stepL L (tabF (stepL L) n).1 = maxFrom ((tabF (stepL L) n).1.length : Int) (fun b => (tabF (stepL L) n).1.getD (((tabF (stepL L) n).1.length : Int) - b.1).toNat 0 + b.2) L 0 ((tabF (stepL L) n).1.getD ((tabF (stepL L) n).1.length - 1) 0) (-1) := rfl
  rw [es] at ev el
  simp only [List.length_nil] at ha
  rw [show ((0 : Nat) : Int) = 0 from rfl, ← ev, ← el] at ha
  rw [← ev] at hm
  rw [h0] at hm ha
  refine ⟨hm.1, fun b hb hn => ?_, ?_⟩
  · have := hm.2 b hb (by rw [l1]; omega)
    rw [hg b hb hn] at this
    exact this
  · rcases ha with ⟨h1, h2⟩ | ⟨j, hj, b, hb, hf, hn⟩
    · exact .inl ⟨h1, h2⟩
    · have hb' : L[j]? = some b := hb
      have hn' : b.1 ≤ (n : Int) + 1 := by rw [l1] at hn; omega
      refine .inr ⟨j, hj, b, hb', hn', ?_⟩
      rw [← hf]
      rw [hg b (List.mem_of_getElem? hb') hn']
theorem mst_nonneg : ∀ n, 0 ≤ mst L n := by
  intro n
  induction n using Nat.strongRecOn with
  | _ n ih =>
    cases n with
    | zero => exact Int.le_refl _
    | succ n =>
      obtain ⟨_, j, _, b, hb, e⟩ := mst_spec h n
      have hbm := List.mem_of_getElem? hb
      have := h.t b hbm
      have := h.a b hbm
      have := ih (n + 1 - b.1.toNat) (by omega)
      omega
theorem mst_step : ∀ n, mst L n ≤ mst L (n + 1) := by
  intro n
  induction n using Nat.strongRecOn with
  | _ n ih =>
    obtain ⟨_, j, _, b, hb, e⟩ := mst_spec h n
    have hbm := List.mem_of_getElem? hb
    have ht := h.t b hbm
    have ha := h.a b hbm
    cases n with
    | zero =>
      have := mst_nonneg h 1
      exact this
    | succ n =>
      have h1 := (mst_spec h n).1 b hbm
      by_cases c : (b.1.toNat) ≤ n + 1
      · have h2 := ih (n + 1 - b.1.toNat) (by omega)
        rw [show n + 1 - b.1.toNat + 1 = n + 1 + 1 - b.1.toNat by omega] at h2
        omega
      · rw [show n + 1 - b.1.toNat = n + 1 + 1 - b.1.toNat by omega] at h1
        omega
theorem mst_mono {m n : Nat} (hmn : m ≤ n) : mst L m ≤ mst L n := by
  induction n with
  | zero =>
    have : m = 0 := by omega
    subst this; exact Int.le_refl _
  | succ n ih =>
    by_cases c : m = n + 1
    · subst c; exact Int.le_refl _
    · exact Int.le_trans (ih (by omega)) (mst_step h n)
theorem mst_sub (m : Nat) : ∀ n, mst L (m + n) ≤ mst L m + mst L n := by
  intro n
  induction n using Nat.strongRecOn with
  | _ n ih =>
    cases n with
    | zero => show mst L m ≤ mst L m + 0; omega
    | succ n =>
      obtain ⟨_, j, _, b, hb, e⟩ := mst_spec h n
      have hbm := List.mem_of_getElem? hb
      have ht := h.t b hbm
      have h1 := (mst_spec h (m + n)).1 b hbm
      by_cases c : b.1.toNat ≤ n + 1
      · have h2 := ih (n + 1 - b.1.toNat) (by omega)
        rw [show m + (n + 1 - b.1.toNat) = m + n + 1 - b.1.toNat by omega] at h2
        show mst L (m + n + 1) ≤ _
        omega
      · have h2 := mst_mono h (show m + n + 1 - b.1.toNat ≤ m by omega)
        rw [show n + 1 - b.1.toNat = 0 by omega] at e
        have : mst L 0 = 0 := rfl
        show mst L (m + n + 1) ≤ _
        omega
theorem mst_bd : ∀ n : Nat, mst L n ≤ 1000000 * n := by
  intro n
  induction n with
  | zero => exact Int.le_refl _
  | succ n ih =>
    obtain ⟨c, l, e⟩ := List.exists_cons_of_ne_nil h.ne
    have hc : c ∈ L := by rw [e]; exact List.mem_cons_self ..
    have h1 := (mst_spec h n).1 c hc
    have ha := h.a c hc
    have ht := h.t c hc
    have h2 := mst_mono h (show n + 1 - c.1.toNat ≤ n by omega)
    omega
theorem lst_mono {m n : Nat} (hmn : m ≤ n) : lst L m ≤ lst L n := by
  induction n with
  | zero =>
    have : m = 0 := by omega
    subst this; exact Int.le_refl _
  | succ n ih =>
    by_cases c : m = n + 1
    · subst c; exact Int.le_refl _
    · exact Int.le_trans (ih (by omega)) (lst_spec h n).1
theorem lst_nonneg (n : Nat) : 0 ≤ lst L n := lst_mono h (Nat.zero_le n)
theorem lst_bd : ∀ n : Nat, lst L n ≤ 1000000 * n := by
  intro n
  induction n using Nat.strongRecOn with
  | _ n ih =>
    cases n with
    | zero => exact Int.le_refl _
    | succ n =>
      rcases (lst_spec h n).2.2 with ⟨_, e⟩ | ⟨j, _, b, hb, hn, e⟩
      · have := ih n (by omega)
        omega
      · have hbm := List.mem_of_getElem? hb
        have ht := h.t b hbm
        have ha := h.a b hbm
        have := ih (n + 1 - b.1.toNat) (by omega)
        omega
theorem lst_sup (m : Nat) : ∀ n, lst L m + lst L n ≤ lst L (m + n) := by
  intro n
  induction n using Nat.strongRecOn with
  | _ n ih =>
    cases n with
    | zero => show lst L m + 0 ≤ lst L m; omega
    | succ n =>
      rcases (lst_spec h n).2.2 with ⟨_, e⟩ | ⟨j, _, b, hb, hn, e⟩
      · have := ih n (by omega)
        have := (lst_spec h (m + n)).1
        show _ ≤ lst L (m + n + 1)
        omega
      · have hbm := List.mem_of_getElem? hb
        have ht := h.t b hbm
        have h2 := ih (n + 1 - b.1.toNat) (by omega)
        have h3 := (lst_spec h (m + n)).2.1 b hbm (by omega)
        rw [show m + (n + 1 - b.1.toNat) = m + n + 1 - b.1.toNat by omega] at h2
        show _ ≤ lst L (m + n + 1)
        omega
end
end Pm
end
section
namespace Go.Proofs.Ythoeindopljmkaa.P
open Go.RowKit Go.Proofs.YthoeindopljmkaaW.PrintWords Go.Proofs.YthoeindopljmkaaW.PrintLast Go.Proofs.YthoeindopljmkaaW.PrintMore
open Pm
def bs (l : List S71) : List B2 := l.map fun b => (b.f0, b.f1)
theorem bs_drop (l : List S71) {i : Nat} (h : i < l.length) : (bs l).drop i = ((rd_T71 l i).f0, (rd_T71 l i).f1) :: (bs l).drop (i + 1) := by
  have hl : i < (bs l).length := by simpa [bs] using h
  rw [List.drop_eq_getElem_cons hl]
  congr 1
  unfold rd_T71
  rw [List.getD_eq_getElem?_getD, Int.toNat_natCast, List.getElem?_eq_getElem h]
  simp [bs]
theorem mx_max (a b : Int) : mx a b = max a b := by unfold mx; omega
def Small (s : List Int) : Prop := ∀ n, 0 ≤ s.getD n 0 ∧ s.getD n 0 ≤ 1000000000
theorem most_l0 {l : List S71} (hb : Bds (bs l)) (hl : l.length ≤ 1000) (s t : List Int) (hs : Small s) (hn : 0 < s.length) (hn2 : s.length ≤ 1000) : ∀ (k : Nat) (i : Nat) (x4 x5 : Int), i ≤ l.length → l.length - i < k →
    pump_bounds_most.l0 k x4 x5 s.length l l.length i s t = some (minFrom (fun b => s.getD (max 0 ((s.length : Int) - b.1)).toNat 0 + b.2) ((bs l).drop i) i x4 x5)
  | 0, i, x4, x5, hi, hk => by omega
  | k + 1, i, x4, x5, hi, hk => by
    unfold pump_bounds_most.l0
    by_cases c : i < l.length
    · have hm : ((rd_T71 l i).f0, (rd_T71 l i).f1) ∈ bs l := List.mem_of_mem_drop (i := i) (by rw [bs_drop l c]; exact List.mem_cons_self)
      have ht := hb.t _ hm
      have ha := hb.a _ hm
      dsimp only at ht ha
      have e1 : wrap64 ((s.length : Int) - (rd_T71 l i).f0) = (s.length : Int) - (rd_T71 l i).f0 := by unfold wrap64; omega
      have e2 : wrap64 ((i : Int) + 1) = ((i + 1 : Nat) : Int) := by unfold wrap64; omega
      have hj := hs (max 0 ((s.length : Int) - (rd_T71 l i).f0)).toNat
      have e3 : wrap64 (rd s (mx 0 (wrap64 ((s.length : Int) - (rd_T71 l i).f0))) + (rd_T71 l i).f1) = s.getD (max 0 ((s.length : Int) - (rd_T71 l i).f0)).toNat 0 + (rd_T71 l i).f1 := by
        rw [e1, mx_max]
        show wrap64 (s.getD _ 0 + _) = _
        unfold wrap64; omega
      rw [if_pos (by omega), if_pos (by omega), if_pos (by omega), if_pos (by rw [e1, mx_max]; omega), if_pos (by rw [e1, mx_max]; omega), e3, e2, bs_drop l c]
      have ih := fun a b => most_l0 hb hl s t hs hn hn2 k (i + 1) a b (by omega) (by omega)
      unfold minFrom
      by_cases c0 : i = 0
      · rw [if_pos (by omega), ih, if_pos (.inl (by omega))]
        rfl
      · rw [if_neg (by omega)]
        by_cases c4 : s.getD (max 0 ((s.length : Int) - (rd_T71 l i).f0)).toNat 0 + (rd_T71 l i).f1 < x4
        · rw [if_pos c4, ih, if_pos (.inr c4)]; rfl
        · rw [if_neg c4, ih, if_neg (by rintro (h | h); omega; exact c4 h)]; rfl
    · rw [if_neg (by omega), List.drop_eq_nil_of_le (by simp [bs]; omega)]
      rfl
theorem tab_out (R : List Int → Int × Int) (n m : Nat) (h : n < m) : (tabF R n).1.getD m 0 = 0 := by
  rw [List.getD_eq_getElem?_getD, List.getElem?_eq_none (by rw [(tabF_len R n).1]; omega)]; rfl
theorem small_most {L : List B2} (hb : Bds L) {n : Nat} (hn : n ≤ 500) : Small (tabF (stepM L) n).1 := fun m => by
  by_cases c : m ≤ n
  · rw [(tabF_get _ n m c).1]
    have h1 := mst_nonneg hb m
    have h2 := mst_bd hb m
    unfold mst at h1 h2
    omega
  · rw [tab_out _ n m (by omega)]; omega
theorem small_least {L : List B2} (hb : Bds L) {n : Nat} (hn : n ≤ 500) : Small (tabF (stepL L) n).1 := fun m => by
  by_cases c : m ≤ n
  · rw [(tabF_get _ n m c).1]
    have h1 := lst_nonneg hb m
    have h2 := lst_bd hb m
    unfold lst at h1 h2
    omega
  · rw [tab_out _ n m (by omega)]; omega
theorem most_f {l : List S71} (hb : Bds (bs l)) (hl : l.length ≤ 1000) {n : Nat} (hn : n ≤ 500) (t : List Int) : pump_bounds_most.f (l.length + 1) l (tabF (stepM (bs l)) n).1 t = some (stepM (bs l) (tabF (stepM (bs l)) n).1) := by
  unfold pump_bounds_most.f
  have h := most_l0 hb hl (tabF (stepM (bs l)) n).1 t (small_most hb hn) (by rw [(tabF_len _ n).1]; omega) (by rw [(tabF_len _ n).1]; omega) (l.length + 1) 0 0 0 (Nat.zero_le _) (by omega)
  rw [List.drop_zero] at h
  exact h
theorem tabledm_l0 {l : List S71} (hb : Bds (bs l)) (hl : l.length ≤ 1000) {a : Nat} (ha : a ≤ 400) : ∀ (k m : Nat), m ≤ a → a - m + 1 < k → pump_tabledm.l0 k l a (tabF (stepM (bs l)) m).1 (tabF (stepM (bs l)) m).2 = some (tabF (stepM (bs l)) a)
  | 0, m, _, hk => by omega
  | k + 1, m, hm, hk => by
    unfold pump_tabledm.l0
    have l1 := tabF_len (stepM (bs l)) m
    by_cases c : m < a
    · have e := tabledm_l0 hb hl ha k (m + 1) (by omega) (by omega)
      rw [if_pos (by rw [l1.1]; omega), most_f hb hl (by omega), Option.bind_some, if_pos (by rw [l1.1]; omega), if_pos (by rw [l1.2]; omega)]
      exact e
    · obtain rfl : m = a := by omega
      rw [if_neg (by rw [l1.1]; omega)]
theorem tabled_most_f {l : List S71} (hb : Bds (bs l)) (hl : l.length ≤ 1000) {a : Nat} (ha : a ≤ 400) : tabled_most.f l a = some (tabF (stepM (bs l)) a) := by
  unfold tabled_most.f pump_tabledm.f
  exact tabledm_l0 hb hl ha _ 0 (Nat.zero_le _) (by rw [Int.toNat_natCast]; omega)
theorem least_l0 {l : List S71} (hb : Bds (bs l)) (hl : l.length ≤ 1000) (s t : List Int) (hs : Small s) (hn : 0 < s.length) (hn2 : s.length ≤ 1000) : ∀ (k : Nat) (i : Nat) (x4 x5 : Int), i ≤ l.length → l.length - i < k →
    pump_bounds_least.l0 k x4 x5 s.length l l.length i s t = some (maxFrom (s.length : Int) (fun b => s.getD ((s.length : Int) - b.1).toNat 0 + b.2) ((bs l).drop i) i x4 x5)
  | 0, i, x4, x5, hi, hk => by omega
  | k + 1, i, x4, x5, hi, hk => by
    unfold pump_bounds_least.l0
    by_cases c : i < l.length
    · have hm : ((rd_T71 l i).f0, (rd_T71 l i).f1) ∈ bs l := List.mem_of_mem_drop (i := i) (by rw [bs_drop l c]; exact List.mem_cons_self)
      have ht := hb.t _ hm
      have ha := hb.a _ hm
      dsimp only at ht ha
      have e1 : wrap64 ((s.length : Int) - (rd_T71 l i).f0) = (s.length : Int) - (rd_T71 l i).f0 := by unfold wrap64; omega
      have e2 : wrap64 ((i : Int) + 1) = ((i + 1 : Nat) : Int) := by unfold wrap64; omega
      have hj := hs ((s.length : Int) - (rd_T71 l i).f0).toNat
      have e3 : wrap64 (rd s (wrap64 ((s.length : Int) - (rd_T71 l i).f0)) + (rd_T71 l i).f1) = s.getD ((s.length : Int) - (rd_T71 l i).f0).toNat 0 + (rd_T71 l i).f1 := by
        rw [e1]
        show wrap64 (s.getD _ 0 + _) = _
        unfold wrap64; omega
      have ih := fun a b => least_l0 hb hl s t hs hn hn2 k (i + 1) a b (by omega) (by omega)
      rw [if_pos (by omega), if_pos (by omega), if_pos (by omega), bs_drop l c]
      unfold maxFrom
      by_cases c0 : (rd_T71 l i).f0 ≤ (s.length : Int)
      · rw [if_pos c0, if_pos (by rw [e1]; omega), if_pos (by rw [e1]; omega), e3, e2]
        by_cases c4 : s.getD ((s.length : Int) - (rd_T71 l i).f0).toNat 0 + (rd_T71 l i).f1 > x4
        · rw [if_pos c4, ih, if_pos ⟨c0, c4⟩]; rfl
        · rw [if_neg c4, ih, if_neg (fun h => c4 h.2)]; rfl
      · rw [if_neg c0, e2, ih, if_neg (fun h => c0 h.1)]; rfl
    · rw [if_neg (by omega), List.drop_eq_nil_of_le (by simp [bs]; omega)]
      rfl
theorem least_f {l : List S71} (hb : Bds (bs l)) (hl : l.length ≤ 1000) {n : Nat} (hn : n ≤ 500) (t : List Int) : pump_bounds_least.f (l.length + 1) l (tabF (stepL (bs l)) n).1 t = some (stepL (bs l) (tabF (stepL (bs l)) n).1) := by
  have l1 := (tabF_len (stepL (bs l)) n).1
  have hsm := small_least hb hn
  generalize (tabF (stepL (bs l)) n).1 = X at l1 hsm
  unfold pump_bounds_least.f
  have e1 : wrap64 ((X.length : Int) - 1) = (n : Int) := by rw [l1]; unfold wrap64; omega
  rw [e1, if_pos (by omega), if_pos (by rw [l1]; omega)]
  have h := least_l0 hb hl X t hsm (by rw [l1]; omega) (by rw [l1]; omega) (l.length + 1) 0 (rd X n) (-1) (Nat.zero_le _) (by omega)
  rw [List.drop_zero] at h
  refine h.trans ?_
  unfold stepL
  rw [show X.length - 1 = n by omega]
  rfl
theorem tabledl_l0 {l : List S71} (hb : Bds (bs l)) (hl : l.length ≤ 1000) {a : Nat} (ha : a ≤ 400) : ∀ (k m : Nat), m ≤ a → a - m + 1 < k → pump_tabledl.l0 k l a (tabF (stepL (bs l)) m).1 (tabF (stepL (bs l)) m).2 = some (tabF (stepL (bs l)) a)
  | 0, m, _, hk => by omega
  | k + 1, m, hm, hk => by
    unfold pump_tabledl.l0
    have l1 := tabF_len (stepL (bs l)) m
    by_cases c : m < a
    · have e := tabledl_l0 hb hl ha k (m + 1) (by omega) (by omega)
      rw [if_pos (by rw [l1.1]; omega), least_f hb hl (by omega), Option.bind_some, if_pos (by rw [l1.1]; omega), if_pos (by rw [l1.2]; omega)]
      exact e
    · obtain rfl : m = a := by omega
      rw [if_neg (by rw [l1.1]; omega)]
theorem tabled_least_f {l : List S71} (hb : Bds (bs l)) (hl : l.length ≤ 1000) {a : Nat} (ha : a ≤ 400) : tabled_least.f l a = some (tabF (stepL (bs l)) a) := by
  unfold tabled_least.f pump_tabledl.f
  exact tabledl_l0 hb hl ha _ 0 (Nat.zero_le _) (by rw [Int.toNat_natCast]; omega)
end Go.Proofs.Ythoeindopljmkaa.P
end
section
namespace Go.Proofs.Ythoeindopljmkaa.P
open Go.RowKit Go.Proofs.YthoeindopljmkaaW.PrintWords Go.Proofs.YthoeindopljmkaaW.PrintLast Go.Proofs.YthoeindopljmkaaW.PrintMore
open Pm
def ticksOf (l : List S71) (r : List Int) : Int := (r.map fun j => (rd_T71 l j).f0).sum
def amountOf (l : List S71) (r : List Int) : Int := (r.map fun j => (rd_T71 l j).f1).sum
theorem bs_get {l : List S71} {j : Nat} {b : B2} (h : (bs l)[j]? = some b) : j < l.length ∧ b = ((rd_T71 l j).f0, (rd_T71 l j).f1) := by
  unfold bs at h
  rw [List.getElem?_map] at h
  obtain ⟨x, hx, rfl⟩ := Option.map_eq_some_iff.mp h
  obtain ⟨hj, rfl⟩ := List.getElem?_eq_some_iff.1 hx
  refine ⟨hj, ?_⟩
  unfold rd_T71
  rw [List.getD_eq_getElem?_getD, Int.toNat_natCast, List.getElem?_eq_getElem hj]; rfl
theorem taken_most {l : List S71} (hb : Bds (bs l)) (hl : l.length ≤ 1000) {N : Nat} (hN : N ≤ 400) : ∀ (k n : Nat) (acc : List Int), n ≤ N → n < k → acc.length + n ≤ 1000 →
    ∃ r, takenRaw.l0 k l acc n (tabF (stepM (bs l)) N).1 (tabF (stepM (bs l)) N).2 = some (acc ++ r) ∧ r.length ≤ n ∧ (∀ j ∈ r, 0 ≤ j ∧ j < l.length) ∧ (n : Int) ≤ ticksOf l r ∧ amountOf l r = mst (bs l) n
  | 0, n, acc, _, hk, _ => by omega
  | k + 1, 0, acc, _, _, _ => by
    unfold takenRaw.l0
    refine ⟨[], ?_, Nat.le_refl _, ?_, ?_, ?_⟩
    · rw [if_neg (by simp)]; simp
    · intro j h; cases h
    · simp [ticksOf]
    · rfl
  | k + 1, n + 1, acc, hn, hk, ha => by
    obtain ⟨_, j, hj, b, hbj, hm⟩ := mst_spec hb n
    obtain ⟨hjl, rfl⟩ := bs_get hbj
    dsimp only at hm
    have hmem : ((rd_T71 l j).f0, (rd_T71 l j).f1) ∈ bs l := List.mem_of_getElem? hbj
    have ht := hb.t _ hmem
    dsimp only at ht
    have hlast : rd (tabF (stepM (bs l)) N).2 ((n + 1 : Nat) : Int) = j := by
      show (tabF (stepM (bs l)) N).2.getD _ 0 = _
      rw [Int.toNat_natCast, (tabF_get _ N (n + 1) hn).2, hj]
    have hlen := (tabF_len (stepM (bs l)) N).2
    have e1 : mx 0 (wrap64 (((n + 1 : Nat) : Int) - (rd_T71 l j).f0)) = ((n + 1 - (rd_T71 l j).f0.toNat : Nat) : Int) := by
      rw [mx_max]; unfold wrap64; omega
    obtain ⟨r, hr, h1, h2, h3, h4⟩ := taken_most hb hl hN k (n + 1 - (rd_T71 l j).f0.toNat) (acc ++ [(j : Int)]) (by omega) (by omega) (by simp; omega)
    refine ⟨(j : Int) :: r, ?_, by simp; omega, fun x hx => ?_, ?_, ?_⟩
    · unfold takenRaw.l0
      rw [hlast, if_pos (by omega), if_pos (by omega), if_pos (by rw [hlen]; omega), if_pos (by omega), if_pos (by omega), if_pos (by omega), if_pos (by omega), e1, hr]
      simp
    · rcases List.mem_cons.1 hx with rfl | hx
      · omega
      · exact h2 x hx
    · unfold ticksOf at h3 ⊢
      rw [List.map_cons, List.sum_cons]; omega
    · unfold amountOf at h4 ⊢
      rw [List.map_cons, List.sum_cons, h4, hm]; omega
theorem taken_least {l : List S71} (hb : Bds (bs l)) (hl : l.length ≤ 1000) {N : Nat} (hN : N ≤ 400) : ∀ (k n : Nat) (acc : List Int), n ≤ N → n < k → acc.length + n ≤ 1000 →
    ∃ r, takenRaw.l0 k l acc n (tabF (stepL (bs l)) N).1 (tabF (stepL (bs l)) N).2 = some (acc ++ r) ∧ r.length ≤ n ∧ (∀ j ∈ r, 0 ≤ j ∧ j < l.length) ∧ ticksOf l r ≤ n ∧ amountOf l r = lst (bs l) n
  | 0, n, acc, _, hk, _ => by omega
  | k + 1, 0, acc, _, _, _ => by
    unfold takenRaw.l0
    refine ⟨[], ?_, Nat.le_refl _, ?_, ?_, ?_⟩
    · rw [if_neg (by simp)]; simp
    · intro j h; cases h
    · simp [ticksOf]
    · rfl
  | k + 1, n + 1, acc, hn, hk, ha => by
    have hlen := (tabF_len (stepL (bs l)) N).2
    rcases (lst_spec hb n).2.2 with ⟨hj, hm⟩ | ⟨j, hj, b, hbj, htn, hm⟩
    · have hlast : rd (tabF (stepL (bs l)) N).2 ((n + 1 : Nat) : Int) = -1 := by
        show (tabF (stepL (bs l)) N).2.getD _ 0 = _
        rw [Int.toNat_natCast, (tabF_get _ N (n + 1) hn).2, hj]
      obtain ⟨r, hr, h1, h2, h3, h4⟩ := taken_least hb hl hN k n acc (by omega) (by omega) (by omega)
      refine ⟨r, ?_, by omega, h2, by omega, by rw [h4, hm]⟩
      unfold takenRaw.l0
      rw [hlast, if_pos (by omega), if_pos (by omega), if_pos (by rw [hlen]; omega), if_neg (by omega), show wrap64 (((n + 1 : Nat) : Int) - 1) = n by unfold wrap64; omega, hr]
    · obtain ⟨hjl, rfl⟩ := bs_get hbj
      dsimp only at hm htn
      have hmem : ((rd_T71 l j).f0, (rd_T71 l j).f1) ∈ bs l := List.mem_of_getElem? hbj
      have ht := hb.t _ hmem
      dsimp only at ht
      have hlast : rd (tabF (stepL (bs l)) N).2 ((n + 1 : Nat) : Int) = j := by
        show (tabF (stepL (bs l)) N).2.getD _ 0 = _
        rw [Int.toNat_natCast, (tabF_get _ N (n + 1) hn).2, hj]
      have e1 : mx 0 (wrap64 (((n + 1 : Nat) : Int) - (rd_T71 l j).f0)) = ((n + 1 - (rd_T71 l j).f0.toNat : Nat) : Int) := by
        rw [mx_max]; unfold wrap64; omega
      obtain ⟨r, hr, h1, h2, h3, h4⟩ := taken_least hb hl hN k (n + 1 - (rd_T71 l j).f0.toNat) (acc ++ [(j : Int)]) (by omega) (by omega) (by simp; omega)
      refine ⟨(j : Int) :: r, ?_, by simp; omega, fun x hx => ?_, ?_, ?_⟩
      · unfold takenRaw.l0
        rw [hlast, if_pos (by omega), if_pos (by omega), if_pos (by rw [hlen]; omega), if_pos (by omega), if_pos (by omega), if_pos (by omega), if_pos (by omega), e1, hr]
        simp
      · rcases List.mem_cons.1 hx with rfl | hx
        · omega
        · exact h2 x hx
      · unfold ticksOf at h3 ⊢
        rw [List.map_cons, List.sum_cons]; omega
      · unfold amountOf at h4 ⊢
        rw [List.map_cons, List.sum_cons, h4, hm]; omega
end Go.Proofs.Ythoeindopljmkaa.P
end
section
namespace Go.Proofs.Ythoeindopljmkaa.P
open Go.RowKit Go.Proofs.YthoeindopljmkaaW.PrintWords Go.Proofs.YthoeindopljmkaaW.PrintLast Go.Proofs.YthoeindopljmkaaW.PrintMore
open Pm
def cb (l : List S71) : Int := if l.length = 0 then 4 else if 5 < l.length then 5 else if (l.any fun x => !good x) = true then 3 else 0
theorem cb_f (l : List S71) : pump_CheckBounds.f l = some (cb l) := by
  unfold pump_CheckBounds.f cb
  by_cases c : l.length = 0
  · rw [if_pos (by omega), if_pos c]
  · rw [if_neg (by omega), if_neg c]
    by_cases c5 : 5 < l.length
    · rw [if_pos (by omega), if_pos c5]
    · rw [if_neg (by omega), if_neg c5]
      unfold any_bad.f
      rw [if_pos (by omega), Option.bind_some]
      split <;> rfl
def rgd (l : List S71) (a : Int) : Int := if cb l = 0 then (if btw 0 a 200 = true then 0 else 3) else cb l
theorem ranged_f (l : List S71) (a : Int) : pump_ranged.f l a = some (rgd l a) := by
  unfold pump_ranged.f rgd
  rw [cb_f, Option.bind_some, btw_f, Option.bind_some]
  by_cases c : cb l = 0
  · rw [if_pos c, if_pos c]
    split
    · rw [c]
    · rfl
  · rw [if_neg c, if_neg c]
theorem cb_zero {l : List S71} : cb l = 0 ↔ l.length ≠ 0 ∧ l.length ≤ 5 ∧ ∀ b ∈ l, good b = true := by
  unfold cb
  by_cases c : l.length = 0
  · rw [if_pos c]; constructor
    · intro h; cases h
    · rintro ⟨h, _⟩; exact absurd c h
  rw [if_neg c]
  by_cases c5 : 5 < l.length
  · rw [if_pos c5]; constructor
    · intro h; cases h
    · rintro ⟨_, h, _⟩; omega
  rw [if_neg c5]
  by_cases ca : (l.any fun x => !good x) = true
  · rw [if_pos ca]; constructor
    · intro h; cases h
    · rintro ⟨_, _, h⟩
      obtain ⟨x, hx, hg⟩ := List.any_eq_true.1 ca
      rw [h x hx] at hg; cases hg
  · rw [if_neg ca]
    refine ⟨fun _ => ⟨c, by omega, fun b hb => ?_⟩, fun _ => rfl⟩
    cases hg : good b
    · exact absurd (List.any_eq_true.2 ⟨b, hb, by rw [hg]; rfl⟩) ca
    · rfl
theorem good_iff {x : S71} : good x = true ↔ (1 ≤ x.f0 ∧ x.f0 ≤ 100) ∧ 0 ≤ x.f1 ∧ x.f1 ≤ 1000000 := by
  unfold good
  rw [Bool.and_eq_true, btw_iff, btw_iff]
theorem bds_of {l : List S71} (h : cb l = 0) : Bds (bs l) ∧ l.length ≤ 5 := by
  obtain ⟨h0, h5, hg⟩ := cb_zero.1 h
  refine ⟨⟨?_, ?_, ?_⟩, h5⟩
  · intro e
    have : (bs l).length = 0 := by rw [e]; rfl
    simp [bs] at this
    exact h0 (by rw [this]; rfl)
  · intro b hb
    obtain ⟨x, hx, rfl⟩ := List.mem_map.1 hb
    exact (good_iff.1 (hg x hx)).1
  · intro b hb
    obtain ⟨x, hx, rfl⟩ := List.mem_map.1 hb
    exact (good_iff.1 (hg x hx)).2
theorem rgd_zero {l : List S71} {a : Int} (h : rgd l a = 0) : cb l = 0 ∧ 0 ≤ a ∧ a ≤ 200 := by
  unfold rgd at h
  by_cases c : cb l = 0
  · rw [if_pos c] at h
    by_cases b : btw 0 a 200 = true
    · exact ⟨c, btw_iff.1 b⟩
    · rw [if_neg b] at h; cases h
  · rw [if_neg c] at h; exact absurd h c
theorem rgd_of {l : List S71} {a : Int} (h : cb l = 0) (h0 : 0 ≤ a) (h1 : a ≤ 200) : rgd l a = 0 := by
  unfold rgd
  rw [if_pos h, if_pos (btw_iff.2 ⟨h0, h1⟩)]
theorem sum_perm {x y : List Int} (h : x.Perm y) : x.sum = y.sum := by
  induction h with
  | nil => rfl
  | cons a _ ih => simp only [List.sum_cons, ih]
  | swap a b l => simp only [List.sum_cons]; omega
  | trans _ _ h1 h2 => exact h1.trans h2
theorem sortI_perm (r : List Int) : (sortI r).Perm r := List.mergeSort_perm _ _
theorem sortI_sorted (r : List Int) : (sortI r).Pairwise fun x y => x ≤ y := by
  have h := List.pairwise_mergeSort (le := fun x y : Int => decide (x ≤ y)) (fun a b c h1 h2 => by simp at *; omega) (fun a b => by simp; omega) r
  exact h.imp (fun h => by simpa using h)
theorem ticks_sort (l : List S71) (r : List Int) : ticksOf l (sortI r) = ticksOf l r := sum_perm ((sortI_perm r).map _)
theorem amount_sort (l : List S71) (r : List Int) : amountOf l (sortI r) = amountOf l r := sum_perm ((sortI_perm r).map _)
structure Ord (l : List S71) (r : List Int) : Prop where
  len : r.length ≤ 200
  at_ : ∀ j ∈ r, 0 ≤ j ∧ j < l.length
  up : r.Pairwise fun x y => x ≤ y
theorem asked_most_f (l : List S71) (a : Int) : ∃ r, asked_most.f l a l = some (if rgd l a = 0 then mst (bs l) a.toNat else 0, r, rgd l a) ∧ (rgd l a ≠ 0 → r = []) ∧ (rgd l a = 0 → Ord l r ∧ a ≤ ticksOf l r ∧ amountOf l r = mst (bs l) a.toNat) := by
  unfold asked_most.f
  rw [ranged_f, Option.bind_some]
  by_cases c : rgd l a = 0
  · obtain ⟨h1, h2, h3⟩ := rgd_zero c
    obtain ⟨hb, h5⟩ := bds_of h1
    obtain ⟨n, rfl⟩ := Int.eq_ofNat_of_zero_le h2
    rw [if_pos c, if_pos c, tabled_most_f hb (by omega) (by omega), Option.bind_some, if_pos h2]
    have hl := (tabF_len (stepM (bs l)) n).1
    obtain ⟨r, hr, r1, r2, r3, r4⟩ := taken_most hb (by omega) (by omega) (((n : Nat) : Int).toNat + 2) n [] (Nat.le_refl _) (by omega) (by simp; omega)
    refine ⟨sortI r, ?_, fun h => absurd c h, fun _ => ⟨⟨?_, ?_, sortI_sorted r⟩, ?_, ?_⟩⟩
    · rw [if_pos (by omega)]
      unfold pump_bounds_taken.f takenRaw.f
      rw [hr, Option.bind_some, if_pos (by rw [List.nil_append]; omega), Option.bind_some, List.nil_append, c]
      congr 2
    · rw [(sortI_perm r).length_eq]; omega
    · intro j hj; exact r2 j ((sortI_perm r).mem_iff.1 hj)
    · rw [ticks_sort]; exact r3
    · rw [amount_sort]; exact r4
  · rw [if_neg c, if_neg c]
    exact ⟨[], rfl, fun _ => rfl, fun h => absurd h c⟩
theorem asked_least_f (l : List S71) (a : Int) : ∃ r, asked_least.f l a l = some (if rgd l a = 0 then lst (bs l) a.toNat else 0, r, rgd l a) ∧ (rgd l a ≠ 0 → r = []) ∧ (rgd l a = 0 → Ord l r ∧ ticksOf l r ≤ a ∧ amountOf l r = lst (bs l) a.toNat) := by
  unfold asked_least.f
  rw [ranged_f, Option.bind_some]
  by_cases c : rgd l a = 0
  · obtain ⟨h1, h2, h3⟩ := rgd_zero c
    obtain ⟨hb, h5⟩ := bds_of h1
    obtain ⟨n, rfl⟩ := Int.eq_ofNat_of_zero_le h2
    rw [if_pos c, if_pos c, tabled_least_f hb (by omega) (by omega), Option.bind_some, if_pos h2]
    have hl := (tabF_len (stepL (bs l)) n).1
    obtain ⟨r, hr, r1, r2, r3, r4⟩ := taken_least hb (by omega) (by omega) (((n : Nat) : Int).toNat + 2) n [] (Nat.le_refl _) (by omega) (by simp; omega)
    refine ⟨sortI r, ?_, fun h => absurd c h, fun _ => ⟨⟨?_, ?_, sortI_sorted r⟩, ?_, ?_⟩⟩
    · rw [if_pos (by omega)]
      unfold pump_bounds_taken.f takenRaw.f
      rw [hr, Option.bind_some, if_pos (by rw [List.nil_append]; omega), Option.bind_some, List.nil_append, c]
      congr 2
    · rw [(sortI_perm r).length_eq]; omega
    · intro j hj; exact r2 j ((sortI_perm r).mem_iff.1 hj)
    · rw [ticks_sort]; exact r3
    · rw [amount_sort]; exact r4
  · rw [if_neg c, if_neg c]
    exact ⟨[], rfl, fun _ => rfl, fun h => absurd h c⟩
theorem Most_f (l : List S71) (a : Int) : pump_Most.f l a = some (if rgd l a = 0 then mst (bs l) a.toNat else 0, rgd l a) := by
  obtain ⟨r, h, _⟩ := asked_most_f l a
  unfold pump_Most.f
  rw [h]; rfl
theorem Least_f (l : List S71) (a : Int) : pump_Least.f l a = some (if rgd l a = 0 then lst (bs l) a.toNat else 0, rgd l a) := by
  obtain ⟨r, h, _⟩ := asked_least_f l a
  unfold pump_Least.f
  rw [h]; rfl
end Go.Proofs.Ythoeindopljmkaa.P
end
section
namespace Go.Proofs.Ythoeindopljmkaa.P
open Go.RowKit Go.Proofs.YthoeindopljmkaaW.PrintWords Go.Proofs.YthoeindopljmkaaW.PrintLast Go.Proofs.YthoeindopljmkaaW.PrintMore
open Pm
def U8s (l : List S86) : Prop := ∀ x ∈ l, (0 ≤ x.f0 ∧ x.f0 < 256) ∧ 0 ≤ x.f1 ∧ x.f1 < 256
structure Few (L : List S71) : Prop where
  ne : 1 ≤ L.length
  le : L.length ≤ 3
  small : ∀ b ∈ L, (1 ≤ b.f0 ∧ b.f0 ≤ 4) ∧ 0 ≤ b.f1 ∧ b.f1 ≤ 5
theorem few_cb {L : List S71} (h : Few L) : cb L = 0 := cb_zero.2 ⟨by have := h.ne; omega, by have := h.le; omega, fun b hb => good_iff.2 (by have := h.small b hb; omega)⟩
theorem few_one {x : S86} (h : (0 ≤ x.f0 ∧ x.f0 < 256) ∧ 0 ≤ x.f1 ∧ x.f1 < 256) : (1 ≤ wrap64 (1 + (Int.tmod (wrap64 x.f0) 4)) ∧ wrap64 (1 + (Int.tmod (wrap64 x.f0) 4)) ≤ 4) ∧ 0 ≤ Int.tmod (wrap64 x.f1) 6 ∧ Int.tmod (wrap64 x.f1) 6 ≤ 5 := by
  have e0 : wrap64 x.f0 = x.f0 := by unfold wrap64; omega
  have e1 : wrap64 x.f1 = x.f1 := by unfold wrap64; omega
  have a0 := Int.tmod_nonneg 4 h.1.1
  have a1 := Int.tmod_lt_of_pos x.f0 (show (0 : Int) < 4 by omega)
  have b0 := Int.tmod_nonneg 6 h.2.1
  have b1 := Int.tmod_lt_of_pos x.f1 (show (0 : Int) < 6 by omega)
  rw [e0, e1]
  have e2 : wrap64 (1 + Int.tmod x.f0 4) = 1 + Int.tmod x.f0 4 := by unfold wrap64; omega
  rw [e2]
  omega
theorem rd86_mem {l : List S86} {i : Nat} (h : i < l.length) : rd_T86 l i ∈ l := by
  unfold rd_T86
  rw [List.getD_eq_getElem?_getD, Int.toNat_natCast, List.getElem?_eq_getElem h]
  exact List.getElem_mem h
theorem made_l0 {l : List S86} (hu : U8s l) : ∀ (k i : Nat) (x3 : List S71), (i ≤ 3) → 2 * (3 - i) + 2 ≤ k → Few x3 → x3.length ≤ max 1 i → ∃ L, pianolalaw04_Set_made.l0 k l x3 i = some L ∧ Few L
  | 0, i, x3, hi, hk, _, _ => by omega
  | 1, i, x3, hi, hk, _, _ => by omega
  | k + 2, i, x3, hi, hk, hf, hx => by
    unfold pianolalaw04_Set_made.l0 pianolalaw04_Set_made.j1
    by_cases c : i < l.length
    · rw [if_pos (by omega)]
      by_cases c3 : i < 3
      · have h1 := few_one (hu _ (rd86_mem c))
        have hn := hf.ne
        rw [if_pos (decide_eq_true (by omega)), if_pos (by omega), if_pos (by omega), show wrap64 ((i : Int) + 1) = ((i + 1 : Nat) : Int) by unfold wrap64; omega]
        by_cases c0 : i = 0
        · rw [if_pos (by omega), if_pos (by omega)]
          refine made_l0 hu k (i + 1) _ (by omega) (by omega) ⟨by simpa using hf.ne, by simpa using hf.le, fun b hb => ?_⟩ (by simp; omega)
          rcases List.mem_or_eq_of_mem_set hb with h | h
          · exact hf.small b h
          · rw [h]; exact h1
        · rw [if_neg (by omega), if_pos (by omega)]
          refine made_l0 hu k (i + 1) _ (by omega) (by omega) ⟨by simp, by simp; omega, fun b hb => ?_⟩ (by simp; omega)
          rcases List.mem_append.1 hb with h | h
          · exact hf.small b h
          · rw [List.mem_singleton.1 h]; exact h1
      · rw [if_neg (by simp; omega)]
        exact ⟨x3, rfl, hf⟩
    · rw [if_neg (by omega), if_neg (by simp)]
      exact ⟨x3, rfl, hf⟩
theorem made_f {l : List S86} (hu : U8s l) {k : Nat} (hk : 8 ≤ k) : ∃ L, pianolalaw04_Set_made.f k l = some L ∧ Few L :=
  made_l0 hu k 0 _ (by omega) (by omega) ⟨Nat.le_refl _, by decide, fun b hb => by rw [List.mem_singleton.1 hb]; decide⟩ (by decide)
theorem u8_wf {x : Int} (h : (Lit.int .u8 x).wf = true) : 0 ≤ x ∧ x < 256 := by
  have h1 : (decide (IntKind.u8.min ≤ x) && decide (x ≤ IntKind.u8.max)) = true := h
  rw [Bool.and_eq_true, decide_eq_true_eq, decide_eq_true_eq] at h1
  have e1 : IntKind.u8.min = 0 := by decide
  have e2 : IntKind.u8.max = 255 := by decide
  omega
end Go.Proofs.Ythoeindopljmkaa.P
end
section
namespace Go.Proofs.Ythoeindopljmkaa.P
open Go.RowKit Go.Proofs.YthoeindopljmkaaW.PrintWords Go.Proofs.YthoeindopljmkaaW.PrintLast Go.Proofs.YthoeindopljmkaaW.PrintMore
open Pm
theorem rem_of (a c : Int) (h0 : 0 ≤ a) (h1 : a < 256) (hc : 0 < c) : 0 ≤ Int.tmod (wrap64 a) c ∧ Int.tmod (wrap64 a) c < c := by
  rw [show wrap64 a = a by unfold wrap64; omega]
  exact ⟨Int.tmod_nonneg c h0, Int.tmod_lt_of_pos a hc⟩
theorem longer_f {l : List S86} (hu : U8s l) (a b : Int) (ha : 0 ≤ a ∧ a < 256) (hb : 0 ≤ b ∧ b < 256) : pianolalaw04_PumpLonger.f 9 l a b = some true := by
  obtain ⟨L, hL, hf⟩ := made_f hu (k := 9) (by omega)
  have hc := few_cb hf
  obtain ⟨hB, _⟩ := bds_of hc
  unfold pianolalaw04_PumpLonger.f
  rw [hL, Option.bind_some]
  have hm := rem_of a 100 ha.1 ha.2 (by omega)
  have hn := rem_of b 100 hb.1 hb.2 (by omega)
  generalize Int.tmod (wrap64 a) 100 = x at hm
  generalize Int.tmod (wrap64 b) 100 = y at hn
  obtain ⟨m, rfl⟩ := Int.eq_ofNat_of_zero_le hm.1
  obtain ⟨n, rfl⟩ := Int.eq_ofNat_of_zero_le hn.1
  have e : wrap64 ((m : Int) + n) = ((m + n : Nat) : Int) := by unfold wrap64; omega
  have z1 : rgd L m = 0 := rgd_of hc (by omega) (by omega)
  have z2 : rgd L n = 0 := rgd_of hc (by omega) (by omega)
  have z3 : rgd L ((m + n : Nat) : Int) = 0 := rgd_of hc (by omega) (by omega)
  have m1 := mst_bd hB m
  have m2 := mst_bd hB n
  have m3 := mst_nonneg hB m
  have m4 := mst_nonneg hB n
  have l1 := lst_bd hB m
  have l2 := lst_bd hB n
  have l3 := lst_nonneg hB m
  have l4 := lst_nonneg hB n
  have s1 := mst_sub hB m n
  have s2 := lst_sup hB m n
  have g1 := mst_mono hB (show m ≤ m + n by omega)
  have g2 := mst_mono hB (show n ≤ m + n by omega)
  have w1 : wrap64 (mst (bs L) m + mst (bs L) n) = mst (bs L) m + mst (bs L) n := by unfold wrap64; omega
  have w2 : wrap64 (lst (bs L) m + lst (bs L) n) = lst (bs L) m + lst (bs L) n := by unfold wrap64; omega
  rw [e]
  simp only [Most_f, z1, z2, z3, if_true, Option.bind_some, Int.toNat_natCast]
  rw [w1, if_neg (by omega)]
  rw [show (9 : Nat) = 8 + 1 from rfl, pianolalaw04_PumpLonger.j0]
  rw [if_neg (by rw [mx_max]; simp; omega), e]
  simp only [Least_f, z1, z2, z3, if_true, Option.bind_some, Int.toNat_natCast]
  rw [w2, if_pos (by omega)]
  rfl
end Go.Proofs.Ythoeindopljmkaa.P
namespace Go.Proofs.Ythoeindopljmkaa.Pure
open P
theorem PumpLonger (l : List S86) (a b : Int) (hl : ∀ s ∈ l, (Lit.int .u8 s.f0).wf = true ∧ (Lit.int .u8 s.f1).wf = true) (ha : (Lit.int .u8 a).wf = true) (hb : (Lit.int .u8 b).wf = true) : ∃ k, pianolalaw04_PumpLonger.f k l a b = some true :=
  ⟨9, longer_f (fun x hx => ⟨u8_wf (hl x hx).1, u8_wf (hl x hx).2⟩) a b (u8_wf ha) (u8_wf hb)⟩
end Go.Proofs.Ythoeindopljmkaa.Pure
end
