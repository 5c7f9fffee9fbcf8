/- Words and contracts for a claim. -/
import Derived.Test.YthoeindopljmkaaBase16

section
namespace Go.Proofs.Ythoeindopljmkaa.P
open Go.RowKit Go.Proofs.YthoeindopljmkaaW.PrintWords Go.Proofs.YthoeindopljmkaaW.PrintLast Go.Proofs.YthoeindopljmkaaW.PrintMore
set_option linter.unusedVariables false
set_option linter.unusedSimpArgs false
theorem kn_drop : pump_Drop.f 1000 [exL] [exK] 3 = some (5, 1, 0) := by kernel_rfl
theorem kn_row2 : pump_Row.f [exL] [exK, exK] 2 = some (0, 0) := by kernel_rfl
theorem kn_row5 : pump_Row.f [exL] [exK, exK] 5 = some (8, 0) := by kernel_rfl
theorem kn_lacks : pump_Lacks.f 1000 [exL] [exK] [[5, 5, 0, 0]] [[0, 4, 0, 4]] = some ([], [], 21) := by kernel_rfl
theorem kn_most : pump_Most.f [] 1 = some (0, 4) := by kernel_rfl
set_option maxHeartbeats 8000000 in
set_option maxRecDepth 100000 in
theorem pumpKnown_walk (w : World) : Calls Try.prog 14 #[] w fun e w' => e = .returned (.bool true) ∧ Below w.heap.size w w' := by
  have hu40 := Try.underlying40
  have hu56 := Try.underlying56
  go_enter Try.func14, Try.ntmps14
  go_wp2_with fail
  refine (P_c _).mono ?_
  rintro e w1 ⟨A1, d1, A2, d2, rfl, hl, hl', hC, hC', hb1⟩
  have K := Aside0.mk (pump_Drop.calls 1000 A1 d1 [exL] A2 d2 [exK] 3 5 1 0 w1 hC hl hC' hl' kn_drop)
  clear hC hl hC' hl'
  go_wp2_with fail
  refine K.out.mono ?_
  rintro e w2 ⟨rfl, hb2⟩
  clear K
  go_wp2_with fail
  refine (Q_c _).mono ?_
  rintro e w3 ⟨A3, d3, A4, d4, rfl, hl, hl', hC, hC', hb3⟩
  have K := Aside0.mk (pump_Row.calls A3 d3 [exL] A4 d4 [exK, exK] 2 0 0 w3 hC hl hC' hl' kn_row2)
  clear hC hl hC' hl'
  go_wp2_with fail
  refine K.out.mono ?_
  rintro e w4 ⟨rfl, hb4⟩
  clear K
  go_wp2_with fail
  refine (Q_c _).mono ?_
  rintro e w5 ⟨A5, d5, A6, d6, rfl, hl, hl', hC, hC', hb5⟩
  have K := Aside0.mk (pump_Row.calls A5 d5 [exL] A6 d6 [exK, exK] 5 8 0 w5 hC hl hC' hl' kn_row5)
  clear hC hl hC' hl'
  go_wp2_with fail
  refine K.out.mono ?_
  rintro e w6 ⟨rfl, hb6⟩
  clear K
  go_wp2_with fail
  refine (P_c _).mono ?_
  rintro e w7 ⟨A7, d7, A8, d8, rfl, hl, hl', hC, hC', hb7⟩
  have PP := Aside0.mk (And.intro hl (And.intro hl' (And.intro hC hC')))
  clear hC hl hC' hl'
  go_wp2_with fail
  have CX := Aside0.mk (course_C w7 5 5 0 0 0 4 0 4 _ rfl)
  refine (pump_Lacks.calls 1000 A7 d7 [exL] A8 d8 [exK] (some ⟨w7.heap.size + 1, 0, none⟩) 1 [[5, 5, 0, 0]] (some ⟨w7.heap.size + 1 + 1 + 1, 0, none⟩) 1 [[0, 4, 0, 4]] [] [] 21 _
    (Kd.C_below PP.out.2.2.1 CX.out.1) PP.out.1 (Kd.C_below PP.out.2.2.2 CX.out.1) PP.out.2.1 CX.out.2.1 (Nat.le_refl _) CX.out.2.2 (Nat.le_refl _) kn_lacks).mono ?_
  rintro e w8 ⟨v8, v9, rfl, h8, h9, hb⟩
  have hb8 := CX.out.1.trans (hb.mono CX.out.1.size)
  clear h8 h9 hb CX PP
  go_wp2_with fail
  refine (pump_Most.calls none 0 [] 1 0 4 w8 (Kd.C_nil _ _) (Nat.le_refl _) kn_most).mono ?_
  rintro e w9 ⟨rfl, hb9⟩
  have H9 := Aside0.mk (below_t hb1 (below_t hb2 (below_t hb3 (below_t hb4 (below_t hb5 (below_t hb6 (below_t hb7 (below_t hb8 hb9))))))))
  clear hb1 hb2 hb3 hb4 hb5 hb6 hb7 hb8 hb9
  go_wp2_with fail
  refine (works_c _).mono ?_
  rintro e wa ⟨rfl, hba⟩
  have HA := Aside0.mk (below_t H9.out hba)
  clear hba
  go_wp2
  go_ret
  exact ⟨rfl, HA.out⟩
end Go.Proofs.Ythoeindopljmkaa.P
end
